/- An abstract interpreter of the model's code: values as trees, slices by value, variables in memory as numbered objects. -/
import GoSem.Dispatch
namespace Go.Den
open Go

/-- Data: what an argument reads as, without memory. A slice bears its elements' type. -/
inductive E where
  | int (k : IntKind) (n : Int)
  | bool (b : Bool)
  | str (s : List UInt8)
  | sl (et : TypeId) (xs : List E)
  | agg (cs : List E)
  | ifc (t : TypeId) (x : E)
  | nili
  deriving Inhabited

def E.cells : E → List E
  | .agg cs => cs
  | x => [x]
def E.toInt : E → Int | .int _ n => n | _ => 0
def E.toBool : E → Bool | .bool b => b | _ => false
def E.toStr : E → List UInt8 | .str s => s | _ => []
def E.toList : E → List E | .sl _ xs => xs | _ => []
def E.cell (y : E) (j : Nat) : E := y.cells.getD j .nili

/-- What a slot of a frame, or a cell of an object, holds. -/
inductive AV where
  | e (x : E)
  | nils (et : TypeId)
  | own (id : Nat) (et : TypeId) (xs : List E)
  | agg (cs : List AV)
  | tup (vs : List AV)
  | ptr (id off : Nat)
  | nilp
  | pin (et : TypeId) (y : E) (off : Nat)
  | fn (f : FuncId)
  | undef
  deriving Inhabited

/-- An object: a variable in memory; or a growing slice, of which its newest length is kept. -/
inductive Ob where
  | box (cells : List AV)
  | vec (et : TypeId) (n : Nat)
  deriving Inhabited

abbrev Heap := List Ob
abbrev Fr := List AV

inductive Ex where
  | norm
  | exit (id : Nat)
  | ret
  | pan (x : E)

structure Out where
  ex : Ex
  fr : Fr
  hp : Heap

inductive Res where
  | ret (v : AV)
  | pan (x : E)

/-! ### Types -/

def depth : Nat := 12

/-- The types of a variable's cells. -/
def flat (P : Program) : Nat → TypeId → Option (List TypeId)
  | 0, _ => none
  | d + 1, t =>
    match P.underlying t with
    | some (.struct fs) => (fs.toList.mapM fun f => flat P d f.type).map List.flatten
    | some (.array n e) => (flat P d e).map fun l => (List.replicate n l).flatten
    | some _ => some [t]
    | none => none

def isAggB (P : Program) (t : TypeId) : Bool :=
  match P.underlying t with
  | some (.struct _) | some (.array _ _) => true
  | _ => false

def sizeB (P : Program) (t : TypeId) : Option Nat :=
  match P.underlying t, P.info? t with
  | some _, some i => some i.size
  | _, _ => none

/-- A cell of a type, by its parts. -/
def canon (P : Program) (ct : TypeId) (x : E) : Option E :=
  match P.underlying ct with
  | some (.int k) => some (.int k x.toInt)
  | some .bool => some (.bool x.toBool)
  | some .string => some (.str x.toStr)
  | some (.slice e) => some (.sl e x.toList)
  | _ => none

/-- Is a cell of a type: by its head alone. -/
def okCell (P : Program) (ct : TypeId) (x : E) : Bool :=
  match P.underlying ct, x with
  | some (.int k), .int k' _ => k == k'
  | some .bool, .bool _ => true
  | some .string, .str _ => true
  | some (.slice e), .sl e' _ => e == e'
  | _, _ => false

def okRow (P : Program) (et : TypeId) (y : E) : Bool :=
  match flat P depth et with
  | some fs => fs.length == y.cells.length && (fs.zip y.cells).all fun (ct, c) => okCell P ct c
  | none => false

/-! ### Values -/

def AV.cells : AV → List AV
  | .agg cs => cs
  | v => [v]

/-- What may stand in one cell of an object. -/
def AV.one : AV → Bool
  | .e (.agg _) => false
  | .e _ | .nils _ | .own .. | .ptr .. | .nilp | .pin .. | .fn _ => true
  | _ => false

/-- The data of a cell. -/
def AV.seal1 : AV → Option E
  | .e x => some x
  | .nils t => some (.sl t [])
  | .own _ t xs => some (.sl t xs)
  | _ => none

def AV.dat : AV → Option E
  | .agg cs => (cs.mapM AV.seal1).map E.agg
  | v => v.seal1

def unfold1 : E → Option AV
  | .agg cs => if cs.all (fun c => (AV.e c).one) = true then some (.agg (cs.map AV.e)) else none
  | x => some (.e x)

/-- A value without rights to grow, where it is data; else itself. -/
def AV.calm1 (v : AV) : AV :=
  match v.seal1 with
  | some x => .e x
  | none => v

def AV.calm : AV → AV
  | .agg cs => .agg (cs.map AV.calm1)
  | .tup _ => .undef
  | v => v.calm1

def AV.calmT : AV → AV
  | .tup vs => .tup (vs.map AV.calm)
  | v => v.calm

/-! ### Objects that a value names -/

def AV.ids1 : AV → List Nat
  | .own id _ _ => [id]
  | .ptr id _ => [id]
  | _ => []
def AV.ids2 : AV → List Nat
  | .agg cs => cs.flatMap AV.ids1
  | v => v.ids1
def AV.ids3 : AV → List Nat
  | .tup vs => vs.flatMap AV.ids2
  | v => v.ids2
def Ob.ids : Ob → List Nat
  | .box cs => cs.flatMap AV.ids1
  | .vec .. => []

def AV.ren1 (r : Nat → Nat) : AV → AV
  | .own id t xs => .own (r id) t xs
  | .ptr id off => .ptr (r id) off
  | v => v
def AV.ren2 (r : Nat → Nat) : AV → AV
  | .agg cs => .agg (cs.map (AV.ren1 r))
  | v => v.ren1 r
def AV.ren3 (r : Nat → Nat) : AV → AV
  | .tup vs => .tup (vs.map (AV.ren2 r))
  | v => v.ren2 r
def Ob.ren (r : Nat → Nat) : Ob → Ob
  | .box cs => .box (cs.map (AV.ren1 r))
  | .vec t n => .vec t n

def addNew : List Nat → List Nat → List Nat
  | acc, [] => acc
  | acc, i :: is => addNew (if acc.contains i then acc else acc ++ [i]) is

/-- The numbers that can be reached from 'ids', in the order in which they are met. -/
def closure (σ : Heap) : Nat → List Nat → List Nat
  | 0, ids => ids
  | k + 1, ids => closure σ k (addNew ids (ids.flatMap fun id => match σ[id]? with | some o => o.ids | none => []))

def idx (ids : List Nat) (id : Nat) : Nat := ids.findIdx (· == id)
def unidx (ids : List Nat) (k : Nat) : Nat := ids.getD k 0

/-- The objects 'ids', numbered anew. (none: one of them is not there, or names one that is not among them.) -/
def subHeap (σ : Heap) (ids : List Nat) : Option Heap :=
  ids.mapM fun id => match σ[id]? with
    | some o => if o.ids.all ids.contains then some (o.ren (idx ids)) else none
    | none => none

/-! ### Operations -/

def evalO : Fr → Operand → Option AV
  | fr, .tmp t => fr[t]?
  | _, .const (.int k n) => some (.e (.int k n))
  | _, .const (.bool b) => some (.e (.bool b))
  | _, .const (.string s) => some (.e (.str s.data.toList))
  | _, .const (.pointer none) => some .nilp
  | _, .const .nilIface => some (.e .nili)
  | _, .func f => some (.fn f)
  | _, _ => none

/-- An operand that may be the nil slice, at a slice type. -/
def evalT (P : Program) (t : TypeId) (fr : Fr) (x : Operand) : Option AV :=
  match x with
  | .const (.slice none 0 0) =>
    match P.underlying t with
    | some (.slice et) => if (flat P depth et).isSome = true then some (.nils et) else none
    | _ => none
  | x => evalO fr x

def strEq (a b : List UInt8) : Bool := a == b

def bitsOp (op : BinOp) (k : IntKind) (x y : Int) : Option Int :=
  let a := BitVec.ofInt k.bits x
  let b := BitVec.ofInt k.bits y
  match op with
  | .and => some (k.wrap (a &&& b).toNat)
  | .or => some (k.wrap (a ||| b).toNat)
  | .xor => some (k.wrap (a ^^^ b).toNat)
  | .andNot => some (k.wrap (a &&& ~~~b).toNat)
  | _ => none

/-- A binary operation: what must hold, and the value. -/
def evalBin (P : Program) (t : TypeId) (op : BinOp) (x y : AV) : Option (Bool × E) :=
  match op, x, y with
  | .shl, .e (.int k a), .e (.int _ b) => some (decide (0 ≤ b), .int k (k.wrap (a * 2 ^ (min b.toNat k.bits))))
  | .shr, .e (.int k a), .e (.int _ b) => some (decide (0 ≤ b), .int k (a.fdiv (2 ^ (min b.toNat k.bits))))
  | op, .e (.int k a), .e (.int k' b) =>
    if k = k' then
      match op with
      | .add => some (true, .int k (k.wrap (a + b)))
      | .sub => some (true, .int k (k.wrap (a - b)))
      | .mul => some (true, .int k (k.wrap (a * b)))
      | .quo => some (!decide (b = 0), .int k (k.wrap (a.tdiv b)))
      | .rem => some (!decide (b = 0), .int k (a.tmod b))
      | .and | .or | .xor | .andNot => (bitsOp op k a b).map fun n => (true, .int k n)
      | .eql => some (true, .bool (a == b))
      | .neq => some (true, .bool (!(a == b)))
      | .lss => some (true, .bool (decide (a < b)))
      | .leq => some (true, .bool (decide (a ≤ b)))
      | .gtr => some (true, .bool (decide (b < a)))
      | .geq => some (true, .bool (decide (b ≤ a)))
      | _ => none
    else none
  | op, .e (.str a), .e (.str b) =>
    match op with
    | .add => some (decide (a.length + b.length ≤ 9223372036854775807), .str (a ++ b))
    | .eql => some (true, .bool (strEq a b))
    | .neq => some (true, .bool (!strEq a b))
    | .lss => some (true, .bool (Op.bytesLess a b))
    | .leq => some (true, .bool (Op.bytesLess a b || strEq a b))
    | .gtr => some (true, .bool (!(Op.bytesLess a b || strEq a b)))
    | .geq => some (true, .bool (!Op.bytesLess a b))
    | _ => none
  | op, .e (.bool a), .e (.bool b) =>
    match P.underlying t, op with
    | some .bool, .eql => some (true, .bool (a == b))
    | some .bool, .neq => some (true, .bool (!(a == b)))
    | _, _ => none
  | op, .e .nili, .e (.ifc ..) =>
    match P.underlying t, op with
    | some (.interface _), .eql => some (true, .bool false)
    | some (.interface _), .neq => some (true, .bool true)
    | _, _ => none
  | op, .e (.ifc ..), .e .nili =>
    match P.underlying t, op with
    | some (.interface _), .eql => some (true, .bool false)
    | some (.interface _), .neq => some (true, .bool true)
    | _, _ => none
  | _, _, _ => none

def evalUn (op : UnOp) (x : AV) : Option E :=
  match op, x with
  | .neg, .e (.int k n) => some (.int k (k.wrap (0 - n)))
  | .not, .e (.bool b) => some (.bool (!b))
  | _, _ => none

/-- A bound of a slice expression. -/
def sliceL (fr : Fr) : Option Operand → Option Int
  | none => some 0
  | some x => match evalO fr x with | some (.e (.int _ n)) => some n | _ => none
def sliceH (fr : Fr) (len : Nat) : Option Operand → Option Int
  | none => some len
  | some x => match evalO fr x with | some (.e (.int _ n)) => some n | _ => none

def loadPin (P : Program) (t et : TypeId) (y : E) (off : Nat) : Option AV :=
  match flat P depth et, flat P depth t with
  | some fe, some ft =>
    if (fe.drop off).take ft.length = ft then
      if isAggB P t then
        (ft.zipIdx.mapM fun (ct, j) => (canon P ct (y.cell (off + j))).map AV.e).map AV.agg
      else
        match ft with
        | [ct] => (canon P ct (y.cell off)).map AV.e
        | _ => none
    else none
  | _, _ => none

def splice (cs : List AV) (off : Nat) (vs : List AV) : List AV := cs.take off ++ vs ++ cs.drop (off + vs.length)

/-- Nil slices that are laid in variables may grow. -/
def promote1 (v : AV) (σ : Heap) : AV × Heap :=
  match v with
  | .nils t => (.own σ.length t [], σ ++ [.vec t 0])
  | v => (v, σ)
def promoteL : List AV → Heap → List AV × Heap
  | [], σ => ([], σ)
  | v :: vs, σ =>
    let r := promote1 v σ
    let q := promoteL vs r.2
    (r.1 :: q.1, q.2)

/-- The zero value of a cell, and that the model's own is that. -/
def zeroCell (P : Program) (ct : TypeId) : Option AV :=
  match P.underlying ct with
  | some (.int k) => some (.e (.int k 0))
  | some .bool => some (.e (.bool false))
  | some .string => some (.e (.str []))
  | some (.slice e) => if (flat P depth e).isSome = true then some (.nils e) else none
  | some (.pointer _) => some .nilp
  | some (.interface _) => some (.e .nili)
  | _ => none
def isZero : Value → AV → Bool
  | .int k n, .e (.int k' n') => k == k' && n == n'
  | .bool b, .e (.bool b') => b == b'
  | .string s, .e (.str s') => s.data.toList == s'
  | .slice none 0 0, .nils _ => true
  | .pointer none, .nilp => true
  | .nilIface, .e .nili => true
  | _, _ => false
def zeroOf (P : Program) (t : TypeId) : Option AV :=
  match P.info? t, flat P depth t with
  | some i, some ft =>
    match i.zero, ft.mapM (zeroCell P) with
    | some z, some cs =>
      if isAggB P t then
        match z with
        | .agg arr => if arr.toList.length = cs.length ∧ (arr.toList.zip cs).all (fun p => isZero p.1 p.2) = true then some (.agg cs) else none
        | _ => none
      else
        match cs with
        | [c] => if isZero z c then some c else none
        | _ => none
    | _, _ => none
  | _, _ => none

/-- Elements out of cells. -/
def chunk (sz : Nat) : Nat → List E → List E
  | 0, _ => []
  | n + 1, cs => .agg (cs.take sz) :: chunk sz n (cs.drop sz)
def elems (P : Program) (et : TypeId) (sz n : Nat) (cs : List E) : List E :=
  if isAggB P et then chunk sz n cs else cs

def fillA (place : Nat → Option (Nat × Nat)) (cells : List AV) : List (Nat × AV) → Option (List AV)
  | [] => some cells
  | (i, v) :: rest =>
    match place i with
    | none => none
    | some (off, size) =>
      if v.cells.length ≠ size || decide (off + v.cells.length > cells.length) || !(v.cells.all AV.one) then none
      else fillA place (splice cells off v.cells) rest

/-- What an append hands on. -/
def srcOf (P : Program) (et tx : TypeId) (v : AV) : Option (List E) :=
  match v with
  | .e (.str s) =>
    match P.underlying tx, P.underlying et with
    | some .string, some (.int .u8) => some (s.map fun c => .int .u8 c.toNat)
    | _, _ => none
  | v =>
    match P.underlying tx, v.seal1 with
    | some (.slice et'), some (.sl et'' ys) => if et = et' ∧ et = et'' then some ys else none
    | _, _ => none

/-- Does an append hand this slice's elements on? -/
def spreads (dst : Option Nat) (ops : List Oper) : Bool :=
  ops.any fun q =>
    match q.op with
    | .call { callee := .builtin .append, args, .. } =>
      match args.toList with
      | [_, .tmp u] => dst == some u
      | _ => false
    | _ => false

/-- An operation that is no call: what must hold, the value, the objects. -/
def evalOp (P : Program) (still : Bool) (ops : List Oper) (fr : Fr) (σ : Heap) (o : Oper) : Option (Bool × AV × Heap) :=
  match o.op with
  | .move x => (evalT P o.type fr x).map fun v => (true, v, σ)
  | .assign x =>
    match evalT P o.type fr x with
    | some v => if still then some (true, v, σ) else some (true, (promote1 v σ).1, (promote1 v σ).2)
    | none => none
  | .pick c a b =>
    match evalO fr c, evalO fr a, evalO fr b with
    | some (.e (.bool c)), some (.e (.bool x)), some (.e (.bool y)) => some (true, .e (.bool (cond c x y)), σ)
    | some (.e (.bool c)), some va, some vb => some (true, cond c va vb, σ)
    | _, _, _ => none
  | .box t x =>
    if still then none else
    match evalT P t fr x, sizeB P t with
    | some v, some n =>
      if v.cells.length = n ∧ v.cells.all AV.one = true then
        let r := promoteL v.cells σ
        some (true, .ptr r.2.length 0, r.2 ++ [.box r.1])
      else none
    | _, _ => none
  | .alloc t =>
    if still then none else
    match zeroOf P t with
    | some v =>
      let r := promoteL v.cells σ
      some (true, .ptr r.2.length 0, r.2 ++ [.box r.1])
    | none => none
  | .build t parts =>
    match zeroOf P t, P.underlying t with
    | some (.agg zs), some (.struct fs) =>
      match fs.toList.mapM (fun f => (P.info? f.type).map fun i => (f.offset, i.size)),
        parts.toList.mapM (fun p => match (fs[p.1]?).map (·.type) with | some t => (evalT P t fr p.2).map fun v => (p.1, v) | none => none) with
      | some places, some ps => (fillA (fun i => places[i]?) zs ps).map fun cs => (true, .agg cs, σ)
      | _, _ => none
    | _, _ => none
  | .buildSlice t len parts =>
    match P.underlying t with
    | some (.slice et) =>
      match zeroOf P et, sizeB P et, parts.toList.mapM (fun p => match some et with | some t => (evalT P t fr p.2).map fun v => (p.1, v) | none => none), flat P depth et with
      | some z, some sz, some ps, some fs =>
        if sz = 0 ∨ len = 0 ∨ len * sz > 4096 ∨ z.cells.length ≠ sz ∨ fs.length ≠ sz then none else
        match fillA (fun i => some (i * sz, sz)) ((List.range (len * sz)).map fun k => z.cells.getD (k % sz) .undef) ps with
        | some cs =>
          match cs.mapM AV.seal1 with
          | some es =>
            let xs := elems P et sz len es
            if xs.all (okRow P et) = true then
              if still || spreads o.dst ops then some (true, .e (.sl et xs), σ)
              else some (true, .own σ.length et xs, σ ++ [.vec et xs.length])
            else none
          | none => none
        | none => none
      | _, _, _, _ => none
    | _ => none
  | .load t a =>
    match evalO fr a with
    | some (.ptr id off) =>
      match σ[id]?, sizeB P t with
      | some (.box cs), some n =>
        if off + n ≤ cs.length then
          if isAggB P t then some (true, .agg ((cs.drop off).take n), σ)
          else if n = 1 then (cs[off]?).map fun v => (true, v, σ) else none
        else none
      | _, _ => none
    | some (.pin et y off) => if (flat P depth t).map List.length = sizeB P t then (loadPin P t et y off).map fun v => (true, v, σ) else none
    | _ => none
  | .store t a x =>
    if still then none else
    match evalO fr a, evalT P t fr x, sizeB P t with
    | some (.ptr id off), some v, some n =>
      match σ[id]? with
      | some (.box cs) =>
        if v.cells.length = n ∧ off + n ≤ cs.length ∧ v.cells.all AV.one = true then
          let r := promoteL v.cells σ
          some (true, .undef, r.2.set id (.box (splice cs off r.1)))
        else none
      | _ => none
    | _, _, _ => none
  | .nilCheck x =>
    match evalO fr x with
    | some (.ptr id off) => some (true, .ptr id off, σ)
    | some (.pin et y off) => some (true, .pin et y off, σ)
    | some (.fn f) => some (true, .fn f, σ)
    | _ => none
  | .binOp op t x y _ =>
    match evalT P t fr x, evalT P t fr y with
    | some a, some b => (evalBin P t op a b).map fun r => (r.1, .e r.2, σ)
    | _, _ => none
  | .unOp op _ x => ((evalO fr x).bind (evalUn op)).map fun v => (true, .e v, σ)
  | .convert src dst x =>
    match P.underlying src, P.underlying dst, evalO fr x with
    | some (.int _), some (.int k), some (.e (.int _ n)) => some (true, .e (.int k (k.wrap n)), σ)
    | some .string, some .string, some (.e (.str s)) => some (true, .e (.str s), σ)
    | _, _, _ => none
  | .makeInterface t x =>
    match P.underlying t, (evalO fr x).bind AV.dat with
    | some (.interface _), _ => none
    | some _, some v => some (true, .e (.ifc t v), σ)
    | _, _ => none
  | .slice t x lo hi none =>
    match P.underlying t, evalO fr x with
    | some .string, some (.e (.str s)) =>
      match sliceL fr lo, sliceH fr s.length hi with
      | some l, some h => some (decide (0 ≤ l) && decide (l ≤ h) && decide (h ≤ s.length), .e (.str ((s.take h.toNat).drop l.toNat)), σ)
      | _, _ => none
    | some (.slice et), some v =>
      match v.seal1 with
      | some (.sl et' xs) =>
        if et = et' ∧ (flat P depth et).map List.length = sizeB P et then
          match sliceL fr lo, sliceH fr xs.length hi with
          | some l, some h => some (decide (0 ≤ l) && decide (l ≤ h) && decide (h ≤ xs.length), .e (.sl et ((xs.take h.toNat).drop l.toNat)), σ)
          | _, _ => none
        else none
      | _ => none
    | _, _ => none
  | .fieldAddr s x i =>
    match P.underlying s with
    | some (.struct fs) =>
      match fs[i]? with
      | some f =>
        if (sizeB P f.type).any (· ≠ 0) then
          match evalO fr x with
          | some (.ptr id off) => some (true, .ptr id (off + f.offset), σ)
          | some (.pin et y off) => some (true, .pin et y (off + f.offset), σ)
          | _ => none
        else none
      | none => none
    | _ => none
  | .field t x i =>
    match P.underlying t, evalO fr x with
    | some (.struct fs), some (.agg cs) =>
      match fs[i]? with
      | some f =>
        if isAggB P f.type then
          match sizeB P f.type with
          | some n => if f.offset + n ≤ cs.length then some (true, .agg ((cs.drop f.offset).take n), σ) else none
          | none => none
        else if (sizeB P f.type).isSome then (cs[f.offset]?).map fun v => (true, v, σ) else none
      | none => none
    | _, _ => none
  | .indexAddr t x i =>
    match P.underlying t, (evalO fr x).bind AV.seal1, evalO fr i with
    | some (.slice et), some (.sl et' xs), some (.e (.int _ n)) =>
      if et = et' ∧ (flat P depth et).map List.length = sizeB P et ∧ (sizeB P et).any (· ≠ 0) = true then
        some (decide (0 ≤ n) && decide (n < xs.length), .pin et (xs.getD n.toNat .nili) 0, σ)
      else none
    | _, _, _ => none
  | .index t x i =>
    match P.underlying t, evalO fr x, evalO fr i with
    | some .string, some (.e (.str s)), some (.e (.int _ n)) =>
      some (decide (0 ≤ n) && decide (n < s.length), .e (.int .u8 ((s.getD n.toNat 0).toNat : Int)), σ)
    | _, _, _ => none
  | .typeAssert x _ t ok =>
    match P.underlying t, evalO fr x with
    | some (.interface _), _ => none
    | some _, some (.e (.ifc u v)) =>
      match unfold1 v with
      | some v' =>
        (if ok then (if u = t then some (AV.tup [v', .e (.bool true)]) else (zeroOf P t).map fun z => .tup [z, .e (.bool false)]) else if u = t then some v' else none).map fun r => (true, r, σ)
      | none => none
    | _, _ => none
  | .extract x i =>
    match evalO fr x with
    | some (.tup vs) => (vs[i]?).map fun v => (true, v, σ)
    | _ => none
  | .call { callee := .builtin .len, args, argTypes } =>
    match (argTypes[0]?).bind P.underlying, args.toList.map (evalO fr) with
    | some .string, [some (.e (.str s))] => some (true, .e (.int .i64 s.length), σ)
    | some (.slice _), [some v] =>
      match v.seal1 with
      | some (.sl _ xs) => some (true, .e (.int .i64 xs.length), σ)
      | _ => none
    | _, _ => none
  | .call { callee := .builtin .append, args, argTypes } =>
    if still then none else
    match argTypes.toList, args.toList with
    | [t, tx], [x, y] =>
      match P.underlying t with
      | some (.slice et) =>
        match P.info? et, flat P depth et, evalT P t fr x, (evalT P tx fr y).bind (srcOf P et tx) with
        | some i, some fs, some s, some ys =>
          if i.zero.any (fun z => z.cells.size == fs.length) = true ∧ i.size = fs.length ∧ fs.length ≠ 0 ∧ i.bytes ≠ 0 then
            match s with
            | .nils et' => if et = et' then some (decide (ys.length * i.bytes ≤ 140737488355328), .own σ.length et ys, σ ++ [.vec et ys.length]) else none
            | .own id et' xs =>
              match σ[id]? with
              | some (.vec et'' n) =>
                if et = et' ∧ et = et'' then
                  some (decide (n = xs.length) && decide ((xs.length + ys.length) * i.bytes ≤ 140737488355328), .own id et (xs ++ ys), σ.set id (.vec et (xs ++ ys).length))
                else none
              | _ => none
            | _ => none
          else none
        | _, _, _, _ => none
      | _ => none
    | _, _ => none
  | .call { callee := .builtin .max, args, .. } =>
    match args.toList.map (evalO fr) with
    | [some (.e (.int k x)), some (.e (.int k' y))] => if k = k' then some (true, .e (.int k (max x y)), σ) else none
    | _ => none
  | .call { callee := .builtin .min, args, .. } =>
    match args.toList.map (evalO fr) with
    | [some (.e (.int k x)), some (.e (.int k' y))] => if k = k' then some (true, .e (.int k (min x y)), σ) else none
    | _ => none
  | _ => none

/-- Operations that end well whatever their operands hold. -/
def safeOp (o : Oper) : Bool :=
  match o.op with
  | .move _ | .pick .. | .load .. | .fieldAddr .. | .field .. | .unOp .. | .extract .. => true
  | .binOp op .. => match op with | .quo | .rem | .shl | .shr | .add => false | _ => true
  | .call { callee := .builtin .len, .. } => true
  | _ => false

/-! ### Results of calls, by their types -/

def Res.val : Res → AV
  | .ret v => v
  | .pan _ => .undef
def Res.isPan : Res → Bool
  | .ret _ => false
  | .pan _ => true
def Res.why : Res → E
  | .ret _ => .nili
  | .pan x => x

def AV.data (v : AV) : E := v.dat.getD .nili

def AV.comp : AV → Nat → AV
  | .tup vs, i => vs.getD i .undef
  | _, _ => .undef

/-- A result of a type, by its parts. -/
def canonRes1 (P : Program) (t : TypeId) (r : AV) : Option AV :=
  if isAggB P t then
    match flat P depth t with
    | some ft => (ft.zipIdx.mapM fun (ct, j) => (canon P ct (r.data.cell j)).map AV.e).map AV.agg
    | none => none
  else (canon P t r.data).map AV.e

def canonRes (P : Program) (t : TypeId) (r : AV) : Option AV :=
  match P.underlying t with
  | some (.tuple ts) => (ts.toList.zipIdx.mapM fun (u, i) => canonRes1 P u (r.comp i)).map AV.tup
  | some _ => canonRes1 P t r
  | none => none

def okCells (P : Program) (ft : List TypeId) (rs : List AV) : Bool :=
  rs.length == ft.length && (ft.zip rs).all fun (ct, v) => (match v with | .e x => okCell P ct x | _ => false)

/-- Has a result the form that its type asks? -/
def okRes1 (P : Program) (t : TypeId) (r : AV) : Bool :=
  if isAggB P t then
    match flat P depth t, r with
    | some ft, .agg rs => okCells P ft rs
    | _, _ => false
  else match r with | .e x => okCell P t x | _ => false

def okRes (P : Program) (t : TypeId) (r : Res) : Bool :=
  match r with
  | .pan _ => false
  | .ret v =>
    match P.underlying t with
    | some (.tuple ts) =>
      match v with
      | .tup vs => vs.length == ts.toList.length && (ts.toList.zip vs).all fun (u, v) => okRes1 P u v
      | _ => false
    | some _ => okRes1 P t v
    | none => false

/-- A cell behind a call, of the form that it had. -/
def likeCell : AV → AV → AV
  | .e (.int k _), v => .e (.int k v.data.toInt)
  | .e (.bool _), v => .e (.bool v.data.toBool)
  | .e (.str _), v => .e (.str v.data.toStr)
  | .e (.sl t _), v => .e (.sl t v.data.toList)
  | .own id t _, v => .own id t v.data.toList
  | u, _ => u
def okLike : AV → AV → Bool
  | .e (.int k _), .e (.int k' _) => k == k'
  | .e (.bool _), .e (.bool _) => true
  | .e (.str _), .e (.str _) => true
  | .e (.sl t _), .e (.sl t' _) => t == t'
  | .own id t _, .own id' t' _ => id == id' && t == t'
  | .ptr id off, .ptr id' off' => id == id' && off == off'
  | .nilp, .nilp => true
  | .fn f, .fn f' => f == f'
  | _, _ => false

def Ob.cell (o : Ob) (j : Nat) : AV := match o with | .box cs => cs.getD j .undef | _ => .undef
def Ob.len (o : Ob) : Nat := match o with | .vec _ n => n | _ => 0
def Heap.ob (h : Heap) (k : Nat) : Ob := h.getD k (.vec 0 0)

def likeHeap (σ h : Heap) : Heap :=
  σ.zipIdx.map fun (o, k) =>
    match o with
    | .box cs => .box (cs.zipIdx.map fun (c, j) => likeCell c ((Heap.ob h k).cell j))
    | .vec t _ => .vec t (Heap.ob h k).len
def okHeap (σ h : Heap) : Bool :=
  σ.length == h.length && (σ.zip h).all fun (o, q) =>
    match o, q with
    | .box cs, .box ds => cs.length == ds.length && (cs.zip ds).all fun (c, d) => okLike c d
    | .vec t _, .vec t' _ => t == t'
    | _, _ => false

def put (fr : Fr) (dst : Option Nat) (v : AV) : Fr :=
  match dst with
  | some d => fr.set d v
  | none => fr

structure Hints where
  prim : FuncId → Option (List AV → Option AV)
  live : FuncId → Nat → List Nat
  pans : FuncId → Bool

structure Ctx where
  P : Program
  m : Nat
  live : Nat → List Nat
  pans : FuncId → Bool
  run : FuncId → List AV → Heap → Option (Res × Heap)
  loop : Code → Fr → Heap → Option Out

/-- The objects behind a call that was handed those of 'ids'. -/
def backTo (ids : List Nat) (h σ : Heap) : Heap :=
  ids.zipIdx.foldl (fun acc p => acc.set p.1 ((Heap.ob h p.2).ren (unidx ids))) σ

/-- A call of a Go function: on the objects that its arguments reach. -/
def callK {R : Type} (C : Ctx) (t : TypeId) (f : FuncId) (args : List AV) (σ : Heap) (K : AV → Heap → Option R) (Kp : E → Heap → Option R) : Option R :=
  let as := args.map AV.calm
  let ids := closure σ 6 (addNew [] (as.flatMap AV.ids2))
  match subHeap σ ids with
  | none => none
  | some σc =>
    (C.run f (as.map (AV.ren2 (idx ids))) σc).bind fun rh =>
      match σc with
      | [] =>
        match canonRes C.P t rh.1.val with
        | some v =>
          if C.pans f then
            cond (rh.2.isEmpty) (cond rh.1.isPan (Kp rh.1.why σ) (cond (okRes C.P t rh.1) (K v σ) none)) none
          else cond (okRes C.P t rh.1 && rh.2.isEmpty) (K v σ) none
        | none => none
      | σc =>
        match canonRes C.P t rh.1.val with
        | some v =>
          let h := backTo ids (likeHeap σc rh.2) σ
          if C.pans f then
            cond (okHeap σc rh.2) (cond rh.1.isPan (Kp rh.1.why h) (cond (okRes C.P t rh.1) (K (v.ren3 (unidx ids)) h) none)) none
          else cond (okRes C.P t rh.1 && okHeap σc rh.2) (K (v.ren3 (unidx ids)) h) none
        | none => none

def distinct : List Nat → Bool
  | [] => true
  | d :: ds => !ds.contains d && distinct ds

/-- In a region that draws its order: each name is written once, and nobody waits for one that comes later. -/
def orderOk (ops : List Oper) (h : Nat) : Bool :=
  distinct ((ops.take h).filterMap (·.dst)) && ops.zipIdx.all fun (o, i) => o.after.toList.all fun e => !Region.binds .any e || decide (e.on < i)

/-- Does an operation wait for number j? -/
def waits (o : Oper) (j : Nat) : Bool := o.after.toList.any fun e => e.on == j && Region.binds .any e

/-- Behind the first h operations each waits: the first of them for all those, each other one for the one ahead of it. -/
def tailOk (ops : List Oper) (h : Nat) : Bool :=
  ops.zipIdx.all fun (o, i) => if i < h then true else if i = h then (List.range h).all (waits o) else waits o (i - 1)

/-- Where that begins: of a reversed list with its numbers, while they wait. -/
def tailAt : List (Oper × Nat) → Nat → Nat
  | [], best => best
  | (o, i) :: rest, best =>
    let best' := if (List.range i).all (waits o) then i else best
    if i = 0 then best' else if waits o (i - 1) then tailAt rest best' else best'

def dstOf (ops : List Oper) (j : Nat) : Option Nat := (ops[j]?).bind (·.dst)

/-- The operations behind a guard up to the choice that they serve. -/
def groupTo (dj : Nat) : List Oper → Option (List Oper × Oper × List Oper)
  | [] => none
  | o :: rest =>
    match o.op with
    | .pick (.tmp c) _ _ => if c = dj then some ([], o, rest) else (groupTo dj rest).map fun (g, p, r) => (o :: g, p, r)
    | _ => (groupTo dj rest).map fun (g, p, r) => (o :: g, p, r)

/-- The operations that a guard guards. -/
def guarded (j : Nat) (l : List Oper) : List Oper := l.filter fun q => match q.guard with | some (i, _) => i == j | none => false

/-- What an operation may look at: what those hold that it waits for. -/
def envOf (vals : List (Option Nat × AV)) (fr : Fr) (o : Oper) : Fr :=
  o.after.toList.foldl (fun f e => if Region.binds .any e then match vals[e.on]? with | some p => put f p.1 p.2 | none => f else f) fr

/-- A region that draws its order: no object turns, nothing panics; each operation by itself. -/
def denStill {R : Type} (C : Ctx) (ops : List Oper) : List Oper → List (Option Nat × AV) → Fr → Heap → (Fr → Option R) → Option R
  | [], vals, fr, _, K => K (vals.foldl (fun f p => put f p.1 p.2) fr)
  | o :: rest, vals, fr, σ, K =>
    let go (vals : List (Option Nat × AV)) : Option R :=
      match o.op with
      | .call { callee := .value (.func f), args, argTypes } =>
        match (args.toList.zip argTypes.toList).mapM fun (x, t) => evalT C.P t (envOf vals fr o) x with
        | some as => if args.size = argTypes.size then callK C o.type f as [] (fun v _ => denStill C ops rest (vals ++ [(o.dst, v)]) fr σ K) (fun _ _ => none) else none
        | none => none
      | _ =>
        match evalOp C.P true ops (envOf vals fr o) σ o with
        | some (ok, v, _) => cond ok (denStill C ops rest (vals ++ [(o.dst, v)]) fr σ K) none
        | none => none
    match o.guard with
    | some (j, w) =>
      if waits o j then
        match vals[j]? with
        | some (some d, .e (.bool b)) =>
          if d < fr.length then cond (b == w) (go (vals.set j (some d, .e (.bool w)))) (denStill C ops rest (vals.set j (some d, .e (.bool (!w))) ++ [(o.dst, .tup [])]) fr σ K) else none
        | some (some d, .tup []) => if d < fr.length then denStill C ops rest (vals ++ [(o.dst, .tup [])]) fr σ K else none
        | _ => none
      else none
    | none => go vals

/-- Does an operand not name one of these operations' names? -/
def aside (g : List Oper) (x : Operand) : Bool :=
  match x with
  | .tmp u => g.all fun q => q.dst != some u
  | _ => true

/-- The operations of a guard that only compute, the choice that they serve, and what comes behind. -/
def fused (ops : List Oper) (dj j : Nat) (w : Bool) (l : List Oper) : Option (List Oper × Operand × Operand × Option Nat × List Oper) :=
  match groupTo dj l with
  | some (g, p, r) =>
    match p.op, p.guard with
    | .pick (.tmp c) x y, none =>
      if c = dj ∧ g.all (fun q => safeOp q && q.guard == some (j, w) && q.dst != some dj) = true ∧ (guarded j ops).length = (guarded j g).length ∧ aside g (cond w y x) = true then some (g, x, y, p.dst, r) else none
    | _, _ => none
  | _ => none

def evalGroup (P : Program) (ops : List Oper) : List Oper → Fr → Heap → Option Fr
  | [], fr, _ => some fr
  | o :: g, fr, σ =>
    match evalOp P true ops fr σ o with
    | some (true, v, _) => evalGroup P ops g (put fr o.dst v) σ
    | _ => none

def denOps {R : Type} (C : Ctx) (ops : List Oper) : Nat → List Oper → Fr → Heap → (Fr → Heap → Option R) → (E → Fr → Heap → Option R) → Option R
  | 0, _, _, _, _, _ => none
  | _ + 1, [], fr, σ, K, _ => K fr σ
  | n + 1, o :: rest, fr, σ, K, Kp =>
    let go (fr : Fr) : Option R :=
      match o.op with
      | .call { callee := .value (.func f), args, argTypes } =>
        match (args.toList.zip argTypes.toList).mapM fun (x, t) => evalT C.P t fr x with
        | some as => if args.size = argTypes.size then callK C o.type f as σ (fun v σ' => denOps C ops n rest (put fr o.dst v) σ' K Kp) (fun x σ' => Kp x fr σ') else none
        | none => none
      | .panic x =>
        match evalO fr x with
        | some (.e (.ifc t v)) => Kp (.ifc t v) fr σ
        | _ => none
      | _ =>
        match evalOp C.P false ops fr σ o with
        | some (ok, v, σ') => cond ok (denOps C ops n rest (put fr o.dst v) σ' K Kp) none
        | none => none
    match o.guard with
    | none => go fr
    | some (j, w) =>
      match dstOf ops j with
      | none => none
      | some dj =>
        match fr[dj]? with
        | some (.e (.bool b)) =>
          match fused ops dj j w (o :: rest) with
          | some (g, x, y, d, r) =>
            match evalGroup C.P ops g fr σ with
            | some fr1 =>
              match evalO fr1 x, evalO fr1 y with
              | some (.e (.bool bx)), some (.e (.bool by')) => denOps C ops n r (put (g.foldl (fun a q => put a q.dst .undef) fr) d (.e (.bool (cond b bx by')))) σ K Kp
              | _, _ => none
            | none => none
          | none => cond (b == w) (go (fr.set dj (.e (.bool w)))) (denOps C ops n rest (put (fr.set dj (.e (.bool (!w)))) o.dst (.tup [])) σ K Kp)
        | some (.tup []) => denOps C ops n rest (put fr o.dst (.tup [])) σ K Kp
        | _ => none

/-- The slots that are kept at a loop's head, and the objects that they reach. -/
def tidy (m : Nat) (live : List Nat) (fr : Fr) (σ : Heap) : Option (Fr × Heap) :=
  let fr1 := fr.zipIdx.map fun (v, i) => if live.contains i then v else .undef
  let ids := closure σ 6 (addNew (List.range m) (fr1.flatMap AV.ids3))
  (subHeap σ ids).map fun σ1 => (fr1.map (AV.ren3 (idx ids)), σ1)

/-- The number of a piece of code's first region. -/
def firstRegion : Code → Option Nat
  | .region id _ _ => some id
  | .seq a b => match firstRegion a with | some i => some i | none => firstRegion b
  | .cond _ x y => match firstRegion x with | some i => some i | none => firstRegion y
  | .block _ b => firstRegion b
  | .loop b => firstRegion b
  | _ => none

def denCode {R : Type} (C : Ctx) : Code → Fr → Heap → (Out → Option R) → Option R
  | .skip, fr, σ, K => K ⟨.norm, fr, σ⟩
  | .label _, fr, σ, K => K ⟨.norm, fr, σ⟩
  | .region _ ops draw, fr, σ, K =>
    if draw then
      let h := tailAt ops.toList.zipIdx.reverse ops.toList.length
      if orderOk ops.toList h && tailOk ops.toList h then
        denStill C ops.toList (ops.toList.take h) [] ((ops.toList.take h).foldl (fun f o => put f o.dst .undef) fr) σ fun fr =>
          denOps C ops.toList (ops.toList.length + 1) (ops.toList.drop h) fr σ (fun fr σ => K ⟨.norm, fr, σ⟩) (fun x fr σ => K ⟨.pan x, fr, σ⟩)
      else none
    else denOps C ops.toList (ops.toList.length + 1) ops.toList fr σ (fun fr σ => K ⟨.norm, fr, σ⟩) (fun x fr σ => K ⟨.pan x, fr, σ⟩)
  | .seq a b, fr, σ, K => denCode C a fr σ fun o =>
    match o.ex with
    | .norm => denCode C b o.fr o.hp K
    | _ => K o
  | .cond c x y, fr, σ, K =>
    match evalO fr c with
    | some (.e (.bool b)) => cond b (denCode C x fr σ K) (denCode C y fr σ K)
    | _ => none
  | .block id b, fr, σ, K => denCode C b fr σ fun o =>
    match o.ex with
    | .exit i => if i = id then K ⟨.norm, o.fr, o.hp⟩ else K o
    | _ => K o
  | .loop b, fr, σ, K =>
    match firstRegion b with
    | some i =>
      match tidy C.m (C.live i) fr σ with
      | some (fr1, σ1) => (C.loop b fr1 σ1).bind K
      | none => none
    | none => none
  | .exit id, fr, σ, K => K ⟨.exit id, fr, σ⟩
  | .ret, fr, σ, K => K ⟨.ret, fr, σ⟩
  | _, _, _, _ => none

/-- A loop's round. -/
def round (C : Ctx) (b : Code) (fr : Fr) (σ : Heap) : Option Out :=
  denCode C b fr σ fun o =>
    match o.ex with
    | .norm =>
      match firstRegion b with
      | some i =>
        match tidy C.m (C.live i) o.fr o.hp with
        | some (fr1, σ1) => C.loop b fr1 σ1
        | none => none
      | none => none
    | _ => some o

def readRes (fr : Fr) (σ : Heap) (P : Program) : ResultVar → Option AV
  | .tmp t => fr[t]?
  | .cell a t =>
    match fr[a]?, sizeB P t with
    | some (.ptr id off), some n =>
      match σ[id]? with
      | some (.box cs) =>
        if off + n ≤ cs.length then
          if isAggB P t then some (.agg ((cs.drop off).take n)) else if n = 1 then cs[off]? else none
        else none
      | _ => none
    | _, _ => none

def below (m : Nat) (ids : List Nat) : Bool := ids.all fun i => decide (i < m)

/-- What a call comes to: of its objects those that were there. -/
def finish (P : Program) (fn : Func) (m : Nat) (o : Out) : Option (Res × Heap) :=
  let σ := o.hp.take m
  if σ.length = m ∧ σ.all (fun ob => below m ob.ids) = true then
    match o.ex with
    | .norm | .ret =>
      match fn.results.toList.mapM (readRes o.fr o.hp P) with
      | some [v] => let v' := v.calm; if below m v'.ids2 = true then some (.ret v', σ) else none
      | some vs => let v' := AV.tup (vs.map AV.calm); if below m v'.ids3 = true then some (.ret v', σ) else none
      | none => none
    | .pan x => some (.pan x, σ)
    | _ => none
  else none

def bodyRun (P : Program) (H : Hints) (run : FuncId → List AV → Heap → Option (Res × Heap)) (loop : FuncId → Nat → Code → Fr → Heap → Option Out)
    (f : FuncId) (args : List AV) (σ : Heap) : Option (Res × Heap) :=
  match H.prim f with
  | some g => if σ.isEmpty then (g args).map fun v => (.ret v, []) else none
  | none =>
    match P.funcs[f]? with
    | none => none
    | some fn =>
      match fn.body with
      | none => none
      | some c =>
        denCode { P, m := σ.length, live := H.live f, pans := H.pans, run, loop := loop f σ.length } c (args ++ List.replicate (fn.ntmps - args.length) (.tup [])) σ (finish P fn σ.length)

def bodyLoop (P : Program) (H : Hints) (run : FuncId → List AV → Heap → Option (Res × Heap)) (loop : FuncId → Nat → Code → Fr → Heap → Option Out)
    (f : FuncId) (m : Nat) (b : Code) (fr : Fr) (σ : Heap) : Option Out :=
  round { P, m, live := H.live f, pans := H.pans, run, loop := loop f m } b fr σ

mutual
def runK (P : Program) (H : Hints) : Nat → FuncId → List AV → Heap → Option (Res × Heap)
  | 0, _, _, _ => none
  | k + 1, f, args, σ => bodyRun P H (runK P H k) (loopK P H k) f args σ
def loopK (P : Program) (H : Hints) : Nat → FuncId → Nat → Code → Fr → Heap → Option Out
  | 0, _, _, _, _, _ => none
  | k + 1, f, m, b, fr, σ => bodyLoop P H (runK P H k) (loopK P H k) f m b fr σ
end

end Go.Den
