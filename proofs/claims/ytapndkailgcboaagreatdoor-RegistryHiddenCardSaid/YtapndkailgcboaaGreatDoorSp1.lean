/- Sp1: texts SpA .. SpF in one. -/
import Derived.Test.YtapndkailgcboaaGreatDoorDn7
import Derived.Lib.ItoaNum
import Derived.Lib.Join
/- Schemas and values as data; what the chapter's functions say of them; laws of these. -/
namespace Go.Den
open Go

/-! ### Parts -/

def kindE (x : E) : Int := (x.cell 0).toInt
def minE (x : E) : Int := (x.cell 1).toInt
def maxE (x : E) : Int := (x.cell 2).toInt
def optsE (x : E) : List E := (x.cell 3).toList
def ofE (x : E) : List E := (x.cell 4).toList
def fieldsE (x : E) : List E := (x.cell 5).toList
def nmE (x : E) : List UInt8 := (x.cell 0).toStr
def optF (x : E) : Bool := (x.cell 1).toBool
def ofOne (x : E) : E := (ofE x).getD 0 .nili

/-! ### Order of texts -/

theorem less_irrefl : ∀ a : List UInt8, Op.bytesLess a a = false
  | [] => rfl
  | a :: x => by simp [Op.bytesLess, less_irrefl x]
theorem less_trans : ∀ {a b c : List UInt8}, Op.bytesLess a b = true → Op.bytesLess b c = true → Op.bytesLess a c = true
  | _, _, [], _, h => by simp [Op.bytesLess] at h
  | [], _, _ :: _, _, _ => rfl
  | _ :: _, [], _, h, _ => by simp [Op.bytesLess] at h
  | a :: x, b :: y, c :: z, h, k => by
    simp only [Op.bytesLess, Bool.or_eq_true, Bool.and_eq_true, decide_eq_true_eq, beq_iff_eq] at h k ⊢
    rcases h with h | ⟨h1, h2⟩
    · rcases k with k | ⟨k1, k2⟩
      · exact .inl (UInt8.lt_trans h k)
      · subst k1; exact .inl h
    · subst h1
      rcases k with k | ⟨k1, k2⟩
      · exact .inl k
      · exact .inr ⟨k1, less_trans h2 k2⟩
theorem less_tri : ∀ (a b : List UInt8), Op.bytesLess a b = false → Op.bytesLess b a = false → a = b
  | [], [], _, _ => rfl
  | [], _ :: _, h, _ => by simp [Op.bytesLess] at h
  | _ :: _, [], _, h => by simp [Op.bytesLess] at h
  | a :: x, b :: y, h, k => by
    simp only [Op.bytesLess, Bool.or_eq_false_iff, Bool.and_eq_false_iff, decide_eq_false_iff_not, beq_eq_false_iff_ne] at h k
    have e : a = b := by
      have h1 := h.1; have h2 := k.1
      rw [UInt8.not_lt] at h1 h2
      exact UInt8.le_antisymm h2 h1
    subst e
    rw [less_tri x y (by rcases h.2 with h | h <;> simp_all) (by rcases k.2 with h | h <;> simp_all)]
theorem strEq_iff {a b : List UInt8} : strEq a b = true ↔ a = b := by simp [strEq]
theorem strEq_no {a b : List UInt8} : strEq a b = false ↔ a ≠ b := by simp [strEq]

/-- Names in ascending order. -/
def Asc (l : List (List UInt8)) : Prop := l.Pairwise fun a b => Op.bytesLess a b = true

/-! ### Schemas that are right -/

def okT : Nat → E → Prop
  | 0, _ => False
  | d + 1, a => 1 ≤ kindE a ∧ kindE a ≤ 7 ∧ (kindE a = 1 → minE a ≤ maxE a) ∧ (kindE a = 2 → 0 ≤ minE a ∧ minE a ≤ maxE a ∧ maxE a ≤ 256) ∧
    (kindE a = 5 → 0 ≤ minE a ∧ minE a ≤ maxE a ∧ maxE a ≤ 32 ∧ (ofE a).length = 1 ∧ okT d (ofOne a)) ∧
    (kindE a = 6 → Asc ((fieldsE a).map nmE) ∧ ∀ f ∈ fieldsE a, okT d (fieldTy f))

/-! ### Includes -/

def findF (l : List E) (n : List UInt8) : Option E := l.find? fun g => strEq (nmE g) n

def covS (a b : E) : Bool := (optsE b).all fun s => decide (minE a ≤ (nmE s).length) && decide (((nmE s).length : Int) ≤ maxE a)
def insS (a b : E) : Bool := decide (minE a ≤ minE b) && decide (maxE b ≤ maxE a)
def hasS (l : List E) (n : List UInt8) : Bool := l.any fun x => strEq (nmE x) n
def recS (inc : E → E → Bool) (a b : E) : Bool :=
  ((fieldsE b).all fun f => match findF (fieldsE a) (nmE f) with | some g => inc (fieldTy g) (fieldTy f) | none => false) &&
  ((fieldsE a).all fun g => optF g || match findF (fieldsE b) (nmE g) with | some f => !optF f | none => false)
def incS : Nat → E → E → Bool
  | 0, _, _ => false
  | d + 1, a, b =>
    if kindE a = 7 then true
    else if kindE a = 2 ∧ kindE b = 4 then covS a b
    else if kindE a ≠ kindE b then false
    else if kindE a = 1 ∨ kindE a = 2 then insS a b
    else if kindE a = 4 then (optsE b).all fun s => hasS (optsE a) (nmE s)
    else if kindE a = 5 then insS a b && (decide (maxE b = 0) || incS d (ofOne a) (ofOne b))
    else if kindE a = 6 then recS (incS d) a b
    else true

theorem findF_some {l : List E} {n : List UInt8} {g : E} (h : findF l n = some g) : g ∈ l ∧ nmE g = n := by
  unfold findF at h
  exact ⟨List.mem_of_find?_eq_some h, by simpa [strEq] using List.find?_some h⟩
theorem findF_none {l : List E} {n : List UInt8} (h : findF l n = none) : ∀ g ∈ l, nmE g ≠ n := by
  unfold findF at h
  intro g hg
  have := List.find?_eq_none.1 h g hg
  simpa [strEq] using this
theorem Asc.inj {l : List E} (h : Asc (l.map nmE)) : ∀ {f g : E}, f ∈ l → g ∈ l → nmE f = nmE g → f = g := by
  induction l with
  | nil => intro f g hf; simp at hf
  | cons x l ih =>
    unfold Asc at h ih
    rw [List.map_cons, List.pairwise_cons] at h
    have hlt : ∀ y ∈ l, nmE y ≠ nmE x := fun y hy e => by
      have := h.1 (nmE y) (List.mem_map_of_mem hy)
      rw [e, less_irrefl] at this; cases this
    intro f g hf hg e
    rcases List.mem_cons.1 hf with hf1 | hf1 <;> rcases List.mem_cons.1 hg with hg1 | hg1
    · rw [hf1, hg1]
    · rw [hf1] at e; exact absurd e.symm (hlt g hg1)
    · rw [hg1] at e; exact absurd e (hlt f hf1)
    · exact ih h.2 hf1 hg1 e
end Go.Den

/- Which values fit a schema; what includes another one lets in what that one lets in. -/
namespace Go.Den
open Go

def txtE (v : E) : List UInt8 := (v.cell 2).toStr
def namesE (v : E) : List E := (v.cell 3).toList
def listE (v : E) : List E := (v.cell 4).toList

/-- The path of the first element that does not fit. -/
def elemsS (f : E → Option (List UInt8)) : Nat → List E → Option (List UInt8)
  | _, [] => none
  | i, x :: r => match f x with | some p => some (91 :: (Lib.itoa i ++ [93]) ++ p) | none => elemsS f (i + 1) r
/-- The path of the first member that does not fit. -/
def membS (f : E → E → Option (List UInt8)) : List E → List E → List E → Option (List UInt8)
  | [], [], _ => none
  | [], n :: _, _ => some (46 :: nmE n)
  | t :: ts, [], vs => if optF t = true then membS f ts [] vs else some (46 :: nmE t)
  | t :: ts, n :: ns, vs =>
    if Op.bytesLess (nmE t) (nmE n) = true then (if optF t = true then membS f ts (n :: ns) vs else some (46 :: nmE t))
    else if Op.bytesLess (nmE n) (nmE t) = true then some (46 :: nmE n)
    else match f (fieldTy t) (vs.getD 0 .nili) with | some p => some (46 :: nmE n ++ p) | none => membS f ts ns (vs.drop 1)

def yesS (b : Bool) : Option (List UInt8) := if b = true then none else some []

def fitsS : Nat → E → E → Option (List UInt8)
  | 0, _, _ => some []
  | d + 1, t, v =>
    if kindE t = 7 then none
    else if kindE t = 1 then yesS (decide (kindE v = 1) && decide (minE t ≤ minE v) && decide (minE v ≤ maxE t))
    else if kindE t = 2 then yesS (decide (kindE v = 2) && decide (minE t ≤ (txtE v).length) && decide (((txtE v).length : Int) ≤ maxE t))
    else if kindE t = 3 then yesS (decide (kindE v = 3))
    else if kindE t = 4 then yesS (decide (kindE v = 2) && hasS (optsE t) (txtE v))
    else if kindE t = 5 then (if kindE v = 5 ∧ minE t ≤ (listE v).length ∧ ((listE v).length : Int) ≤ maxE t then elemsS (fitsS d (ofOne t)) 0 (listE v) else some [])
    else if kindE t = 6 then (if kindE v = 6 then membS (fitsS d) (fieldsE t) (namesE v) (listE v) else some [])
    else some []

def MembOk (f : E → E → Option (List UInt8)) (ts ns vs : List E) : Prop :=
  (∀ p ∈ ns.zip vs, ∃ t ∈ ts, nmE t = nmE p.1 ∧ f (fieldTy t) p.2 = none) ∧ ∀ t ∈ ts, optF t = true ∨ ∃ n ∈ ns, nmE n = nmE t

/-- Values whose records' names are in order. -/
def okV : Nat → E → Prop
  | 0, _ => False
  | d + 1, v => (kindE v = 5 → ∀ x ∈ listE v, okV d x) ∧ (kindE v = 6 → (namesE v).length = (listE v).length ∧ Asc ((namesE v).map nmE) ∧ ∀ x ∈ listE v, okV d x)

end Go.Den

/- What the readers of schemas and values come to: by what is left of the text. -/
namespace Go.Den
open Go

/-- What a reader comes to: something and the rest; or an error, and the rest where it is. -/
inductive PR (α : Type) where
  | ok (x : α) (l : List UInt8)
  | err (e : Int) (l : List UInt8)

def PR.andThen {α β : Type} (x : PR α) (f : α → List UInt8 → PR β) : PR β :=
  match x with
  | .ok a l => f a l
  | .err e l => .err e l

@[simp] theorem PR.ok_then {α β : Type} (a : α) (l : List UInt8) (f : α → List UInt8 → PR β) : (PR.ok a l).andThen f = f a l := rfl
@[simp] theorem PR.err_then {α β : Type} (e : Int) (l : List UInt8) (f : α → List UInt8 → PR β) : (PR.err e l).andThen f = .err e l := rfl

/-- What is left behind a reader is the end of what was there. -/
def PR.Tail {α : Type} (x : PR α) (l : List UInt8) : Prop :=
  match x with
  | .ok _ r => r <:+ l
  | .err _ r => r <:+ l

theorem PR.Tail.then {α β : Type} {x : PR α} {f : α → List UInt8 → PR β} {l : List UInt8} (h : x.Tail l) (hf : ∀ a r, x = .ok a r → (f a r).Tail r) : (x.andThen f).Tail l := by
  cases x with
  | err e r => exact h
  | ok a r =>
    have h1 : r <:+ l := h
    have h2 := hf a r rfl
    show (f a r).Tail l
    revert h2
    cases f a r with
    | ok b q => exact fun h2 : q <:+ r => show q <:+ l from h2.trans h1
    | err e q => exact fun h2 : q <:+ r => show q <:+ l from h2.trans h1

def hd (l : List UInt8) : UInt8 := l.headD 0
def lowC (c : UInt8) : Bool := decide (97 ≤ c) && decide (c ≤ 122)
def digC (c : UInt8) : Bool := decide (48 ≤ c) && decide (c ≤ 57)
def namC (c : UInt8) : Bool := lowC c || digC c || c == 45

/-- A text that must follow. -/
def needL : List UInt8 → List UInt8 → PR Unit
  | [], l => .ok () l
  | c :: w, l => if hd l = c then needL w (l.drop 1) else .err 2 l

def decV (n : Nat) (ds : List UInt8) : Nat := ds.foldl (fun n c => 10 * n + (c.toNat - 48)) n

def numL (l : List UInt8) : PR Int :=
  let g := hd l == 45
  let l1 := if g then l.drop 1 else l
  if hd l1 = 48 then (if g then .err 2 l1 else .ok 0 (l1.drop 1))
  else if l1.takeWhile digC = [] then .err 2 l1
  else if 4611686018427387904 < decV 0 (l1.takeWhile digC) then .err 1 l
  else .ok (if g then -(decV 0 (l1.takeWhile digC) : Int) else decV 0 (l1.takeWhile digC)) (l1.dropWhile digC)

def wordL (l : List UInt8) : PR (List UInt8) :=
  if lowC (hd l) then .ok (l.takeWhile namC) (l.dropWhile namC) else .err 2 l

def pairL (l : List UInt8) : PR (Int × Int) :=
  (numL l).andThen fun a l => (needL [46, 46] l).andThen fun _ l => (numL l).andThen fun b l => .ok (a, b) l

section
variable (s t f : TypeId)

def mkT (k mn mx : Int) (os fs gs : List E) : E := .agg [.int .i64 k, .int .i64 mn, .int .i64 mx, .sl s os, .sl t fs, .sl f gs]
def mkF (n : List UInt8) (o : Bool) (x : E) : E := .agg (.str n :: .bool o :: x.cells)

def openL (k lo hi : Int) (l : List UInt8) : PR E :=
  if hd l = 32 then (pairL (l.drop 1)).andThen fun q l => .ok (mkT s t f k q.1 q.2 [] [] []) l else .ok (mkT s t f k lo hi [] [] []) l

/-- Options behind a name. -/
def optsM : Nat → List E → List UInt8 → PR (List E)
  | 0, _, l => .err 0 l
  | n + 1, acc, l => if hd l = 124 then (wordL (l.drop 1)).andThen fun x l => optsM n (acc ++ [.str x]) l else .ok acc l
/-- .. at the head of a name. -/
def optsL (n : Nat) (acc : List E) (l : List UInt8) : PR (List E) := (wordL l).andThen fun x l => optsM n (acc ++ [.str x]) l

/-- A field, behind its name. -/
def markL (l : List UInt8) : Bool := hd l == 63
def dropM (l : List UInt8) : List UInt8 := if markL l then l.drop 1 else l
/-- Fields, at the head of a name. -/
def recL (kd : List UInt8 → PR E) : Nat → List E → List UInt8 → PR (List E)
  | 0, _, l => .err 0 l
  | n + 1, acc, l => (wordL l).andThen fun x l1 => (needL [58, 32] (dropM l1)).andThen fun _ l2 => (kd l2).andThen fun y l3 =>
      if hd l3 = 44 then (needL [32] (l3.drop 1)).andThen fun _ l4 => recL kd n (acc ++ [mkF x (markL l1) y]) l4
      else (needL [125] l3).andThen fun _ l4 => .ok (acc ++ [mkF x (markL l1) y]) l4

/-- A schema of at most so many levels. -/
def kindL : Nat → List UInt8 → PR E
  | 0, l => .err 27 l
  | d + 1, l =>
    if hd l = 105 then (needL [105, 110, 116] l).andThen fun _ l => openL s t f 1 (-4611686018427387904) 4611686018427387904 l
    else if hd l = 116 then (needL [116, 101, 120, 116] l).andThen fun _ l => openL s t f 2 0 256 l
    else if hd l = 98 then (needL [98, 111, 111, 108] l).andThen fun _ l => .ok (mkT s t f 3 0 0 [] [] []) l
    else if hd l = 97 then (needL [97, 110, 121] l).andThen fun _ l => .ok (mkT s t f 7 0 0 [] [] []) l
    else if hd l = 101 then (needL [101, 110, 117, 109, 40] l).andThen fun _ l => (optsL l.length.succ [] l).andThen fun os l => (needL [41] l).andThen fun _ l => .ok (mkT s t f 4 0 0 os [] []) l
    else if hd l = 108 then (needL [108, 105, 115, 116, 32] l).andThen fun _ l => (pairL l).andThen fun q l => (needL [32, 111, 102, 32] l).andThen fun _ l => (kindL d l).andThen fun x l => .ok (mkT s t f 5 q.1 q.2 [] [x] []) l
    else if hd l = 123 then
      (if hd (l.drop 1) = 125 then .ok (mkT s t f 6 0 0 [] [] []) ((l.drop 1).drop 1)
       else (recL (kindL d) (l.drop 1).length.succ [] (l.drop 1)).andThen fun fs l => .ok (mkT s t f 6 0 0 [] [] fs) l)
    else .err 2 l

/-! ### Values; their own types: names s, values t -/

def mkV (k n : Int) (x : List UInt8) (ns vs : List E) : E := .agg [.int .i64 k, .int .i64 n, .str x, .sl s ns, .sl t vs]
end

def hexV (c : UInt8) : Option Nat :=
  if 48 ≤ c ∧ c ≤ 57 then some (c.toNat - 48) else if 97 ≤ c ∧ c ≤ 102 then some (c.toNat - 87) else none
def hexL (l : List UInt8) : PR Nat := match hexV (hd l) with | some v => .ok v (l.drop 1) | none => .err 2 l

/-- A text in quotes, behind the first one. -/
def quotL : Nat → List UInt8 → List UInt8 → PR (List UInt8)
  | 0, _, l => .err 0 l
  | n + 1, acc, l =>
    if hd l = 34 then .ok acc (l.drop 1)
    else if hd l < 32 ∨ 126 < hd l then .err 2 l
    else if hd l ≠ 92 then quotL n (acc ++ [hd l]) (l.drop 1)
    else if hd (l.drop 1) = 34 ∨ hd (l.drop 1) = 92 then quotL n (acc ++ [hd (l.drop 1)]) ((l.drop 1).drop 1)
    else if hd (l.drop 1) = 120 then
      (hexL ((l.drop 1).drop 1)).andThen fun a l2 => (hexL l2).andThen fun b l3 =>
        if 32 ≤ 16 * a + b ∧ 16 * a + b ≤ 126 then .err 2 l else quotL n (acc ++ [UInt8.ofNat (16 * a + b)]) l3
    else .err 2 (l.drop 1)

/-- Elements, at the head of one. -/
def elsL (vd : List UInt8 → PR E) : Nat → List E → List UInt8 → PR (List E)
  | 0, _, l => .err 0 l
  | n + 1, acc, l => (vd l).andThen fun y l1 => if hd l1 = 44 then elsL vd n (acc ++ [y]) (l1.drop 1) else (needL [93] l1).andThen fun _ l2 => .ok (acc ++ [y]) l2

/-- Is a name not behind the last one of some? -/
def lateB (ns : List E) (x : List UInt8) : Bool := decide (0 < ns.length) && (Op.bytesLess x (nmE (ns.getD (ns.length - 1) .nili)) || strEq x (nmE (ns.getD (ns.length - 1) .nili)))

/-- Entries, at the head of a name. -/
def entL (vd : List UInt8 → PR E) : Nat → List E → List E → List UInt8 → PR (List E × List E)
  | 0, _, _, l => .err 0 l
  | n + 1, ns, vs, l => (wordL l).andThen fun x l1 =>
      if 16 < x.length then .err 11 l
      else if lateB ns x then .err 22 l
      else (needL [58] l1).andThen fun _ l2 => (vd l2).andThen fun y l3 =>
        if hd l3 = 44 then entL vd n (ns ++ [.str x]) (vs ++ [y]) (l3.drop 1)
        else (needL [125] l3).andThen fun _ l4 => .ok (ns ++ [.str x], vs ++ [y]) l4

section
variable (s t : TypeId)
/-- A value of at most so many levels. -/
def valL : Nat → List UInt8 → PR E
  | 0, l => .err 27 l
  | d + 1, l =>
    if hd l = 45 ∨ digC (hd l) = true then (numL l).andThen fun n l => .ok (mkV s t 1 n [] [] []) l
    else if hd l = 102 then (needL [102, 97, 108, 115, 101] l).andThen fun _ l => .ok (mkV s t 3 0 [] [] []) l
    else if hd l = 116 then (needL [116, 114, 117, 101] l).andThen fun _ l => .ok (mkV s t 3 1 [] [] []) l
    else if hd l = 34 then (quotL (l.drop 1).length.succ [] (l.drop 1)).andThen fun x l => .ok (mkV s t 2 0 x [] []) l
    else if hd l = 91 then
      (if hd (l.drop 1) = 93 then .ok (mkV s t 5 0 [] [] []) ((l.drop 1).drop 1)
       else (elsL (valL d) (l.drop 1).length.succ [] (l.drop 1)).andThen fun vs l => .ok (mkV s t 5 0 [] [] vs) l)
    else if hd l = 123 then
      (if hd (l.drop 1) = 125 then .ok (mkV s t 6 0 [] [] []) ((l.drop 1).drop 1)
       else (entL (valL d) (l.drop 1).length.succ [] [] (l.drop 1)).andThen fun q l => .ok (mkV s t 6 0 [] q.1 q.2) l)
    else .err 2 l
end

/-! ### What is left is the end -/

theorem PR.Tail.mono {α : Type} {x : PR α} {l l' : List UInt8} (h : x.Tail l') (hl : l' <:+ l) : x.Tail l := by
  cases x with
  | ok a r => exact (show r <:+ l' from h).trans hl
  | err a r => exact (show r <:+ l' from h).trans hl
end Go.Den

/- What is written is read again: schemas. -/
namespace Go.Den
open Go

/-! ### Numbers -/

/-! ### Names -/

/-- What topic.Name says of a name, as far as it matters here. -/
def NameOk (x : List UInt8) : Prop := lowC (hd x) = true ∧ ∀ c ∈ x, namC c = true
/-! ### Schemas -/

section
variable (s t f : TypeId)

def bndS (x : E) : List UInt8 := Lib.itoa (minE x) ++ [46, 46] ++ Lib.itoa (maxE x)
def fldS (tx : E → List UInt8) (g : E) : List UInt8 := nmE g ++ (if optF g = true then [63] else []) ++ [58, 32] ++ tx (fieldTy g)
/-- The text of a schema. -/
def textS : Nat → E → List UInt8
  | 0, _ => []
  | d + 1, x =>
    if kindE x = 1 then (if minE x = -4611686018427387904 ∧ maxE x = 4611686018427387904 then [105, 110, 116] else [105, 110, 116, 32] ++ bndS x)
    else if kindE x = 2 then (if minE x = 0 ∧ maxE x = 256 then [116, 101, 120, 116] else [116, 101, 120, 116, 32] ++ bndS x)
    else if kindE x = 3 then [98, 111, 111, 108]
    else if kindE x = 4 then [101, 110, 117, 109, 40] ++ Lib.join ((optsE x).map nmE) [124] ++ [41]
    else if kindE x = 5 then [108, 105, 115, 116, 32] ++ bndS x ++ [32, 111, 102, 32] ++ textS d (ofOne x)
    else if kindE x = 6 then [123] ++ Lib.join ((fieldsE x).map (fldS (textS d))) [44, 32] ++ [125]
    else [97, 110, 121]

/-- Schemas that are right, whole. -/
def Ful : Nat → E → Prop
  | 0, _ => False
  | d + 1, x =>
    (∃ mn mx, x = mkT s t f 1 mn mx [] [] [] ∧ -4611686018427387904 ≤ mn ∧ mn ≤ mx ∧ mx ≤ 4611686018427387904) ∨
    (∃ mn mx, x = mkT s t f 2 mn mx [] [] [] ∧ 0 ≤ mn ∧ mn ≤ mx ∧ mx ≤ 256) ∨
    x = mkT s t f 3 0 0 [] [] [] ∨
    (∃ os, x = mkT s t f 4 0 0 os [] [] ∧ os ≠ [] ∧ os.length ≤ 16 ∧ Asc (os.map nmE) ∧ ∀ o ∈ os, ∃ n, o = .str n ∧ NameOk n ∧ n.length ≤ 16) ∨
    (∃ mn mx y, x = mkT s t f 5 mn mx [] [y] [] ∧ 0 ≤ mn ∧ mn ≤ mx ∧ mx ≤ 32 ∧ Ful d y) ∨
    (∃ gs, x = mkT s t f 6 0 0 [] [] gs ∧ gs.length ≤ 16 ∧ Asc (gs.map nmE) ∧ ∀ g ∈ gs, ∃ n o y, g = mkF n o y ∧ NameOk n ∧ n.length ≤ 16 ∧ Ful d y) ∨
    x = mkT s t f 7 0 0 [] [] []
variable {s t f}

theorem Ful.agg {d : Nat} {x : E} (h : Ful s t f d x) : ∃ cs, x = .agg cs := by
  cases d with
  | zero => cases h
  | succ d => rcases h with ⟨_, _, rfl, _⟩ | ⟨_, _, rfl, _⟩ | rfl | ⟨_, rfl, _⟩ | ⟨_, _, _, rfl, _⟩ | ⟨_, rfl, _⟩ | rfl <;> exact ⟨_, rfl⟩
theorem Ful.fieldTy {d : Nat} {n : List UInt8} {o : Bool} {x : E} (h : Ful s t f d x) : fieldTy (mkF n o x) = x := by
  obtain ⟨cs, rfl⟩ := h.agg; rfl

theorem kind_mkT {k mn mx : Int} {os fs gs : List E} : kindE (mkT s t f k mn mx os fs gs) = k := rfl
theorem min_mkT {k mn mx : Int} {os fs gs : List E} : minE (mkT s t f k mn mx os fs gs) = mn := rfl
theorem max_mkT {k mn mx : Int} {os fs gs : List E} : maxE (mkT s t f k mn mx os fs gs) = mx := rfl
theorem Ful.okT : ∀ {d : Nat} {x : E}, Ful s t f d x → okT d x
  | 0, _, h => h
  | d + 1, x, h => by
    have no : ∀ {p : Prop} {a b : Int}, a ≠ b → (a = b → p) := fun h e => absurd e h
    rcases h with ⟨mn, mx, rfl, h1, h2, h3⟩ | ⟨mn, mx, rfl, h1, h2, h3⟩ | rfl | ⟨os, rfl, h⟩ | ⟨mn, mx, y, rfl, h1, h2, h3, h4⟩ | ⟨gs, rfl, h1, h2, h3⟩ | rfl <;> unfold Den.okT <;> simp only [kind_mkT, min_mkT, max_mkT]
    · exact ⟨by omega, by omega, fun _ => h2, no (by omega), no (by omega), no (by omega)⟩
    · exact ⟨by omega, by omega, no (by omega), fun _ => ⟨h1, h2, h3⟩, no (by omega), no (by omega)⟩
    · exact ⟨by omega, by omega, no (by omega), no (by omega), no (by omega), no (by omega)⟩
    · exact ⟨by omega, by omega, no (by omega), no (by omega), no (by omega), no (by omega)⟩
    · exact ⟨by omega, by omega, no (by omega), no (by omega), fun _ => ⟨h1, h2, h3, rfl, h4.okT⟩, no (by omega)⟩
    · refine ⟨by omega, by omega, no (by omega), no (by omega), no (by omega), fun _ => ⟨h2, fun g hg => ?_⟩⟩
      obtain ⟨n, o, y, rfl, _, _, hy⟩ := h3 g hg
      rw [hy.fieldTy]
      exact hy.okT
    · exact ⟨by omega, by omega, no (by omega), no (by omega), no (by omega), no (by omega)⟩

/-- What may stand behind a schema's text. -/
def Sep (r : List UInt8) : Prop := r = [] ∨ hd r = 44 ∨ hd r = 125
theorem Sep.dig {r : List UInt8} (h : Sep r) : digC (hd r) = false ∧ hd r ≠ 32 := by
  rcases h with rfl | h | h
  · decide
  · rw [h]; decide
  · rw [h]; decide

end
end Go.Den

/- What is written is read again, and what is read was written: values. -/
namespace Go.Den
open Go

/-! ### Texts in quotes -/

def hexC (k : Nat) : UInt8 := UInt8.ofNat (if k < 10 then 48 + k else 87 + k)
def escS (c : UInt8) : List UInt8 := if c = 34 ∨ c = 92 then [92, c] else if c < 32 ∨ 126 < c then [92, 120, hexC (c.toNat / 16), hexC (c.toNat % 16)] else [c]
def quotS (x : List UInt8) : List UInt8 := 34 :: (x.flatMap escS ++ [34])

/-! ### Values -/

section
variable (s t : TypeId)

def entT (w : E → List UInt8) (n v : E) : List UInt8 := nmE n ++ [58] ++ w v
/-- The text of a value. -/
def writS : Nat → E → List UInt8
  | 0, _ => []
  | d + 1, v =>
    if kindE v = 1 then Lib.itoa (minE v)
    else if kindE v = 2 then quotS (txtE v)
    else if kindE v = 3 then (if minE v = 0 then [102, 97, 108, 115, 101] else [116, 114, 117, 101])
    else if kindE v = 6 then [123] ++ Lib.join (List.zipWith (entT (writS d)) (namesE v) (listE v)) [44] ++ [125]
    else [91] ++ Lib.join ((listE v).map (writS d)) [44] ++ [93]

/-- Values that are right, whole. -/
def FulV : Nat → E → Prop
  | 0, _ => False
  | d + 1, v =>
    (∃ n, v = mkV s t 1 n [] [] [] ∧ -4611686018427387904 ≤ n ∧ n ≤ 4611686018427387904) ∨
    (∃ x, v = mkV s t 2 0 x [] []) ∨
    v = mkV s t 3 0 [] [] [] ∨
    v = mkV s t 3 1 [] [] [] ∨
    (∃ vs, v = mkV s t 5 0 [] [] vs ∧ ∀ y ∈ vs, FulV d y) ∨
    (∃ ns vs, v = mkV s t 6 0 [] ns vs ∧ ns.length = vs.length ∧ Asc (ns.map nmE) ∧ (∀ o ∈ ns, ∃ n, o = .str n ∧ NameOk n ∧ n.length ≤ 16) ∧ ∀ y ∈ vs, FulV d y)
variable {s t}

theorem kind_mkV {k n : Int} {x : List UInt8} {ns vs : List E} : kindE (mkV s t k n x ns vs) = k := rfl
theorem FulV.okV : ∀ {d : Nat} {v : E}, FulV s t d v → okV d v
  | 0, _, h => h
  | d + 1, v, h => by
    have no : ∀ {p : Prop} {a b : Int}, a ≠ b → (a = b → p) := fun h e => absurd e h
    rcases h with ⟨n, rfl, _⟩ | ⟨x, rfl⟩ | rfl | rfl | ⟨vs, rfl, hv⟩ | ⟨ns, vs, rfl, hl, ha, _, hv⟩ <;> unfold Den.okV <;> simp only [kind_mkV]
    · exact ⟨no (by omega), no (by omega)⟩
    · exact ⟨no (by omega), no (by omega)⟩
    · exact ⟨no (by omega), no (by omega)⟩
    · exact ⟨no (by omega), no (by omega)⟩
    · exact ⟨fun _ y hy => (hv y hy).okV, no (by omega)⟩
    · exact ⟨no (by omega), fun _ => ⟨hl, ha, fun y hy => (hv y hy).okV⟩⟩

def SepV (r : List UInt8) : Prop := r = [] ∨ hd r = 44 ∨ hd r = 93 ∨ hd r = 125
theorem SepV.dig {r : List UInt8} (h : SepV r) : digC (hd r) = false := by
  rcases h with rfl | h | h | h
  · decide
  all_goals rw [h]; decide

end
end Go.Den

/- What readers return is data of its type. -/
namespace Go.Den
open Go

section
variable {s t f : TypeId}

def Strs (k : Nat) (os : List E) : Prop := ∀ o ∈ os, ∃ n, o = .str n ∧ n.length ≤ k
theorem PR.Tail.len {α : Type} {x : PR α} {l : List UInt8} (h : x.Tail l) {a : α} {r : List UInt8} (e : x = .ok a r) : r.length ≤ l.length := by
  subst e
  exact List.IsSuffix.length_le (show r <:+ l from h)
def Flds (s t f : TypeId) (gs : List E) : Prop := ∀ g ∈ gs, ∃ n o y, g = mkF n o y ∧ n.length ≤ 65536 ∧ IsTy s t f y
/-! ### Values as data -/

/-- A value's data: names s, values t. -/
inductive IsVal (s t : TypeId) : E → Prop
  | mk (k n : Int) (x : List UInt8) (ns vs : List E) (hx : x.length ≤ maxLen) (hn : ∀ o ∈ ns, ∃ n, o = .str n ∧ n.length ≤ maxLen) (hnl : ns.length ≤ maxLen) (hv : ∀ y ∈ vs, IsVal s t y) (hvl : vs.length ≤ maxLen)
      (hk : -9223372036854775808 ≤ k ∧ k ≤ 9223372036854775807) (hnum : -9223372036854775808 ≤ n ∧ n ≤ 9223372036854775807) : IsVal s t (.agg [.int .i64 k, .int .i64 n, .str x, .sl s ns, .sl t vs])

theorem len_flatMap_esc : ∀ x : List UInt8, x.length ≤ (x.flatMap escS).length
  | [] => by simp
  | c :: x => by
    have := len_flatMap_esc x
    have h1 : 1 ≤ (escS c).length := by unfold escS; split; simp; split <;> simp
    simp only [List.flatMap_cons, List.length_append, List.length_cons]
    omega
theorem lens_mem {xs : List (List UInt8)} {x : List UInt8} (h : x ∈ xs) : x.length ≤ Lib.lens xs := by
  induction xs with
  | nil => cases h
  | cons y xs ih =>
    have e : Lib.lens (y :: xs) = y.length + Lib.lens xs := by simp [Lib.lens]
    rcases List.mem_cons.1 h with rfl | h
    · omega
    · have := ih h; omega
theorem join_len {xs : List (List UInt8)} {c : UInt8} : xs.length ≤ (Lib.join xs [c]).length + 1 ∧ ∀ x ∈ xs, x.length ≤ (Lib.join xs [c]).length := by
  cases xs with
  | nil => simp
  | cons y xs =>
    have e := Lib.join_length y xs [c]
    simp only [List.length_cons, List.length_nil, Nat.zero_add, Nat.one_mul] at e ⊢
    exact ⟨by omega, fun x hx => by have := lens_mem hx; omega⟩

theorem FulV.val : ∀ {d : Nat} {v : E}, FulV s t d v → (writS d v).length ≤ 100000 → IsVal s t v
  | 0, _, h, _ => by cases h
  | d + 1, v, h, hl => by
    rcases h with ⟨n, rfl, h1, h2⟩ | ⟨x, rfl⟩ | rfl | rfl | ⟨vs, rfl, hv⟩ | ⟨ns, vs, rfl, hlen, ha, hn, hv⟩
    · exact .mk 1 n [] [] [] (by simp) (by simp) (by simp) (by simp) (by simp) (by omega) (by omega)
    · have e : writS (d + 1) (mkV s t 2 0 x [] []) = 34 :: (x.flatMap escS ++ [34]) := rfl
      rw [e] at hl
      have := len_flatMap_esc x
      simp only [List.length_cons, List.length_append, List.length_nil] at hl
      exact .mk 2 0 x [] [] (by rw [maxLen_eq]; omega) (by simp) (by simp) (by simp) (by simp) (by omega) (by omega)
    · exact .mk 3 0 [] [] [] (by simp) (by simp) (by simp) (by simp) (by simp) (by omega) (by omega)
    · exact .mk 3 1 [] [] [] (by simp) (by simp) (by simp) (by simp) (by simp) (by omega) (by omega)
    · have e : writS (d + 1) (mkV s t 5 0 [] [] vs) = [91] ++ Lib.join (vs.map (writS d)) [44] ++ [93] := rfl
      rw [e] at hl
      obtain ⟨j1, j2⟩ := join_len (xs := vs.map (writS d)) (c := 44)
      simp only [List.length_append, List.length_cons, List.length_nil, List.length_map] at hl j1
      exact .mk 5 0 [] [] vs (by simp) (by simp) (by simp) (fun y hy => (hv y hy).val (by have := j2 _ (List.mem_map_of_mem hy); omega)) (by rw [maxLen_eq]; omega) (by omega) (by omega)
    · have e : writS (d + 1) (mkV s t 6 0 [] ns vs) = [123] ++ Lib.join (List.zipWith (entT (writS d)) ns vs) [44] ++ [125] := rfl
      rw [e] at hl
      obtain ⟨j1, j2⟩ := join_len (xs := List.zipWith (entT (writS d)) ns vs) (c := 44)
      simp only [List.length_append, List.length_cons, List.length_nil, List.length_zipWith] at hl j1
      refine .mk 6 0 [] ns vs (by simp) (fun o ho => let ⟨n, e, _, l⟩ := hn o ho; ⟨n, e, by rw [maxLen_eq]; omega⟩) (by rw [maxLen_eq]; omega) (fun y hy => (hv y hy).val ?_) (by rw [maxLen_eq]; omega) (by omega) (by omega)
      obtain ⟨i, hi, rfl⟩ := List.getElem_of_mem hy
      have hj : i < (List.zipWith (entT (writS d)) ns vs).length := by rw [List.length_zipWith]; omega
      have hm : (List.zipWith (entT (writS d)) ns vs)[i] ∈ List.zipWith (entT (writS d)) ns vs := List.getElem_mem hj
      have := j2 _ hm
      rw [List.getElem_zipWith] at this
      have e3 : (entT (writS d) ns[i] vs[i]).length = (nmE ns[i]).length + 1 + (writS d vs[i]).length := by unfold entT; simp [List.length_append]; omega
      omega
end
end Go.Den

