/- Sp1: texts SpA .. SpF in one. -/
import Derived.Test.YtghdhhmlmdohkaaGreatDoorDn5
import Derived.Lib.ItoaNum
import Derived.Lib.Join
/- Schemas and values as data; what the chapter's functions say of them; laws of these. -/
namespace Go.Den
open Go

/-! ### Parts -/

def kindE (x : E) : Int := (x.cell 0).toInt
def minE (x : E) : Int := (x.cell 1).toInt
def maxE (x : E) : Int := (x.cell 2).toInt
def optsE (x : E) : List E := (x.cell 3).toList
def ofE (x : E) : List E := (x.cell 4).toList
def fieldsE (x : E) : List E := (x.cell 5).toList
def nmE (x : E) : List UInt8 := (x.cell 0).toStr
def optF (x : E) : Bool := (x.cell 1).toBool
def ofOne (x : E) : E := (ofE x).getD 0 .nili

/-! ### Order of texts -/

theorem less_irrefl : ∀ a : List UInt8, Op.bytesLess a a = false
  | [] => rfl
  | a :: x => by simp [Op.bytesLess, less_irrefl x]
theorem less_trans : ∀ {a b c : List UInt8}, Op.bytesLess a b = true → Op.bytesLess b c = true → Op.bytesLess a c = true
  | _, _, [], _, h => by simp [Op.bytesLess] at h
  | [], _, _ :: _, _, _ => rfl
  | _ :: _, [], _, h, _ => by simp [Op.bytesLess] at h
  | a :: x, b :: y, c :: z, h, k => by
    simp only [Op.bytesLess, Bool.or_eq_true, Bool.and_eq_true, decide_eq_true_eq, beq_iff_eq] at h k ⊢
    rcases h with h | ⟨h1, h2⟩
    · rcases k with k | ⟨k1, k2⟩
      · exact .inl (UInt8.lt_trans h k)
      · subst k1; exact .inl h
    · subst h1
      rcases k with k | ⟨k1, k2⟩
      · exact .inl k
      · exact .inr ⟨k1, less_trans h2 k2⟩
theorem less_tri : ∀ (a b : List UInt8), Op.bytesLess a b = false → Op.bytesLess b a = false → a = b
  | [], [], _, _ => rfl
  | [], _ :: _, h, _ => by simp [Op.bytesLess] at h
  | _ :: _, [], _, h => by simp [Op.bytesLess] at h
  | a :: x, b :: y, h, k => by
    simp only [Op.bytesLess, Bool.or_eq_false_iff, Bool.and_eq_false_iff, decide_eq_false_iff_not, beq_eq_false_iff_ne] at h k
    have e : a = b := by
      have h1 := h.1; have h2 := k.1
      rw [UInt8.not_lt] at h1 h2
      exact UInt8.le_antisymm h2 h1
    subst e
    rw [less_tri x y (by rcases h.2 with h | h <;> simp_all) (by rcases k.2 with h | h <;> simp_all)]
theorem strEq_iff {a b : List UInt8} : strEq a b = true ↔ a = b := by simp [strEq]
theorem strEq_no {a b : List UInt8} : strEq a b = false ↔ a ≠ b := by simp [strEq]

/-- Names in ascending order. -/
def Asc (l : List (List UInt8)) : Prop := l.Pairwise fun a b => Op.bytesLess a b = true

/-! ### Schemas that are right -/

def okT : Nat → E → Prop
  | 0, _ => False
  | d + 1, a => 1 ≤ kindE a ∧ kindE a ≤ 7 ∧ (kindE a = 1 → minE a ≤ maxE a) ∧ (kindE a = 2 → 0 ≤ minE a ∧ minE a ≤ maxE a ∧ maxE a ≤ 256) ∧
    (kindE a = 5 → 0 ≤ minE a ∧ minE a ≤ maxE a ∧ maxE a ≤ 32 ∧ (ofE a).length = 1 ∧ okT d (ofOne a)) ∧
    (kindE a = 6 → Asc ((fieldsE a).map nmE) ∧ ∀ f ∈ fieldsE a, okT d (fieldTy f))

/-! ### Includes -/

def findF (l : List E) (n : List UInt8) : Option E := l.find? fun g => strEq (nmE g) n

def covS (a b : E) : Bool := (optsE b).all fun s => decide (minE a ≤ (nmE s).length) && decide (((nmE s).length : Int) ≤ maxE a)
def insS (a b : E) : Bool := decide (minE a ≤ minE b) && decide (maxE b ≤ maxE a)
def hasS (l : List E) (n : List UInt8) : Bool := l.any fun x => strEq (nmE x) n
def recS (inc : E → E → Bool) (a b : E) : Bool :=
  ((fieldsE b).all fun f => match findF (fieldsE a) (nmE f) with | some g => inc (fieldTy g) (fieldTy f) | none => false) &&
  ((fieldsE a).all fun g => optF g || match findF (fieldsE b) (nmE g) with | some f => !optF f | none => false)
def incS : Nat → E → E → Bool
  | 0, _, _ => false
  | d + 1, a, b =>
    if kindE a = 7 then true
    else if kindE a = 2 ∧ kindE b = 4 then covS a b
    else if kindE a ≠ kindE b then false
    else if kindE a = 1 ∨ kindE a = 2 then insS a b
    else if kindE a = 4 then (optsE b).all fun s => hasS (optsE a) (nmE s)
    else if kindE a = 5 then insS a b && (decide (maxE b = 0) || incS d (ofOne a) (ofOne b))
    else if kindE a = 6 then recS (incS d) a b
    else true

theorem Asc.inj {l : List E} (h : Asc (l.map nmE)) : ∀ {f g : E}, f ∈ l → g ∈ l → nmE f = nmE g → f = g := by
  induction l with
  | nil => intro f g hf; simp at hf
  | cons x l ih =>
    unfold Asc at h ih
    rw [List.map_cons, List.pairwise_cons] at h
    have hlt : ∀ y ∈ l, nmE y ≠ nmE x := fun y hy e => by
      have := h.1 (nmE y) (List.mem_map_of_mem hy)
      rw [e, less_irrefl] at this; cases this
    intro f g hf hg e
    rcases List.mem_cons.1 hf with hf1 | hf1 <;> rcases List.mem_cons.1 hg with hg1 | hg1
    · rw [hf1, hg1]
    · rw [hf1] at e; exact absurd e.symm (hlt g hg1)
    · rw [hg1] at e; exact absurd e (hlt f hf1)
    · exact ih h.2 hf1 hg1 e
end Go.Den

/- Which values fit a schema; what includes another one lets in what that one lets in. -/
namespace Go.Den
open Go

def txtE (v : E) : List UInt8 := (v.cell 2).toStr
def namesE (v : E) : List E := (v.cell 3).toList
def listE (v : E) : List E := (v.cell 4).toList

/-- The path of the first element that does not fit. -/
def elemsS (f : E → Option (List UInt8)) : Nat → List E → Option (List UInt8)
  | _, [] => none
  | i, x :: r => match f x with | some p => some (91 :: (Lib.itoa i ++ [93]) ++ p) | none => elemsS f (i + 1) r
/-- The path of the first member that does not fit. -/
def membS (f : E → E → Option (List UInt8)) : List E → List E → List E → Option (List UInt8)
  | [], [], _ => none
  | [], n :: _, _ => some (46 :: nmE n)
  | t :: ts, [], vs => if optF t = true then membS f ts [] vs else some (46 :: nmE t)
  | t :: ts, n :: ns, vs =>
    if Op.bytesLess (nmE t) (nmE n) = true then (if optF t = true then membS f ts (n :: ns) vs else some (46 :: nmE t))
    else if Op.bytesLess (nmE n) (nmE t) = true then some (46 :: nmE n)
    else match f (fieldTy t) (vs.getD 0 .nili) with | some p => some (46 :: nmE n ++ p) | none => membS f ts ns (vs.drop 1)

def yesS (b : Bool) : Option (List UInt8) := if b = true then none else some []

def fitsS : Nat → E → E → Option (List UInt8)
  | 0, _, _ => some []
  | d + 1, t, v =>
    if kindE t = 7 then none
    else if kindE t = 1 then yesS (decide (kindE v = 1) && decide (minE t ≤ minE v) && decide (minE v ≤ maxE t))
    else if kindE t = 2 then yesS (decide (kindE v = 2) && decide (minE t ≤ (txtE v).length) && decide (((txtE v).length : Int) ≤ maxE t))
    else if kindE t = 3 then yesS (decide (kindE v = 3))
    else if kindE t = 4 then yesS (decide (kindE v = 2) && hasS (optsE t) (txtE v))
    else if kindE t = 5 then (if kindE v = 5 ∧ minE t ≤ (listE v).length ∧ ((listE v).length : Int) ≤ maxE t then elemsS (fitsS d (ofOne t)) 0 (listE v) else some [])
    else if kindE t = 6 then (if kindE v = 6 then membS (fitsS d) (fieldsE t) (namesE v) (listE v) else some [])
    else some []

def MembOk (f : E → E → Option (List UInt8)) (ts ns vs : List E) : Prop :=
  (∀ p ∈ ns.zip vs, ∃ t ∈ ts, nmE t = nmE p.1 ∧ f (fieldTy t) p.2 = none) ∧ ∀ t ∈ ts, optF t = true ∨ ∃ n ∈ ns, nmE n = nmE t

/-- Values whose records' names are in order. -/
def okV : Nat → E → Prop
  | 0, _ => False
  | d + 1, v => (kindE v = 5 → ∀ x ∈ listE v, okV d x) ∧ (kindE v = 6 → (namesE v).length = (listE v).length ∧ Asc ((namesE v).map nmE) ∧ ∀ x ∈ listE v, okV d x)

end Go.Den

/- What the readers of schemas and values come to: by what is left of the text. -/
namespace Go.Den
open Go

/-- What a reader comes to: something and the rest; or an error, and the rest where it is. -/
inductive PR (α : Type) where
  | ok (x : α) (l : List UInt8)
  | err (e : Int) (l : List UInt8)

def PR.andThen {α β : Type} (x : PR α) (f : α → List UInt8 → PR β) : PR β :=
  match x with
  | .ok a l => f a l
  | .err e l => .err e l

@[simp] theorem PR.ok_then {α β : Type} (a : α) (l : List UInt8) (f : α → List UInt8 → PR β) : (PR.ok a l).andThen f = f a l := rfl
@[simp] theorem PR.err_then {α β : Type} (e : Int) (l : List UInt8) (f : α → List UInt8 → PR β) : (PR.err e l).andThen f = .err e l := rfl

/-- What is left behind a reader is the end of what was there. -/
def PR.Tail {α : Type} (x : PR α) (l : List UInt8) : Prop :=
  match x with
  | .ok _ r => r <:+ l
  | .err _ r => r <:+ l

theorem PR.tail_ok {α : Type} (a : α) (l : List UInt8) : (PR.ok a l).Tail l := List.suffix_rfl
theorem PR.Tail.then {α β : Type} {x : PR α} {f : α → List UInt8 → PR β} {l : List UInt8} (h : x.Tail l) (hf : ∀ a r, x = .ok a r → (f a r).Tail r) : (x.andThen f).Tail l := by
  cases x with
  | err e r => exact h
  | ok a r =>
    have h1 : r <:+ l := h
    have h2 := hf a r rfl
    show (f a r).Tail l
    revert h2
    cases f a r with
    | ok b q => exact fun h2 : q <:+ r => show q <:+ l from h2.trans h1
    | err e q => exact fun h2 : q <:+ r => show q <:+ l from h2.trans h1

def hd (l : List UInt8) : UInt8 := l.headD 0
def lowC (c : UInt8) : Bool := decide (97 ≤ c) && decide (c ≤ 122)
def digC (c : UInt8) : Bool := decide (48 ≤ c) && decide (c ≤ 57)
def namC (c : UInt8) : Bool := lowC c || digC c || c == 45

/-- A text that must follow. -/
def needL : List UInt8 → List UInt8 → PR Unit
  | [], l => .ok () l
  | c :: w, l => if hd l = c then needL w (l.drop 1) else .err 2 l

def decV (n : Nat) (ds : List UInt8) : Nat := ds.foldl (fun n c => 10 * n + (c.toNat - 48)) n

def numL (l : List UInt8) : PR Int :=
  let g := hd l == 45
  let l1 := if g then l.drop 1 else l
  if hd l1 = 48 then (if g then .err 2 l1 else .ok 0 (l1.drop 1))
  else if l1.takeWhile digC = [] then .err 2 l1
  else if 4611686018427387904 < decV 0 (l1.takeWhile digC) then .err 1 l
  else .ok (if g then -(decV 0 (l1.takeWhile digC) : Int) else decV 0 (l1.takeWhile digC)) (l1.dropWhile digC)

def wordL (l : List UInt8) : PR (List UInt8) :=
  if lowC (hd l) then .ok (l.takeWhile namC) (l.dropWhile namC) else .err 2 l

def pairL (l : List UInt8) : PR (Int × Int) :=
  (numL l).andThen fun a l => (needL [46, 46] l).andThen fun _ l => (numL l).andThen fun b l => .ok (a, b) l

section
variable (s t f : TypeId)

def mkT (k mn mx : Int) (os fs gs : List E) : E := .agg [.int .i64 k, .int .i64 mn, .int .i64 mx, .sl s os, .sl t fs, .sl f gs]
def mkF (n : List UInt8) (o : Bool) (x : E) : E := .agg (.str n :: .bool o :: x.cells)

def openL (k lo hi : Int) (l : List UInt8) : PR E :=
  if hd l = 32 then (pairL (l.drop 1)).andThen fun q l => .ok (mkT s t f k q.1 q.2 [] [] []) l else .ok (mkT s t f k lo hi [] [] []) l

/-- Options behind a name. -/
def optsM : Nat → List E → List UInt8 → PR (List E)
  | 0, _, l => .err 0 l
  | n + 1, acc, l => if hd l = 124 then (wordL (l.drop 1)).andThen fun x l => optsM n (acc ++ [.str x]) l else .ok acc l
/-- .. at the head of a name. -/
def optsL (n : Nat) (acc : List E) (l : List UInt8) : PR (List E) := (wordL l).andThen fun x l => optsM n (acc ++ [.str x]) l

/-- A field, behind its name. -/
def markL (l : List UInt8) : Bool := hd l == 63
def dropM (l : List UInt8) : List UInt8 := if markL l then l.drop 1 else l
/-- Fields, at the head of a name. -/
def recL (kd : List UInt8 → PR E) : Nat → List E → List UInt8 → PR (List E)
  | 0, _, l => .err 0 l
  | n + 1, acc, l => (wordL l).andThen fun x l1 => (needL [58, 32] (dropM l1)).andThen fun _ l2 => (kd l2).andThen fun y l3 =>
      if hd l3 = 44 then (needL [32] (l3.drop 1)).andThen fun _ l4 => recL kd n (acc ++ [mkF x (markL l1) y]) l4
      else (needL [125] l3).andThen fun _ l4 => .ok (acc ++ [mkF x (markL l1) y]) l4

/-- A schema of at most so many levels. -/
def kindL : Nat → List UInt8 → PR E
  | 0, l => .err 27 l
  | d + 1, l =>
    if hd l = 105 then (needL [105, 110, 116] l).andThen fun _ l => openL s t f 1 (-4611686018427387904) 4611686018427387904 l
    else if hd l = 116 then (needL [116, 101, 120, 116] l).andThen fun _ l => openL s t f 2 0 256 l
    else if hd l = 98 then (needL [98, 111, 111, 108] l).andThen fun _ l => .ok (mkT s t f 3 0 0 [] [] []) l
    else if hd l = 97 then (needL [97, 110, 121] l).andThen fun _ l => .ok (mkT s t f 7 0 0 [] [] []) l
    else if hd l = 101 then (needL [101, 110, 117, 109, 40] l).andThen fun _ l => (optsL l.length.succ [] l).andThen fun os l => (needL [41] l).andThen fun _ l => .ok (mkT s t f 4 0 0 os [] []) l
    else if hd l = 108 then (needL [108, 105, 115, 116, 32] l).andThen fun _ l => (pairL l).andThen fun q l => (needL [32, 111, 102, 32] l).andThen fun _ l => (kindL d l).andThen fun x l => .ok (mkT s t f 5 q.1 q.2 [] [x] []) l
    else if hd l = 123 then
      (if hd (l.drop 1) = 125 then .ok (mkT s t f 6 0 0 [] [] []) ((l.drop 1).drop 1)
       else (recL (kindL d) (l.drop 1).length.succ [] (l.drop 1)).andThen fun fs l => .ok (mkT s t f 6 0 0 [] [] fs) l)
    else .err 2 l

/-! ### Values; their own types: names s, values t -/

def mkV (k n : Int) (x : List UInt8) (ns vs : List E) : E := .agg [.int .i64 k, .int .i64 n, .str x, .sl s ns, .sl t vs]
end

def hexV (c : UInt8) : Option Nat :=
  if 48 ≤ c ∧ c ≤ 57 then some (c.toNat - 48) else if 97 ≤ c ∧ c ≤ 102 then some (c.toNat - 87) else none
def hexL (l : List UInt8) : PR Nat := match hexV (hd l) with | some v => .ok v (l.drop 1) | none => .err 2 l

/-- A text in quotes, behind the first one. -/
def quotL : Nat → List UInt8 → List UInt8 → PR (List UInt8)
  | 0, _, l => .err 0 l
  | n + 1, acc, l =>
    if hd l = 34 then .ok acc (l.drop 1)
    else if hd l < 32 ∨ 126 < hd l then .err 2 l
    else if hd l ≠ 92 then quotL n (acc ++ [hd l]) (l.drop 1)
    else if hd (l.drop 1) = 34 ∨ hd (l.drop 1) = 92 then quotL n (acc ++ [hd (l.drop 1)]) ((l.drop 1).drop 1)
    else if hd (l.drop 1) = 120 then
      (hexL ((l.drop 1).drop 1)).andThen fun a l2 => (hexL l2).andThen fun b l3 =>
        if 32 ≤ 16 * a + b ∧ 16 * a + b ≤ 126 then .err 2 l else quotL n (acc ++ [UInt8.ofNat (16 * a + b)]) l3
    else .err 2 (l.drop 1)

/-- Elements, at the head of one. -/
def elsL (vd : List UInt8 → PR E) : Nat → List E → List UInt8 → PR (List E)
  | 0, _, l => .err 0 l
  | n + 1, acc, l => (vd l).andThen fun y l1 => if hd l1 = 44 then elsL vd n (acc ++ [y]) (l1.drop 1) else (needL [93] l1).andThen fun _ l2 => .ok (acc ++ [y]) l2

/-- Is a name not behind the last one of some? -/
def lateB (ns : List E) (x : List UInt8) : Bool := decide (0 < ns.length) && (Op.bytesLess x (nmE (ns.getD (ns.length - 1) .nili)) || strEq x (nmE (ns.getD (ns.length - 1) .nili)))

/-- Entries, at the head of a name. -/
def entL (vd : List UInt8 → PR E) : Nat → List E → List E → List UInt8 → PR (List E × List E)
  | 0, _, _, l => .err 0 l
  | n + 1, ns, vs, l => (wordL l).andThen fun x l1 =>
      if 16 < x.length then .err 11 l
      else if lateB ns x then .err 22 l
      else (needL [58] l1).andThen fun _ l2 => (vd l2).andThen fun y l3 =>
        if hd l3 = 44 then entL vd n (ns ++ [.str x]) (vs ++ [y]) (l3.drop 1)
        else (needL [125] l3).andThen fun _ l4 => .ok (ns ++ [.str x], vs ++ [y]) l4

section
variable (s t : TypeId)
/-- A value of at most so many levels. -/
def valL : Nat → List UInt8 → PR E
  | 0, l => .err 27 l
  | d + 1, l =>
    if hd l = 45 ∨ digC (hd l) = true then (numL l).andThen fun n l => .ok (mkV s t 1 n [] [] []) l
    else if hd l = 102 then (needL [102, 97, 108, 115, 101] l).andThen fun _ l => .ok (mkV s t 3 0 [] [] []) l
    else if hd l = 116 then (needL [116, 114, 117, 101] l).andThen fun _ l => .ok (mkV s t 3 1 [] [] []) l
    else if hd l = 34 then (quotL (l.drop 1).length.succ [] (l.drop 1)).andThen fun x l => .ok (mkV s t 2 0 x [] []) l
    else if hd l = 91 then
      (if hd (l.drop 1) = 93 then .ok (mkV s t 5 0 [] [] []) ((l.drop 1).drop 1)
       else (elsL (valL d) (l.drop 1).length.succ [] (l.drop 1)).andThen fun vs l => .ok (mkV s t 5 0 [] [] vs) l)
    else if hd l = 123 then
      (if hd (l.drop 1) = 125 then .ok (mkV s t 6 0 [] [] []) ((l.drop 1).drop 1)
       else (entL (valL d) (l.drop 1).length.succ [] [] (l.drop 1)).andThen fun q l => .ok (mkV s t 6 0 [] q.1 q.2) l)
    else .err 2 l
end

/-! ### What is left is the end -/

theorem needL_tail : ∀ (w l : List UInt8), (needL w l).Tail l
  | [], l => List.suffix_rfl
  | c :: w, l => by
    unfold needL
    split
    · have := needL_tail w (l.drop 1)
      revert this
      cases needL w (l.drop 1) with
      | ok _ r => exact fun h : r <:+ l.drop 1 => show r <:+ l from h.trans (List.drop_suffix 1 l)
      | err _ r => exact fun h : r <:+ l.drop 1 => show r <:+ l from h.trans (List.drop_suffix 1 l)
    · exact List.suffix_rfl
theorem numL_tail (l : List UInt8) : (numL l).Tail l := by
  have h1 : (if (hd l == 45) = true then l.drop 1 else l) <:+ l := by split; exact List.drop_suffix 1 l; exact List.suffix_rfl
  unfold numL
  dsimp only
  generalize (if (hd l == 45) = true then l.drop 1 else l) = l1 at h1
  split
  · split
    · exact h1
    · exact (List.drop_suffix 1 l1).trans h1
  · split
    · exact h1
    · split
      · exact List.suffix_rfl
      · exact (List.dropWhile_suffix digC).trans h1
theorem wordL_tail (l : List UInt8) : (wordL l).Tail l := by
  unfold wordL
  split
  · exact List.dropWhile_suffix namC
  · exact List.suffix_rfl
theorem PR.Tail.mono {α : Type} {x : PR α} {l l' : List UInt8} (h : x.Tail l') (hl : l' <:+ l) : x.Tail l := by
  cases x with
  | ok a r => exact (show r <:+ l' from h).trans hl
  | err a r => exact (show r <:+ l' from h).trans hl
theorem drop_tail (l : List UInt8) : l.drop 1 <:+ l := List.drop_suffix 1 l
theorem pairL_tail (l : List UInt8) : (pairL l).Tail l :=
  (numL_tail l).then fun _ r _ => (needL_tail _ r).then fun _ r _ => (numL_tail r).then fun _ _ _ => PR.tail_ok _ _
theorem optsM_tail : ∀ (n : Nat) (acc : List E) (l : List UInt8), (optsM n acc l).Tail l
  | 0, _, _ => List.suffix_rfl
  | n + 1, acc, l => by
    unfold optsM
    split
    · exact ((wordL_tail _).then fun x r _ => optsM_tail n _ r).mono (drop_tail l)
    · exact List.suffix_rfl
theorem optsL_tail (n : Nat) (acc : List E) (l : List UInt8) : (optsL n acc l).Tail l := (wordL_tail l).then fun x r _ => optsM_tail n _ r
theorem dropM_tail (l : List UInt8) : dropM l <:+ l := by
  unfold dropM; split
  · exact drop_tail l
  · exact List.suffix_rfl
theorem recL_tail {kd : List UInt8 → PR E} (hk : ∀ l, (kd l).Tail l) : ∀ (n : Nat) (acc : List E) (l : List UInt8), (recL kd n acc l).Tail l
  | 0, _, _ => List.suffix_rfl
  | n + 1, acc, l => by
    unfold recL
    refine (wordL_tail l).then fun x r _ => ((needL_tail _ (dropM r)).then fun _ r2 _ => (hk r2).then fun y r3 _ => ?_).mono (dropM_tail r)
    split
    · exact ((needL_tail _ _).then fun _ r4 _ => recL_tail hk n _ r4).mono (drop_tail r3)
    · exact (needL_tail _ r3).then fun _ _ _ => PR.tail_ok _ _
theorem openL_tail (s t f : TypeId) (k lo hi : Int) (l : List UInt8) : (openL s t f k lo hi l).Tail l := by
  unfold openL
  split
  · exact ((pairL_tail _).then fun _ _ _ => PR.tail_ok _ _).mono (drop_tail l)
  · exact List.suffix_rfl
theorem kindL_tail (s t f : TypeId) : ∀ (d : Nat) (l : List UInt8), (kindL s t f d l).Tail l
  | 0, _ => List.suffix_rfl
  | d + 1, l => by
    unfold kindL
    split
    · exact (needL_tail _ l).then fun _ r _ => openL_tail ..
    split
    · exact (needL_tail _ l).then fun _ r _ => openL_tail ..
    split
    · exact (needL_tail _ l).then fun _ r _ => PR.tail_ok _ _
    split
    · exact (needL_tail _ l).then fun _ r _ => PR.tail_ok _ _
    split
    · exact (needL_tail _ l).then fun _ r _ => (optsL_tail ..).then fun _ r _ => (needL_tail _ r).then fun _ _ _ => PR.tail_ok _ _
    split
    · exact (needL_tail _ l).then fun _ r _ => (pairL_tail r).then fun _ r _ => (needL_tail _ r).then fun _ r _ => (kindL_tail s t f d r).then fun _ _ _ => PR.tail_ok _ _
    split
    · split
      · exact (drop_tail _).trans (drop_tail l)
      · exact ((recL_tail (kindL_tail s t f d) _ _ _).then fun _ _ _ => PR.tail_ok _ _).mono (drop_tail l)
    · exact List.suffix_rfl
theorem hd_drop {l : List UInt8} {c : UInt8} (h : hd l = c) (hc : c ≠ 0) : l = c :: l.drop 1 := by
  cases l with
  | nil => exact absurd h.symm hc
  | cons x l => unfold hd at h; simp at h; simp [h]
theorem wordL_less {l l1 x : List UInt8} (h : wordL l = .ok x l1) : l1.length < l.length ∧ l = x ++ l1 ∧ x ≠ [] := by
  unfold wordL at h
  split at h
  · rename_i hc
    injection h with h1 h2
    cases l with
    | nil => exact absurd hc (by decide)
    | cons c l =>
      have hn : namC c = true := by simp [namC, show lowC c = true from hc]
      have e := List.takeWhile_append_dropWhile (p := namC) (l := c :: l)
      rw [h1, h2] at e
      have hx : x ≠ [] := by rw [← h1, List.takeWhile_cons, hn]; simp
      refine ⟨?_, e.symm, hx⟩
      rw [← e, List.length_append]
      have := List.length_pos_iff.2 hx
      omega
  · cases h

end Go.Den

/- What is written is read again: schemas. -/
namespace Go.Den
open Go

/-! ### Numbers -/

theorem decV_append (n : Nat) (a b : List UInt8) : decV n (a ++ b) = decV (decV n a) b := by simp [decV]
theorem hd_append {a b : List UInt8} (h : a ≠ []) : hd (a ++ b) = hd a := by
  cases a with
  | nil => exact absurd rfl h
  | cons x a => rfl
/-- What a reader of numbers takes is the number's text. -/
theorem digit_back {c : UInt8} (h : digC c = true) : UInt8.ofNat (48 + (c.toNat - 48)) = c ∧ c.toNat - 48 < 10 ∧ (c ≠ 48 → c.toNat - 48 ≠ 0) := by
  simp only [digC, Bool.and_eq_true, decide_eq_true_eq] at h
  have h1 : 48 ≤ c.toNat := by have := UInt8.le_iff_toNat_le.1 h.1; simpa using this
  have h2 : c.toNat ≤ 57 := by have := UInt8.le_iff_toNat_le.1 h.2; simpa using this
  refine ⟨?_, by omega, fun hc h0 => hc ?_⟩
  · rw [show 48 + (c.toNat - 48) = c.toNat by omega]
    exact UInt8.ofNat_toNat
  · have : c.toNat = 48 := by omega
    exact UInt8.toNat_inj.1 this
theorem decDigits_back : ∀ (n : Nat) (ds : List UInt8), ds.length = n → ds ≠ [] → (∀ c ∈ ds, digC c = true) → hd ds ≠ 48 → Lib.decDigits (decV 0 ds) = ds ∧ decV 0 ds ≠ 0
  | 0, ds, hl, hne, _, _ => absurd (List.length_eq_zero_iff.1 hl) hne
  | n + 1, ds, hl, hne, hall, hh => by
    obtain ⟨as, c, rfl⟩ : ∃ as c, ds = as ++ [c] := ⟨ds.dropLast, ds.getLast hne, (List.dropLast_concat_getLast hne).symm⟩
    obtain ⟨c1, c2, c3⟩ := digit_back (hall c (by simp))
    rw [decV_append]
    cases as with
    | nil =>
      have e : decV (decV 0 []) [c] = c.toNat - 48 := by simp [decV]
      rw [e, Lib.decDigits, dif_pos c2, List.nil_append, c1]
      exact ⟨rfl, c3 hh⟩
    | cons a as =>
      have hl' : (a :: as).length = n := by simpa using hl
      obtain ⟨k1, k2⟩ := decDigits_back n (a :: as) hl' (by simp) (fun x hx => hall x (by simp at hx ⊢; rcases hx with h | h <;> simp [h])) hh
      have e : ∀ v, decV v [c] = 10 * v + (c.toNat - 48) := fun v => by simp [decV]
      rw [e]
      generalize decV 0 (a :: as) = v at k1 k2
      rw [Lib.decDigits, dif_neg (by omega), show (10 * v + (c.toNat - 48)) / 10 = v by omega, show (10 * v + (c.toNat - 48)) % 10 = c.toNat - 48 by omega, k1, c1]
      exact ⟨rfl, by omega⟩
theorem takeWhile_all {p : UInt8 → Bool} : ∀ (l : List UInt8), ∀ c ∈ l.takeWhile p, p c = true
  | [], c, h => by simp at h
  | x :: l, c, h => by
    rw [List.takeWhile_cons] at h
    split at h
    · rename_i hx
      rcases List.mem_cons.1 h with rfl | h
      · exact hx
      · exact takeWhile_all l c h
    · cases h
theorem hd_takeWhile {p : UInt8 → Bool} {l : List UInt8} (h : l.takeWhile p ≠ []) : hd (l.takeWhile p) = hd l := by
  cases l with
  | nil => exact absurd rfl h
  | cons x l =>
    rw [List.takeWhile_cons] at h ⊢
    split
    · rfl
    · rename_i hx
      rw [if_neg hx] at h
      exact absurd rfl h

theorem numL_back {l r : List UInt8} {n : Int} (h : numL l = .ok n r) : l = Lib.itoa n ++ r ∧ -4611686018427387904 ≤ n ∧ n ≤ 4611686018427387904 := by
  unfold numL at h
  dsimp only at h
  by_cases hg : (hd l == 45) = true
  · rw [if_pos hg] at h
    have hl : l = 45 :: l.drop 1 := hd_drop (by simpa using hg) (by decide)
    generalize l.drop 1 = l1 at h hl
    split at h
    · cases h
    · rename_i h48
      split at h
      · cases h
      · rename_i hne
        split at h
        · cases h
        · rename_i hbig
          injection h with e1 e2
          have hh : hd (l1.takeWhile digC) ≠ 48 := by rw [hd_takeWhile hne]; exact h48
          obtain ⟨k1, k2⟩ := decDigits_back _ _ rfl hne (takeWhile_all l1) hh
          have e := List.takeWhile_append_dropWhile (p := digC) (l := l1)
          generalize decV 0 (l1.takeWhile digC) = v at *
          rw [e2] at e
          subst e1
          refine ⟨?_, by omega, by omega⟩
          unfold Lib.itoa
          rw [if_pos (by omega), hl, show (-(v : Int)).natAbs = v by omega, k1, List.cons_append, e]
  · rw [if_neg hg] at h
    split at h
    · rename_i h48
      injection h with e1 e2
      subst e1
      refine ⟨?_, by omega, by omega⟩
      have e : Lib.itoa 0 = [48] := by unfold Lib.itoa; rw [if_neg (by omega), Lib.decDigits]; rfl
      rw [e, ← e2]
      exact hd_drop h48 (by decide)
    · rename_i h48
      split at h
      · cases h
      · rename_i hne
        split at h
        · cases h
        · rename_i hbig
          injection h with e1 e2
          have hh : hd (l.takeWhile digC) ≠ 48 := by rw [hd_takeWhile hne]; exact h48
          obtain ⟨k1, k2⟩ := decDigits_back _ _ rfl hne (takeWhile_all l) hh
          have e := List.takeWhile_append_dropWhile (p := digC) (l := l)
          generalize decV 0 (l.takeWhile digC) = v at *
          rw [e2] at e
          subst e1
          refine ⟨?_, by omega, by omega⟩
          unfold Lib.itoa
          rw [if_neg (by omega), show (v : Int).toNat = v by omega, k1, e]

/-! ### Names -/

/-- What topic.Name says of a name, as far as it matters here. -/
def NameOk (x : List UInt8) : Prop := lowC (hd x) = true ∧ ∀ c ∈ x, namC c = true
theorem hd_dropWhile : ∀ l : List UInt8, namC (hd (l.dropWhile namC)) = false
  | [] => by decide
  | y :: l => by
    rw [List.dropWhile_cons]
    split
    · exact hd_dropWhile l
    · rename_i hy; simpa [hd] using hy
theorem wordL_ok {l x r : List UInt8} (h : wordL l = .ok x r) : NameOk x ∧ l = x ++ r ∧ namC (hd r) = false := by
  obtain ⟨_, h2, h3⟩ := wordL_less h
  unfold wordL at h
  split at h
  · rename_i hc
    injection h with e1 e2
    refine ⟨⟨?_, ?_⟩, h2, ?_⟩
    · rw [h2, hd_append h3] at hc; exact hc
    · rw [← e1]; exact takeWhile_all l
    · rw [← e2]
      exact hd_dropWhile l
  · cases h

/-! ### Schemas -/

section
variable (s t f : TypeId)

def bndS (x : E) : List UInt8 := Lib.itoa (minE x) ++ [46, 46] ++ Lib.itoa (maxE x)
def fldS (tx : E → List UInt8) (g : E) : List UInt8 := nmE g ++ (if optF g = true then [63] else []) ++ [58, 32] ++ tx (fieldTy g)
/-- The text of a schema. -/
def textS : Nat → E → List UInt8
  | 0, _ => []
  | d + 1, x =>
    if kindE x = 1 then (if minE x = -4611686018427387904 ∧ maxE x = 4611686018427387904 then [105, 110, 116] else [105, 110, 116, 32] ++ bndS x)
    else if kindE x = 2 then (if minE x = 0 ∧ maxE x = 256 then [116, 101, 120, 116] else [116, 101, 120, 116, 32] ++ bndS x)
    else if kindE x = 3 then [98, 111, 111, 108]
    else if kindE x = 4 then [101, 110, 117, 109, 40] ++ Lib.join ((optsE x).map nmE) [124] ++ [41]
    else if kindE x = 5 then [108, 105, 115, 116, 32] ++ bndS x ++ [32, 111, 102, 32] ++ textS d (ofOne x)
    else if kindE x = 6 then [123] ++ Lib.join ((fieldsE x).map (fldS (textS d))) [44, 32] ++ [125]
    else [97, 110, 121]

/-- Schemas that are right, whole. -/
def Ful : Nat → E → Prop
  | 0, _ => False
  | d + 1, x =>
    (∃ mn mx, x = mkT s t f 1 mn mx [] [] [] ∧ -4611686018427387904 ≤ mn ∧ mn ≤ mx ∧ mx ≤ 4611686018427387904) ∨
    (∃ mn mx, x = mkT s t f 2 mn mx [] [] [] ∧ 0 ≤ mn ∧ mn ≤ mx ∧ mx ≤ 256) ∨
    x = mkT s t f 3 0 0 [] [] [] ∨
    (∃ os, x = mkT s t f 4 0 0 os [] [] ∧ os ≠ [] ∧ os.length ≤ 16 ∧ Asc (os.map nmE) ∧ ∀ o ∈ os, ∃ n, o = .str n ∧ NameOk n ∧ n.length ≤ 16) ∨
    (∃ mn mx y, x = mkT s t f 5 mn mx [] [y] [] ∧ 0 ≤ mn ∧ mn ≤ mx ∧ mx ≤ 32 ∧ Ful d y) ∨
    (∃ gs, x = mkT s t f 6 0 0 [] [] gs ∧ gs.length ≤ 16 ∧ Asc (gs.map nmE) ∧ ∀ g ∈ gs, ∃ n o y, g = mkF n o y ∧ NameOk n ∧ n.length ≤ 16 ∧ Ful d y) ∨
    x = mkT s t f 7 0 0 [] [] []
variable {s t f}

theorem Ful.agg {d : Nat} {x : E} (h : Ful s t f d x) : ∃ cs, x = .agg cs := by
  cases d with
  | zero => cases h
  | succ d => rcases h with ⟨_, _, rfl, _⟩ | ⟨_, _, rfl, _⟩ | rfl | ⟨_, rfl, _⟩ | ⟨_, _, _, rfl, _⟩ | ⟨_, rfl, _⟩ | rfl <;> exact ⟨_, rfl⟩
theorem Ful.fieldTy {d : Nat} {n : List UInt8} {o : Bool} {x : E} (h : Ful s t f d x) : fieldTy (mkF n o x) = x := by
  obtain ⟨cs, rfl⟩ := h.agg; rfl

theorem kind_mkT {k mn mx : Int} {os fs gs : List E} : kindE (mkT s t f k mn mx os fs gs) = k := rfl
theorem min_mkT {k mn mx : Int} {os fs gs : List E} : minE (mkT s t f k mn mx os fs gs) = mn := rfl
theorem max_mkT {k mn mx : Int} {os fs gs : List E} : maxE (mkT s t f k mn mx os fs gs) = mx := rfl
theorem Ful.okT : ∀ {d : Nat} {x : E}, Ful s t f d x → okT d x
  | 0, _, h => h
  | d + 1, x, h => by
    have no : ∀ {p : Prop} {a b : Int}, a ≠ b → (a = b → p) := fun h e => absurd e h
    rcases h with ⟨mn, mx, rfl, h1, h2, h3⟩ | ⟨mn, mx, rfl, h1, h2, h3⟩ | rfl | ⟨os, rfl, h⟩ | ⟨mn, mx, y, rfl, h1, h2, h3, h4⟩ | ⟨gs, rfl, h1, h2, h3⟩ | rfl <;> unfold Den.okT <;> simp only [kind_mkT, min_mkT, max_mkT]
    · exact ⟨by omega, by omega, fun _ => h2, no (by omega), no (by omega), no (by omega)⟩
    · exact ⟨by omega, by omega, no (by omega), fun _ => ⟨h1, h2, h3⟩, no (by omega), no (by omega)⟩
    · exact ⟨by omega, by omega, no (by omega), no (by omega), no (by omega), no (by omega)⟩
    · exact ⟨by omega, by omega, no (by omega), no (by omega), no (by omega), no (by omega)⟩
    · exact ⟨by omega, by omega, no (by omega), no (by omega), fun _ => ⟨h1, h2, h3, rfl, h4.okT⟩, no (by omega)⟩
    · refine ⟨by omega, by omega, no (by omega), no (by omega), no (by omega), fun _ => ⟨h2, fun g hg => ?_⟩⟩
      obtain ⟨n, o, y, rfl, _, _, hy⟩ := h3 g hg
      rw [hy.fieldTy]
      exact hy.okT
    · exact ⟨by omega, by omega, no (by omega), no (by omega), no (by omega), no (by omega)⟩

/-- What may stand behind a schema's text. -/
def Sep (r : List UInt8) : Prop := r = [] ∨ hd r = 44 ∨ hd r = 125
theorem Sep.dig {r : List UInt8} (h : Sep r) : digC (hd r) = false ∧ hd r ≠ 32 := by
  rcases h with rfl | h | h
  · decide
  · rw [h]; decide
  · rw [h]; decide

end
end Go.Den

/- What is written is read again, and what is read was written: values. -/
namespace Go.Den
open Go

theorem PR.then_ok {α β : Type} {x : PR α} {f : α → List UInt8 → PR β} {b : β} {r : List UInt8} (h : x.andThen f = .ok b r) : ∃ a q, x = .ok a q ∧ f a q = .ok b r := by
  cases x with
  | err e l => cases h
  | ok a q => exact ⟨a, q, rfl, h⟩

/-! ### Texts in quotes -/

def hexC (k : Nat) : UInt8 := UInt8.ofNat (if k < 10 then 48 + k else 87 + k)
def escS (c : UInt8) : List UInt8 := if c = 34 ∨ c = 92 then [92, c] else if c < 32 ∨ 126 < c then [92, 120, hexC (c.toNat / 16), hexC (c.toNat % 16)] else [c]
def quotS (x : List UInt8) : List UInt8 := 34 :: (x.flatMap escS ++ [34])

/-! ### Values -/

section
variable (s t : TypeId)

def entT (w : E → List UInt8) (n v : E) : List UInt8 := nmE n ++ [58] ++ w v
/-- The text of a value. -/
def writS : Nat → E → List UInt8
  | 0, _ => []
  | d + 1, v =>
    if kindE v = 1 then Lib.itoa (minE v)
    else if kindE v = 2 then quotS (txtE v)
    else if kindE v = 3 then (if minE v = 0 then [102, 97, 108, 115, 101] else [116, 114, 117, 101])
    else if kindE v = 6 then [123] ++ Lib.join (List.zipWith (entT (writS d)) (namesE v) (listE v)) [44] ++ [125]
    else [91] ++ Lib.join ((listE v).map (writS d)) [44] ++ [93]

/-- Values that are right, whole. -/
def FulV : Nat → E → Prop
  | 0, _ => False
  | d + 1, v =>
    (∃ n, v = mkV s t 1 n [] [] [] ∧ -4611686018427387904 ≤ n ∧ n ≤ 4611686018427387904) ∨
    (∃ x, v = mkV s t 2 0 x [] []) ∨
    v = mkV s t 3 0 [] [] [] ∨
    v = mkV s t 3 1 [] [] [] ∨
    (∃ vs, v = mkV s t 5 0 [] [] vs ∧ ∀ y ∈ vs, FulV d y) ∨
    (∃ ns vs, v = mkV s t 6 0 [] ns vs ∧ ns.length = vs.length ∧ Asc (ns.map nmE) ∧ (∀ o ∈ ns, ∃ n, o = .str n ∧ NameOk n ∧ n.length ≤ 16) ∧ ∀ y ∈ vs, FulV d y)
variable {s t}

theorem kind_mkV {k n : Int} {x : List UInt8} {ns vs : List E} : kindE (mkV s t k n x ns vs) = k := rfl
theorem FulV.okV : ∀ {d : Nat} {v : E}, FulV s t d v → okV d v
  | 0, _, h => h
  | d + 1, v, h => by
    have no : ∀ {p : Prop} {a b : Int}, a ≠ b → (a = b → p) := fun h e => absurd e h
    rcases h with ⟨n, rfl, _⟩ | ⟨x, rfl⟩ | rfl | rfl | ⟨vs, rfl, hv⟩ | ⟨ns, vs, rfl, hl, ha, _, hv⟩ <;> unfold Den.okV <;> simp only [kind_mkV]
    · exact ⟨no (by omega), no (by omega)⟩
    · exact ⟨no (by omega), no (by omega)⟩
    · exact ⟨no (by omega), no (by omega)⟩
    · exact ⟨no (by omega), no (by omega)⟩
    · exact ⟨fun _ y hy => (hv y hy).okV, no (by omega)⟩
    · exact ⟨no (by omega), fun _ => ⟨hl, ha, fun y hy => (hv y hy).okV⟩⟩

def SepV (r : List UInt8) : Prop := r = [] ∨ hd r = 44 ∨ hd r = 93 ∨ hd r = 125
theorem SepV.dig {r : List UInt8} (h : SepV r) : digC (hd r) = false := by
  rcases h with rfl | h | h | h
  · decide
  all_goals rw [h]; decide

theorem Asc.snoc {ns : List E} {n : E} (h : Asc (ns.map nmE)) (hl : lateB ns (nmE n) = false) : Asc ((ns ++ [n]).map nmE) := by
  rw [List.map_append, Asc, List.pairwise_append]
  refine ⟨h, by simp, fun a ha b hb => ?_⟩
  simp at hb
  subst hb
  obtain ⟨m, hm, rfl⟩ := List.mem_map.1 ha
  have h0 : 0 < ns.length := List.length_pos_of_mem hm
  unfold lateB at hl
  simp only [h0, decide_true, Bool.true_and, Bool.or_eq_false_iff] at hl
  have hlast : Op.bytesLess (nmE (ns.getD (ns.length - 1) .nili)) (nmE n) = true := by
    cases hb : Op.bytesLess (nmE (ns.getD (ns.length - 1) .nili)) (nmE n) with
    | true => rfl
    | false => exact absurd (less_tri _ _ hl.1 hb) (strEq_no.1 hl.2)
  obtain ⟨i, hi, rfl⟩ := List.getElem_of_mem hm
  by_cases he : i = ns.length - 1
  · subst he
    have : ns.getD (ns.length - 1) E.nili = ns[ns.length - 1] := by rw [List.getD_eq_getElem?_getD, List.getElem?_eq_getElem (by omega)]; rfl
    rw [← this]; exact hlast
  · have e2 : ns.getD (ns.length - 1) E.nili = ns[ns.length - 1]'(by omega) := by rw [List.getD_eq_getElem?_getD, List.getElem?_eq_getElem (by omega)]; rfl
    have h3 := List.pairwise_iff_getElem.1 h i (ns.length - 1) (by simpa using hi) (by simp; omega) (by omega)
    simp only [List.getElem_map] at h3
    rw [e2] at hlast
    exact less_trans h3 hlast

end
end Go.Den

/- What readers return is data of its type. -/
namespace Go.Den
open Go

section
variable {s t f : TypeId}

def Strs (k : Nat) (os : List E) : Prop := ∀ o ∈ os, ∃ n, o = .str n ∧ n.length ≤ k
theorem Strs.snoc {k : Nat} {os : List E} {x : List UInt8} (h : Strs k os) (hx : x.length ≤ k) : Strs k (os ++ [.str x]) := fun o ho => by
  rcases List.mem_append.1 ho with ho | ho
  · exact h o ho
  · simp at ho; exact ⟨x, ho, hx⟩
theorem PR.Tail.len {α : Type} {x : PR α} {l : List UInt8} (h : x.Tail l) {a : α} {r : List UInt8} (e : x = .ok a r) : r.length ≤ l.length := by
  subst e
  exact List.IsSuffix.length_le (show r <:+ l from h)
theorem pairL_range {l r : List UInt8} {q : Int × Int} (h : pairL l = .ok q r) : (-4611686018427387904 ≤ q.1 ∧ q.1 ≤ 4611686018427387904) ∧ -4611686018427387904 ≤ q.2 ∧ q.2 ≤ 4611686018427387904 := by
  unfold pairL at h
  obtain ⟨a, l1, h1, h⟩ := PR.then_ok h
  obtain ⟨_, l2, _, h⟩ := PR.then_ok h
  obtain ⟨b, l3, h3, h⟩ := PR.then_ok h
  injection h with e1 e2
  subst e1
  exact ⟨(numL_back h1).2, (numL_back h3).2⟩

theorem optsM_strs : ∀ {n : Nat} {acc : List E} {l : List UInt8} {os : List E} {r : List UInt8}, Strs 65536 acc → l.length ≤ 65536 → optsM n acc l = .ok os r → Strs 65536 os ∧ os.length ≤ acc.length + n
  | 0, _, _, _, _, _, _, h => by cases h
  | n + 1, acc, l, os, r, ha, hl, h => by
    unfold optsM at h
    split at h
    · obtain ⟨x, q, h1, h⟩ := PR.then_ok h
      obtain ⟨_, e, _⟩ := wordL_ok h1
      have hq : x.length + q.length = (l.drop 1).length := by rw [e, List.length_append]
      simp only [List.length_drop] at hq
      obtain ⟨k1, k2⟩ := optsM_strs (ha.snoc (by omega)) (by omega) h
      exact ⟨k1, by simp at k2; omega⟩
    · injection h with e1 e2
      subst e1
      exact ⟨ha, by omega⟩

def Flds (s t f : TypeId) (gs : List E) : Prop := ∀ g ∈ gs, ∃ n o y, g = mkF n o y ∧ n.length ≤ 65536 ∧ IsTy s t f y
theorem recL_flds {kd : List UInt8 → PR E} (hk : ∀ l x r, l.length ≤ 65536 → kd l = .ok x r → IsTy s t f x) (ht : ∀ l, (kd l).Tail l) :
    ∀ {n : Nat} {acc : List E} {l : List UInt8} {gs : List E} {r : List UInt8}, Flds s t f acc → l.length ≤ 65536 → recL kd n acc l = .ok gs r → Flds s t f gs ∧ gs.length ≤ acc.length + n
  | 0, _, _, _, _, _, _, h => by cases h
  | n + 1, acc, l, gs, r, ha, hl, h => by
    unfold recL at h
    obtain ⟨x, l1, h1, h⟩ := PR.then_ok h
    obtain ⟨_, l2, h2, h⟩ := PR.then_ok h
    obtain ⟨y, l3, h3, h⟩ := PR.then_ok h
    obtain ⟨_, e, _⟩ := wordL_ok h1
    have q1 : x.length + l1.length = l.length := by rw [e, List.length_append]
    have q2 := (needL_tail [58, 32] (dropM l1)).len h2
    have q2' : (dropM l1).length ≤ l1.length := (dropM_tail l1).length_le
    have q3 := (ht l2).len h3
    have hacc : Flds s t f (acc ++ [mkF x (markL l1) y]) := fun g hg => by
      rcases List.mem_append.1 hg with hg | hg
      · exact ha g hg
      · simp at hg; exact ⟨x, _, y, hg, by omega, hk l2 y l3 (by omega) h3⟩
    split at h
    · obtain ⟨_, l4, h4, h⟩ := PR.then_ok h
      have q4 := (needL_tail [32] (l3.drop 1)).len h4
      simp only [List.length_drop] at q4
      obtain ⟨k1, k2⟩ := recL_flds hk ht hacc (by omega) h
      exact ⟨k1, by simp at k2; omega⟩
    · obtain ⟨_, l4, h4, h⟩ := PR.then_ok h
      injection h with e1 e2
      subst e1
      exact ⟨hacc, by simp⟩

theorem isTy_mk {k mn mx : Int} {os fs gs : List E} (ho : Strs 65536 os) (hol : os.length ≤ 70000) (hf : ∀ x ∈ fs, IsTy s t f x) (hfl : fs.length ≤ 70000) (hg : Flds s t f gs) (hgl : gs.length ≤ 70000)
    (hk : 0 ≤ k ∧ k ≤ 7) (hmn : -4611686018427387904 ≤ mn ∧ mn ≤ 4611686018427387904) (hmx : -4611686018427387904 ≤ mx ∧ mx ≤ 4611686018427387904) : IsTy s t f (mkT s t f k mn mx os fs gs) := by
  have ag : ∀ {y : E}, IsTy s t f y → ∃ cs, y = .agg cs := fun h => by cases h; exact ⟨_, rfl⟩
  refine .mk k mn mx os fs gs (fun o h => let ⟨n, e, l⟩ := ho o h; ⟨n, e, by rw [maxLen_eq]; omega⟩) (by rw [maxLen_eq]; omega) hf (by rw [maxLen_eq]; omega) (fun g h => ?_) (fun g h => ?_) (by rw [maxLen_eq]; omega) (by omega) (by omega) (by omega)
  · obtain ⟨n, o, y, rfl, _, hy⟩ := hg g h
    obtain ⟨cs, rfl⟩ := ag hy
    exact hy
  · obtain ⟨n, o, y, rfl, hl, hy⟩ := hg g h
    exact ⟨n, o, _, rfl, by rw [maxLen_eq]; omega⟩

theorem kindL_ty : ∀ (d : Nat) (l : List UInt8) (x : E) (r : List UInt8), l.length ≤ 65536 → kindL s t f d l = .ok x r → IsTy s t f x
  | 0, _, _, _, _, h => by cases h
  | d + 1, l, x, r, hl, h => by
    have noS : Strs 65536 [] := by intro o h; cases h
    have noF : Flds s t f [] := by intro o h; cases h
    have op : ∀ {k lo hi : Int} {l : List UInt8}, (0 ≤ k ∧ k ≤ 7) → (-4611686018427387904 ≤ lo ∧ lo ≤ 4611686018427387904) → (-4611686018427387904 ≤ hi ∧ hi ≤ 4611686018427387904) → openL s t f k lo hi l = .ok x r → IsTy s t f x := by
      intro k lo hi l hk h1 h2 h
      unfold openL at h
      split at h
      · obtain ⟨q, l1, h3, h⟩ := PR.then_ok h
        injection h with e1 e2
        subst e1
        obtain ⟨k1, k2⟩ := pairL_range h3
        exact isTy_mk noS (by simp) (by simp) (by simp) noF (by simp) hk k1 k2
      · injection h with e1 e2
        subst e1
        exact isTy_mk noS (by simp) (by simp) (by simp) noF (by simp) hk h1 h2
    unfold kindL at h
    split at h
    · obtain ⟨_, l1, _, h⟩ := PR.then_ok h
      exact op (by omega) (by omega) (by omega) h
    split at h
    · obtain ⟨_, l1, _, h⟩ := PR.then_ok h
      exact op (by omega) (by omega) (by omega) h
    split at h
    · obtain ⟨_, l1, _, h⟩ := PR.then_ok h
      injection h with e1 e2
      subst e1
      exact isTy_mk noS (by simp) (by simp) (by simp) noF (by simp) (by omega) (by omega) (by omega)
    split at h
    · obtain ⟨_, l1, _, h⟩ := PR.then_ok h
      injection h with e1 e2
      subst e1
      exact isTy_mk noS (by simp) (by simp) (by simp) noF (by simp) (by omega) (by omega) (by omega)
    split at h
    · obtain ⟨_, l1, h1, h⟩ := PR.then_ok h
      obtain ⟨os, l2, h2, h⟩ := PR.then_ok h
      obtain ⟨_, l3, _, h⟩ := PR.then_ok h
      injection h with e1 e2
      subst e1
      have q1 := (needL_tail _ l).len h1
      unfold optsL at h2
      obtain ⟨x1, l4, h4, h2⟩ := PR.then_ok h2
      obtain ⟨_, e, _⟩ := wordL_ok h4
      have q2 : x1.length + l4.length = l1.length := by rw [e, List.length_append]
      obtain ⟨k1, k2⟩ := optsM_strs (noS.snoc (x := x1) (by omega)) (by omega) h2
      exact isTy_mk k1 (by simp at k2; omega) (by simp) (by simp) noF (by simp) (by omega) (by omega) (by omega)
    split at h
    · obtain ⟨_, l1, h1, h⟩ := PR.then_ok h
      obtain ⟨q, l2, h2, h⟩ := PR.then_ok h
      obtain ⟨_, l3, h3, h⟩ := PR.then_ok h
      obtain ⟨y, l4, h4, h⟩ := PR.then_ok h
      injection h with e1 e2
      subst e1
      have q1 := (needL_tail _ l).len h1
      have q2 := (pairL_tail l1).len h2
      have q3 := (needL_tail _ l2).len h3
      obtain ⟨k1, k2⟩ := pairL_range h2
      exact isTy_mk noS (by simp) (fun z hz => by simp at hz; subst hz; exact kindL_ty d l3 _ l4 (by omega) h4) (by simp) noF (by simp) (by omega) k1 k2
    split at h
    · split at h
      · injection h with e1 e2
        subst e1
        exact isTy_mk noS (by simp) (by simp) (by simp) noF (by simp) (by omega) (by omega) (by omega)
      · obtain ⟨gs, l1, h1, h⟩ := PR.then_ok h
        injection h with e1 e2
        subst e1
        obtain ⟨k1, k2⟩ := recL_flds (kindL_ty d) (kindL_tail s t f d) noF (by simp; omega) h1
        exact isTy_mk noS (by simp) (by simp) (by simp) k1 (by simp at k2; omega) (by omega) (by omega) (by omega)
    · cases h

/-! ### Values as data -/

/-- A value's data: names s, values t. -/
inductive IsVal (s t : TypeId) : E → Prop
  | mk (k n : Int) (x : List UInt8) (ns vs : List E) (hx : x.length ≤ maxLen) (hn : ∀ o ∈ ns, ∃ n, o = .str n ∧ n.length ≤ maxLen) (hnl : ns.length ≤ maxLen) (hv : ∀ y ∈ vs, IsVal s t y) (hvl : vs.length ≤ maxLen)
      (hk : -9223372036854775808 ≤ k ∧ k ≤ 9223372036854775807) (hnum : -9223372036854775808 ≤ n ∧ n ≤ 9223372036854775807) : IsVal s t (.agg [.int .i64 k, .int .i64 n, .str x, .sl s ns, .sl t vs])

theorem len_flatMap_esc : ∀ x : List UInt8, x.length ≤ (x.flatMap escS).length
  | [] => by simp
  | c :: x => by
    have := len_flatMap_esc x
    have h1 : 1 ≤ (escS c).length := by unfold escS; split; simp; split <;> simp
    simp only [List.flatMap_cons, List.length_append, List.length_cons]
    omega
theorem lens_mem {xs : List (List UInt8)} {x : List UInt8} (h : x ∈ xs) : x.length ≤ Lib.lens xs := by
  induction xs with
  | nil => cases h
  | cons y xs ih =>
    have e : Lib.lens (y :: xs) = y.length + Lib.lens xs := by simp [Lib.lens]
    rcases List.mem_cons.1 h with rfl | h
    · omega
    · have := ih h; omega
theorem join_len {xs : List (List UInt8)} {c : UInt8} : xs.length ≤ (Lib.join xs [c]).length + 1 ∧ ∀ x ∈ xs, x.length ≤ (Lib.join xs [c]).length := by
  cases xs with
  | nil => simp
  | cons y xs =>
    have e := Lib.join_length y xs [c]
    simp only [List.length_cons, List.length_nil, Nat.zero_add, Nat.one_mul] at e ⊢
    exact ⟨by omega, fun x hx => by have := lens_mem hx; omega⟩

theorem FulV.val : ∀ {d : Nat} {v : E}, FulV s t d v → (writS d v).length ≤ 100000 → IsVal s t v
  | 0, _, h, _ => by cases h
  | d + 1, v, h, hl => by
    rcases h with ⟨n, rfl, h1, h2⟩ | ⟨x, rfl⟩ | rfl | rfl | ⟨vs, rfl, hv⟩ | ⟨ns, vs, rfl, hlen, ha, hn, hv⟩
    · exact .mk 1 n [] [] [] (by simp) (by simp) (by simp) (by simp) (by simp) (by omega) (by omega)
    · have e : writS (d + 1) (mkV s t 2 0 x [] []) = 34 :: (x.flatMap escS ++ [34]) := rfl
      rw [e] at hl
      have := len_flatMap_esc x
      simp only [List.length_cons, List.length_append, List.length_nil] at hl
      exact .mk 2 0 x [] [] (by rw [maxLen_eq]; omega) (by simp) (by simp) (by simp) (by simp) (by omega) (by omega)
    · exact .mk 3 0 [] [] [] (by simp) (by simp) (by simp) (by simp) (by simp) (by omega) (by omega)
    · exact .mk 3 1 [] [] [] (by simp) (by simp) (by simp) (by simp) (by simp) (by omega) (by omega)
    · have e : writS (d + 1) (mkV s t 5 0 [] [] vs) = [91] ++ Lib.join (vs.map (writS d)) [44] ++ [93] := rfl
      rw [e] at hl
      obtain ⟨j1, j2⟩ := join_len (xs := vs.map (writS d)) (c := 44)
      simp only [List.length_append, List.length_cons, List.length_nil, List.length_map] at hl j1
      exact .mk 5 0 [] [] vs (by simp) (by simp) (by simp) (fun y hy => (hv y hy).val (by have := j2 _ (List.mem_map_of_mem hy); omega)) (by rw [maxLen_eq]; omega) (by omega) (by omega)
    · have e : writS (d + 1) (mkV s t 6 0 [] ns vs) = [123] ++ Lib.join (List.zipWith (entT (writS d)) ns vs) [44] ++ [125] := rfl
      rw [e] at hl
      obtain ⟨j1, j2⟩ := join_len (xs := List.zipWith (entT (writS d)) ns vs) (c := 44)
      simp only [List.length_append, List.length_cons, List.length_nil, List.length_zipWith] at hl j1
      refine .mk 6 0 [] ns vs (by simp) (fun o ho => let ⟨n, e, _, l⟩ := hn o ho; ⟨n, e, by rw [maxLen_eq]; omega⟩) (by rw [maxLen_eq]; omega) (fun y hy => (hv y hy).val ?_) (by rw [maxLen_eq]; omega) (by omega) (by omega)
      obtain ⟨i, hi, rfl⟩ := List.getElem_of_mem hy
      have hj : i < (List.zipWith (entT (writS d)) ns vs).length := by rw [List.length_zipWith]; omega
      have hm : (List.zipWith (entT (writS d)) ns vs)[i] ∈ List.zipWith (entT (writS d)) ns vs := List.getElem_mem hj
      have := j2 _ hm
      rw [List.getElem_zipWith] at this
      have e3 : (entT (writS d) ns[i] vs[i]).length = (nmE ns[i]).length + 1 + (writS d vs[i]).length := by unfold entT; simp [List.length_append]; omega
      omega
end
end Go.Den

