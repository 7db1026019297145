/- Dn8: texts Zm01 .. Zm01 in one. -/
import Derived.Test.YtapndkailgcboaaGreatDoorDn7
/- What names, topics, keys, properties, messages and requests are: plain definitions. -/
namespace Go.Den.Zm
open Go

abbrev S8 := List UInt8
def lowB (c : UInt8) : Bool := bif decide (97 ≤ (c.toNat : Int)) then decide ((c.toNat : Int) ≤ 122) else false
def digB (c : UInt8) : Bool := bif decide (48 ≤ (c.toNat : Int)) then decide ((c.toNat : Int) ≤ 57) else false
def nameC (c : UInt8) : Bool := lowB c || digB c || decide (c = 45)
def len16 (s : S8) : Bool := !(bif decide ((s.length : Int) < 1) then true else decide (16 < (s.length : Int)))
def len64 (s : S8) : Bool := !(bif decide ((s.length : Int) < 1) then true else decide (64 < (s.length : Int)))
/-- Is a text a name? -/
def nameS (s : S8) : Bool := len16 s && lowB (s.getD 0 0) && s.all nameC
def keyS (s : S8) : Bool := len16 s && s.all nameC
def hasB (c : UInt8) (s : S8) : Bool := !s.all (fun b => !decide (b = c))
def sizedS (s : S8) : Bool := len64 s && !hasB 0 s && decide ((((splitAt 47 s).length : Nat) : Int) ≤ 8)
def validS (s : S8) : Bool := sizedS s && !hasB 43 s && !hasB 35 s
def optS (s : S8) : Bool := bif strEq s [] == false then nameS s else true
def rng (n m : Int) : Bool := bif decide (0 ≤ n) then decide (n ≤ m) else false
def btw (n l h : Int) : Bool := bif decide (l ≤ n) then decide (n ≤ h) else false
def keyE (s : S8) : Int := bif decide (64 < (s.length : Int)) then 5 else bif hasB 0 s then 12 else 0
def pK (x : E) : S8 := (x.cell 0).toStr
def pV (x : E) : S8 := (x.cell 1).toStr
/-- What is wrong with the property of a number. -/
def propE (l : List E) (i : Nat) : Option Int :=
  bif !keyS (pK (l.getD i .nili)) then some 16 else bif decide (160 < ((pV (l.getD i .nili)).length : Int)) then some 5
  else bif decide (0 < (i : Int)) then (bif Op.bytesLess (pK (l.getD i .nili)) (pK (l.getD (i - 1) .nili)) || strEq (pK (l.getD i .nili)) (pK (l.getD (i - 1) .nili)) then some 16 else none) else none
def propsE (l : List E) : Int := bif decide (8 < (l.length : Int)) then 5 else (firstFrom (propE l) l.length 0).getD 0
def eqP (x y : E) : Bool := strEq (pK x) (pK y) && (strEq (pV x) (pV y) && true)
def eqProps (a b : List E) : Bool := (a.length : Int) == (b.length : Int) && allFrom (fun i => eqP (a.getD i .nili) (b.getD i .nili)) a.length 0

structure Msg where
  topic : S8
  payload : S8
  level : Int
  retain : Bool
  prio : Int
  expires : Int
  sender : S8
  seq : Int
  props : List E
def Msg.zero : Msg := ⟨[], [], 0, false, 0, 0, [], 0, []⟩
def msgE (m : Msg) : Int :=
  bif !validS m.topic then 12 else bif decide (256 < (m.payload.length : Int)) then 5 else bif !rng m.level 2 then 14 else bif !rng m.prio 9 then 1 else bif !rng m.expires 1099511627776 then 1
  else bif !optS m.sender then 11 else bif !rng m.seq 1099511627776 then 1 else propsE m.props
def sameM (a b : Msg) : Bool :=
  strEq a.topic b.topic && strEq a.payload b.payload && (a.level == b.level) && (a.retain == b.retain) && (a.prio == b.prio) && (a.expires == b.expires) && strEq a.sender b.sender && (a.seq == b.seq) && eqProps a.props b.props

structure Exch where
  name : S8
  kind : Int
  alt : S8
structure Spc where
  name : S8
  max : Int
  ttl : Int
  att : Int
  dead : S8
structure Bnd where
  exch : S8
  queue : S8
  key : S8
  all : Bool
  mtch : List E
structure Req where
  kind : Int
  conn : Int
  serial : Int
  tag : Int
  limit : Int
  flag : Bool
  name : S8
  key : S8
  ex : Exch
  sp : Spc
  bd : Bnd
  msg : Msg
def Exch.zero : Exch := ⟨[], 0, []⟩
def Spc.zero : Spc := ⟨[], 0, 0, 0, []⟩
def Bnd.zero : Bnd := ⟨[], [], [], false, []⟩
def Req.zero : Req := ⟨0, 0, 0, 0, 0, false, [], [], .zero, .zero, .zero, .zero⟩

def exE (x : Exch) : Int := bif !nameS x.name then 11 else bif !btw x.kind 1 4 then 10 else bif !optS x.alt then 11 else 0
def spE (s : Spc) : Int := bif !nameS s.name then 11 else bif !btw s.max 1 256 then 1 else bif !rng s.ttl 1099511627776 then 1 else bif !rng s.att 1099511627776 then 1 else bif !optS s.dead then 11 else 0
def bdE (b : Bnd) : Int := bif !nameS b.exch then 11 else bif !nameS b.queue then 11 else bif !keyE b.key == 0 then keyE b.key else propsE b.mtch
def pubE (r : Req) : Int := bif !optS r.name then 11 else bif !keyE r.key == 0 then keyE r.key else msgE r.msg
def nmE (r : Req) : Int := bif !nameS r.name then 11 else 0
/-- What is wrong with the fields that a request uses. -/
def inE (r : Req) : Int :=
  bif r.kind == 1 then exE r.ex else bif r.kind == 2 then spE r.sp else bif (bif r.kind == 3 then true else r.kind == 4) then bdE r.bd else bif r.kind == 5 then pubE r
  else bif (bif r.kind == 6 then true else decide (13 ≤ r.kind)) then nmE r else 0
/-- A request with the fields that its kind uses alone. -/
def usedR (r : Req) : Req :=
  { kind := r.kind, conn := r.conn, serial := r.serial
    tag := bif decide (6 ≤ r.kind) && decide (r.kind ≤ 9) then r.tag else 0
    limit := bif r.kind == 6 then r.limit else 0
    flag := bif r.kind == 8 || r.kind == 9 then r.flag else false
    name := bif r.kind == 5 || r.kind == 6 || decide (13 ≤ r.kind) then r.name else []
    key := bif r.kind == 5 then r.key else []
    ex := bif r.kind == 1 then r.ex else .zero
    sp := bif r.kind == 2 then r.sp else .zero
    bd := bif r.kind == 3 || r.kind == 4 then r.bd else .zero
    msg := bif r.kind == 5 then r.msg else .zero }
def sameX (a b : Exch) : Bool := strEq a.name b.name && (a.kind == b.kind && (strEq a.alt b.alt && true))
def sameS (a b : Spc) : Bool := strEq a.name b.name && (a.max == b.max && (a.ttl == b.ttl && (a.att == b.att && (strEq a.dead b.dead && true))))
def sameB (a b : Bnd) : Bool := strEq a.exch b.exch && strEq a.queue b.queue && strEq a.key b.key && (a.all == b.all) && eqProps a.mtch b.mtch
def sameR (a b : Req) : Bool :=
  (a.kind == b.kind) && (a.conn == b.conn) && (a.serial == b.serial) && (a.tag == b.tag) && (a.limit == b.limit) && (a.flag == b.flag) && strEq a.name b.name && strEq a.key b.key &&
    sameX a.ex b.ex && sameS a.sp b.sp && sameB a.bd b.bd && sameM a.msg b.msg
def numsE (r : Req) : Bool := rng r.conn 1099511627776 && rng r.serial 1099511627776 && rng r.tag 1099511627776 && rng r.limit 1099511627776
def checkE (r : Req) : Int := bif !btw r.kind 1 15 then 10 else bif !numsE r then 1 else bif !inE r == 0 then inE r else bif !sameR r (usedR r) then 28 else 0

/-! ### Simple facts -/

theorem split_len (c : UInt8) : ∀ s : S8, (splitAt c s).length = s.countP (fun b => decide (b = c)) + 1 := by
  intro s
  induction s with
  | nil => rfl
  | cons x s ih =>
    unfold splitAt
    by_cases h : x = c
    · rw [if_pos h, List.length_cons, ih, List.countP_cons, if_pos (by simpa using h)]
    · rw [if_neg h, List.countP_cons, if_neg (by simpa using h)]
      cases hs : splitAt c s with
      | nil => rw [hs] at ih; simp at ih
      | cons y l => rw [hs] at ih; simpa using ih
theorem has_iff {c : UInt8} {s : S8} : hasB c s = true ↔ c ∈ s := by
  unfold hasB
  rw [Bool.not_eq_true', List.all_eq_false]
  constructor
  · rintro ⟨x, hx, h⟩
    have : x = c := by simpa using h
    rwa [← this]
  · intro h; exact ⟨c, h, by simp⟩
theorem split_none {c : UInt8} : ∀ {s : S8}, c ∉ s → splitAt c s = [s] := by
  intro s
  induction s with
  | nil => intro _; rfl
  | cons x s ih =>
    intro h
    rw [List.mem_cons, not_or] at h
    unfold splitAt
    rw [if_neg (fun e => h.1 e.symm), ih h.2]
theorem split_cons {c : UInt8} : ∀ {a s : S8}, c ∉ a → splitAt c (a ++ c :: s) = a :: splitAt c s := by
  intro a
  induction a with
  | nil => intro s _; show splitAt c (c :: s) = _; rw [splitAt, if_pos rfl]
  | cons x a ih =>
    intro s h
    rw [List.mem_cons, not_or] at h
    show splitAt c (x :: (a ++ c :: s)) = _
    rw [splitAt, if_neg (fun e => h.1 e.symm), ih h.2]
theorem eqP_refl (x : E) : eqP x x = true := by unfold eqP; rw [strEq_dec, strEq_dec]; simp
theorem eqProps_refl (a : List E) : eqProps a a = true := by
  unfold eqProps
  rw [show ((a.length : Int) == (a.length : Int)) = true by simp, Bool.true_and, allFrom_iff]
  intro j _ _
  exact eqP_refl _
theorem eqProps_nil (a : List E) : eqProps a [] = true ↔ a = [] := by
  constructor
  · intro h
    unfold eqProps at h
    rw [Bool.and_eq_true] at h
    have := eq_of_beq h.1
    simp at this
    exact this
  · rintro rfl; rfl
theorem rng_iff {n m : Int} : rng n m = true ↔ 0 ≤ n ∧ n ≤ m := by
  unfold rng
  by_cases h : 0 ≤ n
  · rw [dec_yes h]; simp [h]
  · rw [dec_no h]; simp [h]
theorem btw_iff {n l m : Int} : btw n l m = true ↔ l ≤ n ∧ n ≤ m := by
  unfold btw
  by_cases h : l ≤ n
  · rw [dec_yes h]; simp [h]
  · rw [dec_no h]; simp [h]
theorem not_rng (n m : Int) : (bif decide (n < 0) then true else decide (m < n)) = !rng n m := by
  unfold rng
  by_cases h : 0 ≤ n
  · rw [dec_yes h, dec_no (by omega)]
    by_cases k : n ≤ m
    · rw [dec_yes k, dec_no (by omega)]; rfl
    · rw [dec_no k, dec_yes (by omega)]; rfl
  · rw [dec_no h, dec_yes (by omega)]; rfl
theorem not_btw (n l m : Int) : (bif decide (n < l) then true else decide (m < n)) = !btw n l m := by
  unfold btw
  by_cases h : l ≤ n
  · rw [dec_yes h, dec_no (by omega)]
    by_cases k : n ≤ m
    · rw [dec_yes k, dec_no (by omega)]; rfl
    · rw [dec_no k, dec_yes (by omega)]; rfl
  · rw [dec_no h, dec_yes (by omega)]; rfl

end Go.Den.Zm

