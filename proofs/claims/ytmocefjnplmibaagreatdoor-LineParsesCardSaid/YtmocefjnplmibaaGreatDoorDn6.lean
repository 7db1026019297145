/- Dn6: texts Zm01 .. Zm03 in one. -/
import Derived.Test.YtmocefjnplmibaaGreatDoorDn5
import Derived.Lib.ItoaLen
/- What names, topics, keys, properties, messages and requests are: plain definitions. -/
namespace Go.Den
open Go

abbrev S8 := List UInt8
def lowB (c : UInt8) : Bool := bif decide (97 ≤ (c.toNat : Int)) then decide ((c.toNat : Int) ≤ 122) else false
def digB (c : UInt8) : Bool := bif decide (48 ≤ (c.toNat : Int)) then decide ((c.toNat : Int) ≤ 57) else false
def nameC (c : UInt8) : Bool := lowB c || digB c || decide (c = 45)
def len16 (s : S8) : Bool := !(bif decide ((s.length : Int) < 1) then true else decide (16 < (s.length : Int)))
def len64 (s : S8) : Bool := !(bif decide ((s.length : Int) < 1) then true else decide (64 < (s.length : Int)))
/-- Is a text a name? -/
def nameS (s : S8) : Bool := len16 s && lowB (s.getD 0 0) && s.all nameC
def keyS (s : S8) : Bool := len16 s && s.all nameC
def hasB (c : UInt8) (s : S8) : Bool := !s.all (fun b => !decide (b = c))
def sizedS (s : S8) : Bool := len64 s && !hasB 0 s && decide ((((splitAt 47 s).length : Nat) : Int) ≤ 8)
def validS (s : S8) : Bool := sizedS s && !hasB 43 s && !hasB 35 s
def optS (s : S8) : Bool := bif strEq s [] == false then nameS s else true
def rng (n m : Int) : Bool := bif decide (0 ≤ n) then decide (n ≤ m) else false
def btw (n l h : Int) : Bool := bif decide (l ≤ n) then decide (n ≤ h) else false
def keyE (s : S8) : Int := bif decide (64 < (s.length : Int)) then 5 else bif hasB 0 s then 12 else 0
def pK (x : E) : S8 := (x.cell 0).toStr
def pV (x : E) : S8 := (x.cell 1).toStr
/-- What is wrong with the property of a number. -/
def propE (l : List E) (i : Nat) : Option Int :=
  bif !keyS (pK (l.getD i .nili)) then some 16 else bif decide (160 < ((pV (l.getD i .nili)).length : Int)) then some 5
  else bif decide (0 < (i : Int)) then (bif Op.bytesLess (pK (l.getD i .nili)) (pK (l.getD (i - 1) .nili)) || strEq (pK (l.getD i .nili)) (pK (l.getD (i - 1) .nili)) then some 16 else none) else none
def propsE (l : List E) : Int := bif decide (8 < (l.length : Int)) then 5 else (firstFrom (propE l) l.length 0).getD 0
def eqP (x y : E) : Bool := strEq (pK x) (pK y) && (strEq (pV x) (pV y) && true)
def eqProps (a b : List E) : Bool := (a.length : Int) == (b.length : Int) && allFrom (fun i => eqP (a.getD i .nili) (b.getD i .nili)) a.length 0

structure Msg where
  topic : S8
  payload : S8
  level : Int
  retain : Bool
  prio : Int
  expires : Int
  sender : S8
  seq : Int
  props : List E
def Msg.zero : Msg := ⟨[], [], 0, false, 0, 0, [], 0, []⟩
def msgE (m : Msg) : Int :=
  bif !validS m.topic then 12 else bif decide (256 < (m.payload.length : Int)) then 5 else bif !rng m.level 2 then 14 else bif !rng m.prio 9 then 1 else bif !rng m.expires 1099511627776 then 1
  else bif !optS m.sender then 11 else bif !rng m.seq 1099511627776 then 1 else propsE m.props
def sameM (a b : Msg) : Bool :=
  strEq a.topic b.topic && strEq a.payload b.payload && (a.level == b.level) && (a.retain == b.retain) && (a.prio == b.prio) && (a.expires == b.expires) && strEq a.sender b.sender && (a.seq == b.seq) && eqProps a.props b.props

structure Exch where
  name : S8
  kind : Int
  alt : S8
structure Spc where
  name : S8
  max : Int
  ttl : Int
  att : Int
  dead : S8
structure Bnd where
  exch : S8
  queue : S8
  key : S8
  all : Bool
  mtch : List E
structure Req where
  kind : Int
  conn : Int
  serial : Int
  tag : Int
  limit : Int
  flag : Bool
  name : S8
  key : S8
  ex : Exch
  sp : Spc
  bd : Bnd
  msg : Msg
def Exch.zero : Exch := ⟨[], 0, []⟩
def Spc.zero : Spc := ⟨[], 0, 0, 0, []⟩
def Bnd.zero : Bnd := ⟨[], [], [], false, []⟩
def Req.zero : Req := ⟨0, 0, 0, 0, 0, false, [], [], .zero, .zero, .zero, .zero⟩

def exE (x : Exch) : Int := bif !nameS x.name then 11 else bif !btw x.kind 1 4 then 10 else bif !optS x.alt then 11 else 0
def spE (s : Spc) : Int := bif !nameS s.name then 11 else bif !btw s.max 1 256 then 1 else bif !rng s.ttl 1099511627776 then 1 else bif !rng s.att 1099511627776 then 1 else bif !optS s.dead then 11 else 0
def bdE (b : Bnd) : Int := bif !nameS b.exch then 11 else bif !nameS b.queue then 11 else bif !keyE b.key == 0 then keyE b.key else propsE b.mtch
def pubE (r : Req) : Int := bif !optS r.name then 11 else bif !keyE r.key == 0 then keyE r.key else msgE r.msg
def nmE (r : Req) : Int := bif !nameS r.name then 11 else 0
/-- What is wrong with the fields that a request uses. -/
def inE (r : Req) : Int :=
  bif r.kind == 1 then exE r.ex else bif r.kind == 2 then spE r.sp else bif (bif r.kind == 3 then true else r.kind == 4) then bdE r.bd else bif r.kind == 5 then pubE r
  else bif (bif r.kind == 6 then true else decide (13 ≤ r.kind)) then nmE r else 0
/-- A request with the fields that its kind uses alone. -/
def usedR (r : Req) : Req :=
  { kind := r.kind, conn := r.conn, serial := r.serial
    tag := bif decide (6 ≤ r.kind) && decide (r.kind ≤ 9) then r.tag else 0
    limit := bif r.kind == 6 then r.limit else 0
    flag := bif r.kind == 8 || r.kind == 9 then r.flag else false
    name := bif r.kind == 5 || r.kind == 6 || decide (13 ≤ r.kind) then r.name else []
    key := bif r.kind == 5 then r.key else []
    ex := bif r.kind == 1 then r.ex else .zero
    sp := bif r.kind == 2 then r.sp else .zero
    bd := bif r.kind == 3 || r.kind == 4 then r.bd else .zero
    msg := bif r.kind == 5 then r.msg else .zero }
def sameX (a b : Exch) : Bool := strEq a.name b.name && (a.kind == b.kind && (strEq a.alt b.alt && true))
def sameS (a b : Spc) : Bool := strEq a.name b.name && (a.max == b.max && (a.ttl == b.ttl && (a.att == b.att && (strEq a.dead b.dead && true))))
def sameB (a b : Bnd) : Bool := strEq a.exch b.exch && strEq a.queue b.queue && strEq a.key b.key && (a.all == b.all) && eqProps a.mtch b.mtch
def sameR (a b : Req) : Bool :=
  (a.kind == b.kind) && (a.conn == b.conn) && (a.serial == b.serial) && (a.tag == b.tag) && (a.limit == b.limit) && (a.flag == b.flag) && strEq a.name b.name && strEq a.key b.key &&
    sameX a.ex b.ex && sameS a.sp b.sp && sameB a.bd b.bd && sameM a.msg b.msg
def numsE (r : Req) : Bool := rng r.conn 1099511627776 && rng r.serial 1099511627776 && rng r.tag 1099511627776 && rng r.limit 1099511627776
def checkE (r : Req) : Int := bif !btw r.kind 1 15 then 10 else bif !numsE r then 1 else bif !inE r == 0 then inE r else bif !sameR r (usedR r) then 28 else 0

/-! ### Simple facts -/

theorem split_len (c : UInt8) : ∀ s : S8, (splitAt c s).length = s.countP (fun b => decide (b = c)) + 1 := by
  intro s
  induction s with
  | nil => rfl
  | cons x s ih =>
    unfold splitAt
    by_cases h : x = c
    · rw [if_pos h, List.length_cons, ih, List.countP_cons, if_pos (by simpa using h)]
    · rw [if_neg h, List.countP_cons, if_neg (by simpa using h)]
      cases hs : splitAt c s with
      | nil => rw [hs] at ih; simp at ih
      | cons y l => rw [hs] at ih; simpa using ih
theorem has_iff {c : UInt8} {s : S8} : hasB c s = true ↔ c ∈ s := by
  unfold hasB
  rw [Bool.not_eq_true', List.all_eq_false]
  constructor
  · rintro ⟨x, hx, h⟩
    have : x = c := by simpa using h
    rwa [← this]
  · intro h; exact ⟨c, h, by simp⟩
theorem split_none {c : UInt8} : ∀ {s : S8}, c ∉ s → splitAt c s = [s] := by
  intro s
  induction s with
  | nil => intro _; rfl
  | cons x s ih =>
    intro h
    rw [List.mem_cons, not_or] at h
    unfold splitAt
    rw [if_neg (fun e => h.1 e.symm), ih h.2]
theorem split_cons {c : UInt8} : ∀ {a s : S8}, c ∉ a → splitAt c (a ++ c :: s) = a :: splitAt c s := by
  intro a
  induction a with
  | nil => intro s _; show splitAt c (c :: s) = _; rw [splitAt, if_pos rfl]
  | cons x a ih =>
    intro s h
    rw [List.mem_cons, not_or] at h
    show splitAt c (x :: (a ++ c :: s)) = _
    rw [splitAt, if_neg (fun e => h.1 e.symm), ih h.2]
theorem eqP_refl (x : E) : eqP x x = true := by unfold eqP; rw [strEq_dec, strEq_dec]; simp
theorem eqProps_refl (a : List E) : eqProps a a = true := by
  unfold eqProps
  rw [show ((a.length : Int) == (a.length : Int)) = true by simp, Bool.true_and, allFrom_iff]
  intro j _ _
  exact eqP_refl _
theorem eqProps_nil (a : List E) : eqProps a [] = true ↔ a = [] := by
  constructor
  · intro h
    unfold eqProps at h
    rw [Bool.and_eq_true] at h
    have := eq_of_beq h.1
    simp at this
    exact this
  · rintro rfl; rfl
theorem rng_iff {n m : Int} : rng n m = true ↔ 0 ≤ n ∧ n ≤ m := by
  unfold rng
  by_cases h : 0 ≤ n
  · rw [dec_yes h]; simp [h]
  · rw [dec_no h]; simp [h]
theorem btw_iff {n l m : Int} : btw n l m = true ↔ l ≤ n ∧ n ≤ m := by
  unfold btw
  by_cases h : l ≤ n
  · rw [dec_yes h]; simp [h]
  · rw [dec_no h]; simp [h]
theorem not_rng (n m : Int) : (bif decide (n < 0) then true else decide (m < n)) = !rng n m := by
  unfold rng
  by_cases h : 0 ≤ n
  · rw [dec_yes h, dec_no (by omega)]
    by_cases k : n ≤ m
    · rw [dec_yes k, dec_no (by omega)]; rfl
    · rw [dec_no k, dec_yes (by omega)]; rfl
  · rw [dec_no h, dec_yes (by omega)]; rfl
theorem not_btw (n l m : Int) : (bif decide (n < l) then true else decide (m < n)) = !btw n l m := by
  unfold btw
  by_cases h : l ≤ n
  · rw [dec_yes h, dec_no (by omega)]
    by_cases k : n ≤ m
    · rw [dec_yes k, dec_no (by omega)]; rfl
    · rw [dec_no k, dec_yes (by omega)]; rfl
  · rw [dec_no h, dec_yes (by omega)]; rfl

end Go.Den

/- What a request that is valid in its form is like. -/
namespace Go.Den
open Go

theorem len16_le {s : S8} (h : len16 s = true) : 1 ≤ s.length ∧ s.length ≤ 16 := by
  unfold len16 at h
  by_cases k : (s.length : Int) < 1
  · rw [dec_yes k] at h; cases h
  · rw [dec_no k] at h
    by_cases k' : (16 : Int) < s.length
    · rw [dec_yes k'] at h; cases h
    · omega
theorem name_iff {s : S8} (h : nameS s = true) : 1 ≤ s.length ∧ s.length ≤ 16 ∧ s.all nameC = true := by
  unfold nameS at h
  rw [Bool.and_eq_true, Bool.and_eq_true] at h
  obtain ⟨⟨h1, _⟩, h2⟩ := h
  exact ⟨(len16_le h1).1, (len16_le h1).2, h2⟩
theorem optS_iff {s : S8} (h : optS s = true) : s = [] ∨ nameS s = true := by
  unfold optS at h
  rw [strEq_dec] at h
  by_cases k : s = []
  · exact .inl k
  · rw [dec_no k] at h; exact .inr h
theorem optS_len {s : S8} (h : optS s = true) : s.length ≤ 16 := by
  rcases optS_iff h with rfl | h
  · decide
  · exact (name_iff h).2.1
theorem key_ok {s : S8} (h : keyE s = 0) : s.length ≤ 64 ∧ hasB 0 s = false := by
  unfold keyE at h
  by_cases k : (64 : Int) < s.length
  · rw [dec_yes k] at h; cases h
  · rw [dec_no k] at h
    refine ⟨by omega, ?_⟩
    cases hb : hasB 0 s with
    | false => rfl
    | true => rw [hb] at h; cases h
theorem firstFrom_zero {e : Nat → Option Int} (he : ∀ i x, e i = some x → x ≠ 0) : ∀ {k i : Nat}, (firstFrom e k i).getD 0 = 0 → firstFrom e k i = none := by
  intro k
  induction k with
  | zero => intro i _; rfl
  | succ k ih =>
    intro i h
    unfold firstFrom at h ⊢
    cases hx : e i with
    | some x => rw [hx] at h; exact absurd h (he i x hx)
    | none => rw [hx] at h; exact ih h
theorem propE_ne {l : List E} (i : Nat) (x : Int) (h : propE l i = some x) : x ≠ 0 := by
  unfold propE at h
  revert h
  cases keyS (pK (l.getD i .nili)) with
  | false => intro h; injection h with h; omega
  | true =>
  cases decide (160 < ((pV (l.getD i .nili)).length : Int)) with
  | true => intro h; injection h with h; omega
  | false =>
  cases decide (0 < (i : Int)) with
  | false => intro h; cases h
  | true =>
  cases (Op.bytesLess (pK (l.getD i .nili)) (pK (l.getD (i - 1) .nili)) || strEq (pK (l.getD i .nili)) (pK (l.getD (i - 1) .nili))) with
  | true => intro h; injection h with h; omega
  | false => intro h; cases h
theorem props_ok {l : List E} (h : propsE l = 0) : l.length ≤ 8 ∧ ∀ i, i < l.length → keyS (pK (l.getD i .nili)) = true ∧ (pV (l.getD i .nili)).length ≤ 160 := by
  unfold propsE at h
  by_cases k : (8 : Int) < l.length
  · rw [dec_yes k] at h; cases h
  · rw [dec_no k] at h
    refine ⟨by omega, fun i hi => ?_⟩
    have h1 := firstFrom_none (firstFrom_zero propE_ne h) i (Nat.zero_le _) (by omega)
    unfold propE at h1
    cases hk : keyS (pK (l.getD i .nili)) with
    | false => rw [hk] at h1; cases h1
    | true =>
      refine ⟨rfl, ?_⟩
      by_cases hv : (160 : Int) < (pV (l.getD i .nili)).length
      · rw [hk, dec_yes hv] at h1; cases h1
      · omega
theorem keyS_iff {s : S8} (h : keyS s = true) : 1 ≤ s.length ∧ s.length ≤ 16 ∧ s.all nameC = true := by
  unfold keyS at h
  rw [Bool.and_eq_true] at h
  exact ⟨(len16_le h.1).1, (len16_le h.1).2, h.2⟩
theorem valid_iff {s : S8} (h : validS s = true) : s.length ≤ 64 := by
  unfold validS sizedS at h
  simp only [Bool.and_eq_true] at h
  have h1 := h.1.1.1.1
  unfold len64 at h1
  by_cases k : (s.length : Int) < 1
  · omega
  · rw [dec_no k] at h1
    by_cases k' : (64 : Int) < s.length
    · rw [dec_yes k'] at h1; cases h1
    · omega
structure MsgFine (m : Msg) : Prop where
  topic : validS m.topic = true
  payload : m.payload.length ≤ 256
  level : rng m.level 2 = true
  prio : rng m.prio 9 = true
  expires : rng m.expires 1099511627776 = true
  sender : optS m.sender = true
  seq : rng m.seq 1099511627776 = true
  props : propsE m.props = 0
theorem msg_ok {m : Msg} (h : msgE m = 0) : MsgFine m := by
  unfold msgE at h
  cases h1 : validS m.topic with
  | false => rw [h1] at h; cases h
  | true =>
  by_cases h2 : (256 : Int) < m.payload.length
  · rw [h1, dec_yes h2] at h; cases h
  cases h3 : rng m.level 2 with
  | false => rw [h1, dec_no h2, h3] at h; cases h
  | true =>
  cases h4 : rng m.prio 9 with
  | false => rw [h1, dec_no h2, h3, h4] at h; cases h
  | true =>
  cases h5 : rng m.expires 1099511627776 with
  | false => rw [h1, dec_no h2, h3, h4, h5] at h; cases h
  | true =>
  cases h6 : optS m.sender with
  | false => rw [h1, dec_no h2, h3, h4, h5, h6] at h; cases h
  | true =>
  cases h7 : rng m.seq 1099511627776 with
  | false => rw [h1, dec_no h2, h3, h4, h5, h6, h7] at h; cases h
  | true =>
  rw [h1, dec_no h2, h3, h4, h5, h6, h7] at h
  exact ⟨h1, by omega, h3, h4, h5, h6, h7, h⟩
theorem ex_ok {x : Exch} (h : exE x = 0) : nameS x.name = true ∧ btw x.kind 1 4 = true ∧ optS x.alt = true := by
  unfold exE at h
  cases h1 : nameS x.name <;> cases h2 : btw x.kind 1 4 <;> cases h3 : optS x.alt <;> rw [h1, h2, h3] at h <;> first | (cases h; done) | exact ⟨rfl, rfl, rfl⟩
theorem sp_ok {x : Spc} (h : spE x = 0) : nameS x.name = true ∧ btw x.max 1 256 = true ∧ rng x.ttl 1099511627776 = true ∧ rng x.att 1099511627776 = true ∧ optS x.dead = true := by
  unfold spE at h
  cases h1 : nameS x.name <;> cases h2 : btw x.max 1 256 <;> cases h3 : rng x.ttl 1099511627776 <;> cases h4 : rng x.att 1099511627776 <;> cases h5 : optS x.dead <;> rw [h1, h2, h3, h4, h5] at h <;>
    first | (cases h; done) | exact ⟨rfl, rfl, rfl, rfl, rfl⟩
theorem bd_ok {x : Bnd} (h : bdE x = 0) : nameS x.exch = true ∧ nameS x.queue = true ∧ keyE x.key = 0 ∧ propsE x.mtch = 0 := by
  unfold bdE at h
  cases h1 : nameS x.exch with
  | false => rw [h1] at h; cases h
  | true =>
  cases h2 : nameS x.queue with
  | false => rw [h1, h2] at h; cases h
  | true =>
  cases h3 : keyE x.key == 0 with
  | false =>
    rw [h1, h2, h3] at h
    have h : keyE x.key = 0 := h
    rw [h] at h3; cases h3
  | true => rw [h1, h2, h3] at h; exact ⟨rfl, rfl, eq_of_beq h3, h⟩
theorem pub_ok {r : Req} (h : pubE r = 0) : optS r.name = true ∧ keyE r.key = 0 ∧ MsgFine r.msg := by
  unfold pubE at h
  cases h1 : optS r.name with
  | false => rw [h1] at h; cases h
  | true =>
  cases h3 : keyE r.key == 0 with
  | false =>
    rw [h1, h3] at h
    have h : keyE r.key = 0 := h
    rw [h] at h3; cases h3
  | true => rw [h1, h3] at h; exact ⟨rfl, eq_of_beq h3, msg_ok h⟩
theorem nm_ok {r : Req} (h : nmE r = 0) : nameS r.name = true := by
  unfold nmE at h
  cases h1 : nameS r.name with
  | false => rw [h1] at h; cases h
  | true => rfl
structure ReqFine (r : Req) : Prop where
  kind : btw r.kind 1 15 = true
  conn : rng r.conn 1099511627776 = true
  serial : rng r.serial 1099511627776 = true
  tag : rng r.tag 1099511627776 = true
  limit : rng r.limit 1099511627776 = true
  inner : inE r = 0
  same : sameR r (usedR r) = true
theorem check_ok {r : Req} (h : checkE r = 0) : ReqFine r := by
  unfold checkE at h
  cases h1 : btw r.kind 1 15 with
  | false => rw [h1] at h; cases h
  | true =>
  cases h2 : numsE r with
  | false => rw [h1, h2] at h; cases h
  | true =>
  cases h3 : inE r == 0 with
  | false =>
    rw [h1, h2, h3] at h
    have h : inE r = 0 := h
    rw [h] at h3; cases h3
  | true =>
  cases h4 : sameR r (usedR r) with
  | false => rw [h1, h2, h3, h4] at h; cases h
  | true =>
  unfold numsE at h2
  simp only [Bool.and_eq_true] at h2
  exact ⟨h1, h2.1.1.1, h2.1.1.2, h2.1.2, h2.2, eq_of_beq h3, h4⟩

end Go.Den

/- Numbers in decimal, read. -/
namespace Go.Den
open Go

def natFrom (a : Nat) (l : S8) : Nat := l.foldl (fun a c => a * 10 + (c.toNat - 48)) a
def minusB (s : S8) : Bool := decide (s.getD 0 0 = 45)
def magS (s : S8) : S8 := if s.getD 0 0 = 45 then s.drop 1 else s
/-- Has a text the form of a number? -/
def numC (s : S8) : Bool := !strEq (magS s) [] && !(decide ((magS s).getD 0 0 = 48) && !strEq s [48]) && (magS s).all digB
def numV (s : S8) : Int := if s.getD 0 0 = 45 then -(natFrom 0 (magS s) : Int) else (natFrom 0 (magS s) : Int)
def inI64 (n : Int) : Bool := decide (-9223372036854775808 ≤ n) && decide (n ≤ 9223372036854775807)
/-- A number, read: or the error. -/
def numR (s : S8) : Except Int Int := if numC s = true then (if inI64 (numV s) = true then .ok (numV s) else .error 1) else .error 2

theorem digB_iff {c : UInt8} : digB c = true ↔ 48 ≤ c.toNat ∧ c.toNat ≤ 57 := by
  unfold digB
  by_cases h : (48 : Int) ≤ c.toNat
  · rw [dec_yes h]
    show decide ((c.toNat : Int) ≤ 57) = true ↔ _
    rw [decide_eq_true_eq]; omega
  · rw [dec_no h]
    constructor
    · intro h; cases h
    · intro k; omega
theorem natFrom_cons (a : Nat) (c : UInt8) (l : S8) : natFrom a (c :: l) = natFrom (a * 10 + (c.toNat - 48)) l := by unfold natFrom; rw [List.foldl_cons]
theorem natFrom_snoc (a : Nat) (l : S8) (c : UInt8) : natFrom a (l ++ [c]) = natFrom a l * 10 + (c.toNat - 48) := by simp [natFrom]
theorem natFrom_ge : ∀ (l : S8) (a : Nat), a ≤ natFrom a l := by
  intro l
  induction l with
  | nil => intro a; exact Nat.le_refl _
  | cons c l ih => intro a; rw [natFrom_cons]; have := ih (a * 10 + (c.toNat - 48)); omega
theorem parse_step (a : Nat) (c : UInt8) (l : S8) (h1 : 48 ≤ c.toNat ∧ c.toNat ≤ 57) (x y : Lib.NumEnd Nat) (hx : x = .range) (hy : y = Lib.parseUint10 (a * 10 + (c.toNat - 48)) l) : Lib.parseUint10 a (c :: l) =
    if 1844674407370955162 ≤ a then x else if 18446744073709551616 ≤ a * 10 + (c.toNat - 48) then x else y := by
  subst hx; subst hy
  simp only [Lib.parseUint10]
  exact if_pos h1
theorem parse_digits : ∀ (l : S8) (a n : Nat), n = 18446744073709551616 → l.all digB = true → a < n → Lib.parseUint10 a l = if natFrom a l < n then .ok (natFrom a l) else .range := by
  intro l
  induction l with
  | nil => intro a n _ _ ha; rw [show natFrom a [] = a from rfl, if_pos ha, Lib.parseUint10]
  | cons c l ih =>
    intro a n hn h ha
    rw [List.all_cons, Bool.and_eq_true] at h
    have hc := digB_iff.1 h.1
    rw [parse_step a c l hc _ _ rfl rfl, natFrom_cons]
    have hg := natFrom_ge l (a * 10 + (c.toNat - 48))
    by_cases h1 : 1844674407370955162 ≤ a
    · rw [if_pos h1, if_neg (by omega)]
    · rw [if_neg h1]
      by_cases h2 : 18446744073709551616 ≤ a * 10 + (c.toNat - 48)
      · rw [if_pos h2, if_neg (by omega)]
      · rw [if_neg h2]
        exact ih _ n hn h.2 (by omega)
theorem natFrom_pos {l : S8} (hd : l.all digB = true) (h0 : l ≠ []) (h : l.getD 0 0 ≠ 48) : 1 ≤ natFrom 0 l := by
  cases l with
  | nil => exact absurd rfl h0
  | cons c l =>
    rw [List.all_cons, Bool.and_eq_true] at hd
    have hc := digB_iff.1 hd.1
    have hc' : c.toNat ≠ 48 := fun e => h (UInt8.toNat_inj.1 e)
    rw [natFrom_cons]
    have := natFrom_ge l (0 * 10 + (c.toNat - 48))
    omega
theorem dec_back : ∀ (n : Nat) (l : S8), l.length = n → l.all digB = true → l ≠ [] → (l.getD 0 0 ≠ 48 ∨ l = [48]) → Lib.decDigits (natFrom 0 l) = l := by
  intro n
  induction n with
  | zero => intro l hl _ h0; exact absurd (List.length_eq_zero_iff.1 hl) h0
  | succ n ih =>
    intro l hl hd h0 hz
    rcases List.eq_nil_or_concat l with e | ⟨m, c, e⟩
    · exact absurd e h0
    rw [List.concat_eq_append] at e
    subst e
    rw [List.all_append, Bool.and_eq_true] at hd
    have hc := digB_iff.1 (by simpa using hd.2)
    rw [natFrom_snoc]
    by_cases hm : m = []
    · subst hm
      show Lib.decDigits (0 * 10 + (c.toNat - 48)) = [c]
      rw [Lib.decDigits, dif_pos (by omega)]
      congr 1
      apply UInt8.toNat_inj.1
      simp; omega
    · have hm0 : m.getD 0 0 ≠ 48 := by
        rcases hz with hz | hz
        · cases m with
          | nil => exact absurd rfl hm
          | cons x m => exact hz
        · cases m with
          | nil => exact absurd rfl hm
          | cons x m => simp at hz
      have hp := natFrom_pos hd.1 hm hm0
      rw [Lib.decDigits, dif_neg (by omega)]
      have e1 : (natFrom 0 m * 10 + (c.toNat - 48)) / 10 = natFrom 0 m := by omega
      have e2 : (natFrom 0 m * 10 + (c.toNat - 48)) % 10 = c.toNat - 48 := by omega
      rw [e1, e2, ih m (by simp at hl; omega) hd.1 hm (.inl hm0)]
      congr 2
      apply UInt8.toNat_inj.1
      simp; omega
theorem dec_val : ∀ (u : Nat), natFrom 0 (Lib.decDigits u) = u ∧ (Lib.decDigits u).all digB = true ∧ Lib.decDigits u ≠ [] ∧ (u ≠ 0 → (Lib.decDigits u).getD 0 0 ≠ 48) := by
  intro u
  induction u using Nat.strongRecOn with
  | _ u ih =>
  by_cases h : u < 10
  · rw [Lib.decDigits, dif_pos h]
    have hn : (UInt8.ofNat (48 + u)).toNat = 48 + u := by simp; omega
    refine ⟨?_, ?_, by simp, fun hu => ?_⟩
    · show 0 * 10 + ((UInt8.ofNat (48 + u)).toNat - 48) = u
      rw [hn]; omega
    · show (digB _ && true) = true
      rw [digB_iff.2 (by rw [hn]; omega)]; rfl
    · intro e
      have : (UInt8.ofNat (48 + u)).toNat = 48 := by rw [show UInt8.ofNat (48 + u) = 48 from e]; rfl
      omega
  · obtain ⟨i1, i2, i3, i4⟩ := ih (u / 10) (by omega)
    rw [Lib.decDigits, dif_neg h]
    have hn : (UInt8.ofNat (48 + u % 10)).toNat = 48 + u % 10 := by simp; omega
    refine ⟨?_, ?_, by simp, fun _ => ?_⟩
    · rw [natFrom_snoc, i1, hn]; omega
    · rw [List.all_append, i2]
      show (digB _ && true) = true
      rw [digB_iff.2 (by rw [hn]; omega)]; rfl
    · have := i4 (by omega)
      cases hd : Lib.decDigits (u / 10) with
      | nil => exact absurd hd i3
      | cons x l => rw [hd] at this; exact this

theorem itoa_num (n : Int) : numC (Lib.itoa n) = true ∧ numV (Lib.itoa n) = n := by
  by_cases hn : n < 0
  · obtain ⟨u, rfl⟩ : ∃ u : Nat, n = -(u : Int) := ⟨n.natAbs, by omega⟩
    obtain ⟨i1, i2, i3, i4⟩ := dec_val u
    have i4 := i4 (by omega)
    rw [Lib.itoa_neg u (by omega)]
    have hm : magS (45 :: Lib.decDigits u) = Lib.decDigits u := rfl
    constructor
    · unfold numC
      rw [hm, i2, strEq_dec, dec_no i3, dec_no i4]; rfl
    · unfold numV
      rw [if_pos (show (45 :: Lib.decDigits u).getD 0 0 = 45 from rfl), hm, i1]
  · obtain ⟨u, rfl⟩ : ∃ u : Nat, n = u := ⟨n.toNat, by omega⟩
    obtain ⟨i1, i2, i3, i4⟩ := dec_val u
    rw [Lib.itoa_nonneg]
    have h45 : (Lib.decDigits u).getD 0 0 ≠ 45 := by
      cases hd : Lib.decDigits u with
      | nil => exact absurd hd i3
      | cons x l =>
        rw [hd, List.all_cons, Bool.and_eq_true] at i2
        have := digB_iff.1 i2.1
        intro e
        have e : x = 45 := e
        rw [e] at this
        exact absurd this.1 (by decide)
    have hm : magS (Lib.decDigits u) = Lib.decDigits u := if_neg h45
    constructor
    · unfold numC
      rw [hm, i2, strEq_dec, strEq_dec, dec_no i3]
      by_cases hu : u = 0
      · subst hu
        have : Lib.decDigits 0 = [48] := by rw [Lib.decDigits, dif_pos (by decide)]; rfl
        rw [this]; rfl
      · rw [dec_no (i4 hu)]; rfl
    · unfold numV
      rw [if_neg h45, hm, i1]
theorem num_itoa {s : S8} (h : numC s = true) : Lib.itoa (numV s) = s := by
  unfold numC at h
  rw [strEq_dec, strEq_dec, Bool.and_eq_true, Bool.and_eq_true] at h
  obtain ⟨⟨h1, h2⟩, h3⟩ := h
  have h1 : magS s ≠ [] := by intro e; rw [dec_yes e] at h1; cases h1
  have h2 : (magS s).getD 0 0 ≠ 48 ∨ s = [48] := by
    by_cases e : (magS s).getD 0 0 = 48
    · right
      by_cases k : s = [48]
      · exact k
      · rw [dec_yes e, dec_no k] at h2; cases h2
    · exact .inl e
  unfold numV
  by_cases hs : s.getD 0 0 = 45
  · have h48 : (magS s).getD 0 0 ≠ 48 := by
      rcases h2 with h2 | h2
      · exact h2
      · rw [h2] at hs; cases hs
    have hp := natFrom_pos h3 h1 h48
    rw [if_pos hs, Lib.itoa_neg _ hp, dec_back _ _ rfl h3 h1 (.inl h48)]
    unfold magS
    rw [if_pos hs]
    cases s with
    | nil => cases hs
    | cons c s => rw [show c = 45 from hs]; rfl
  · have hm : magS s = s := if_neg hs
    rw [hm] at h1 h2 h3 ⊢
    rw [if_neg hs, Lib.itoa_nonneg, dec_back _ _ rfl h3 h1 h2]

/-- strconv.Atoi on a text of that form. -/
theorem atoi_num {s : S8} (h : numC s = true) : atOk s = inI64 (numV s) ∧ (inI64 (numV s) = true → atVal s = numV s) := by
  unfold numC at h
  rw [strEq_dec, strEq_dec, Bool.and_eq_true, Bool.and_eq_true] at h
  obtain ⟨⟨h1, _⟩, h3⟩ := h
  have h1 : magS s ≠ [] := by intro e; rw [dec_yes e] at h1; cases h1
  have hp : Lib.parseMag (magS s) = if natFrom 0 (magS s) < 18446744073709551616 then .ok (natFrom 0 (magS s)) else .range := by
    unfold Lib.parseMag
    rw [if_neg h1, parse_digits _ _ _ rfl h3 (by decide)]
  cases s with
  | nil => exact absurd (show magS [] = [] from rfl) h1
  | cons c r =>
    unfold atOk atVal numV
    by_cases hs : c = 45
    · have hm : magS (c :: r) = r := by unfold magS; rw [if_pos (show (c :: r).getD 0 0 = 45 from hs)]; rfl
      rw [hm] at hp ⊢
      rw [if_pos (show (c :: r).getD 0 0 = 45 from hs)]
      unfold Lib.atoiAll
      simp only [hs, show (45 : UInt8).toNat = 45 from rfl, or_true, if_true, hp]
      generalize natFrom 0 r = u
      unfold inI64
      by_cases hu : u < 18446744073709551616
      · rw [if_pos hu]
        simp only [not_true, false_and, if_false, true_and]
        by_cases k : 9223372036854775808 < u
        · rw [if_pos k]
          simp only
          rw [dec_no (by omega)]; exact ⟨rfl, fun h => by cases h⟩
        · rw [if_neg k]
          simp only
          rw [dec_yes (by omega), dec_yes (by omega)]; simp
      · rw [if_neg hu]
        simp only
        rw [dec_no (by omega)]; exact ⟨rfl, fun h => by cases h⟩
    · have hm : magS (c :: r) = c :: r := if_neg hs
      have hc : c.toNat ≠ 43 ∧ c.toNat ≠ 45 := by
        rw [hm, List.all_cons, Bool.and_eq_true] at h3
        have := digB_iff.1 h3.1
        omega
      rw [hm] at hp ⊢
      rw [if_neg (show ¬ (c :: r).getD 0 0 = 45 from hs)]
      unfold Lib.atoiAll
      simp only [hc.1, hc.2, or_self, if_false, hp]
      generalize natFrom 0 (c :: r) = u
      unfold inI64
      by_cases hu : u < 18446744073709551616
      · rw [if_pos hu]
        simp only [not_false_eq_true, true_and, false_and, if_false]
        by_cases k : 9223372036854775808 ≤ u
        · rw [if_pos k]
          simp only
          rw [dec_yes (by omega), dec_no (by omega)]; exact ⟨rfl, fun h => by cases h⟩
        · rw [if_neg k]
          simp only
          rw [dec_yes (by omega), dec_yes (by omega)]; simp
      · rw [if_neg hu]
        simp only
        rw [dec_yes (by omega), dec_no (by omega)]; exact ⟨rfl, fun h => by cases h⟩

end Go.Den

