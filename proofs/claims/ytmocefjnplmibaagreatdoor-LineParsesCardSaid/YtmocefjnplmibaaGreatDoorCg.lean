/- Requests as arguments; what is small; LineChecks. -/
import Derived.Test.YtmocefjnplmibaaGreatDoorCf
import Derived.Test.YtmocefjnplmibaaGreatDoorPr
namespace Go.Proofs.YtmocefjnplmibaaGreatDoor
open Go Go.Den
set_option maxRecDepth 100000

/-! ### Small requests -/

def smallP (x : E) : Bool := !(bif decide (400 < ((pK x).length : Int)) == false then decide (400 < ((pV x).length : Int)) else true)
def smallL (l : List E) : Bool := bif decide (12 < (l.length : Int)) then false else l.all smallP
def smallM (m : Msg) : Bool := bif (bif bif decide ((m.topic.length : Int) ≤ 400) then decide ((m.payload.length : Int) ≤ 400) else false then decide ((m.sender.length : Int) ≤ 400) else false) == true then smallL m.props else false
def smallB (b : Bnd) : Bool := bif (bif bif decide ((b.exch.length : Int) ≤ 400) then decide ((b.queue.length : Int) ≤ 400) else false then decide ((b.key.length : Int) ≤ 400) else false) == true then smallL b.mtch else false
def smallR (r : Req) : Bool :=
  bif bif bif bif bif bif decide (400 < (r.name.length : Int)) then true else decide (400 < (r.key.length : Int)) then true else decide (400 < (r.ex.name.length : Int)) then true else decide (400 < (r.ex.alt.length : Int)) then true
    else decide (400 < (r.sp.name.length : Int)) then true else decide (400 < (r.sp.dead.length : Int)) then false
  else bif smallB r.bd then smallM r.msg else false

def spX : Out := { ex := .exit 0, fr := List.replicate 29 AV.undef, hp := [], df := [] }
def spR : Out := { ex := .ret, fr := [AV.undef, AV.undef, yes false] ++ List.replicate 26 AV.undef, hp := [], df := [] }
/-! ### Requests as arguments -/

def IsProp (x : E) : Prop := ∃ k v, x = .agg [.str k, .str v] ∧ k.length ≤ maxLen ∧ v.length ≤ maxLen
def PropsOk (l : List E) : Prop := l.length ≤ maxLen ∧ ∀ x ∈ l, IsProp x
def I64 (n : Int) : Prop := -9223372036854775808 ≤ n ∧ n ≤ 9223372036854775807
structure ReqOk (r : Req) : Prop where
  mtch : PropsOk r.bd.mtch
  props : PropsOk r.msg.props
  texts : ∀ s ∈ [r.name, r.key, r.ex.name, r.ex.alt, r.sp.name, r.sp.dead, r.bd.exch, r.bd.queue, r.bd.key, r.msg.topic, r.msg.payload, r.msg.sender], s.length ≤ maxLen
  nums : ∀ n ∈ [r.kind, r.conn, r.serial, r.tag, r.limit, r.ex.kind, r.sp.max, r.sp.ttl, r.sp.att, r.msg.level, r.msg.prio, r.msg.expires, r.msg.seq], I64 n

/-! ### LineChecks -/

end Go.Proofs.YtmocefjnplmibaaGreatDoor
