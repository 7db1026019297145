/- Requests: the fields that are used, equality, Check. -/
import Derived.Test.YtmocefjnplmibaaGreatDoorCc
namespace Go.Proofs.YtmocefjnplmibaaGreatDoor
open Go Go.Den
set_option maxRecDepth 100000

theorem same_run (a b : Req) (h1 : a.bd.mtch.length ≤ maxLen) (h2 : a.msg.props.length ≤ maxLen) : RR none 34 [reqA a, reqA b] [] = some (.ret (yes (sameR a b)), []) := by
  refine run_of_body ((eq_same RR LL a.kind a.conn a.serial a.tag a.limit a.flag a.name a.key a.ex.name a.ex.kind a.ex.alt a.sp.name a.sp.max a.sp.ttl a.sp.att a.sp.dead a.bd.exch a.bd.queue a.bd.key a.bd.all a.bd.mtch
    a.msg.topic a.msg.payload a.msg.level a.msg.retain a.msg.prio a.msg.expires a.msg.sender a.msg.seq a.msg.props
    b.kind b.conn b.serial b.tag b.limit b.flag b.name b.key b.ex.name b.ex.kind b.ex.alt b.sp.name b.sp.max b.sp.ttl b.sp.att b.sp.dead b.bd.exch b.bd.queue b.bd.key b.bd.all b.bd.mtch
    b.msg.topic b.msg.payload b.msg.level b.msg.retain b.msg.prio b.msg.expires b.msg.sender b.msg.seq b.msg.props).trans ?_)
  rw [bindings_run a.bd b.bd h1, MSame_run a.msg b.msg h2]
  unfold sameR
  change (bif (bif bif bif bif bif bif bif bif bif a.kind == b.kind then a.conn == b.conn else false then a.serial == b.serial else false then a.tag == b.tag else false then a.limit == b.limit else false then a.flag == b.flag else false then strEq a.name b.name else false then strEq a.key b.key else false then sameX a.ex b.ex else false then sameS a.sp b.sp else false) == true then _ else _) = _
  cases a.kind == b.kind with
  | false => rfl
  | true =>
  cases a.conn == b.conn with
  | false => rfl
  | true =>
  cases a.serial == b.serial with
  | false => rfl
  | true =>
  cases a.tag == b.tag with
  | false => rfl
  | true =>
  cases a.limit == b.limit with
  | false => rfl
  | true =>
  cases a.flag == b.flag with
  | false => rfl
  | true =>
  cases strEq a.name b.name with
  | false => rfl
  | true =>
  cases strEq a.key b.key with
  | false => rfl
  | true =>
  cases sameX a.ex b.ex with
  | false => rfl
  | true =>
  cases sameS a.sp b.sp with
  | false => rfl
  | true =>
  refine cond_run rfl (bind_run rfl (cond_run rfl (cond_run (okB _) ?_)))
  rw [valB]
  cases sameB a.bd b.bd with
  | false => rfl
  | true => exact cond_run rfl (bind_run rfl (cond_run rfl (cond_run (okB _) rfl)))
theorem RSame_run (a b : Req) (h1 : a.bd.mtch.length ≤ maxLen) (h2 : a.msg.props.length ≤ maxLen) : RR none 23 [reqA a, reqA b] [] = some (.ret (yes (sameR a b)), []) := by
  refine run_of_body ((eq_RSame RR LL a.kind a.conn a.serial a.tag a.limit a.flag a.name a.key a.ex.name a.ex.kind a.ex.alt a.sp.name a.sp.max a.sp.ttl a.sp.att a.sp.dead a.bd.exch a.bd.queue a.bd.key a.bd.all a.bd.mtch
    a.msg.topic a.msg.payload a.msg.level a.msg.retain a.msg.prio a.msg.expires a.msg.sender a.msg.seq a.msg.props
    b.kind b.conn b.serial b.tag b.limit b.flag b.name b.key b.ex.name b.ex.kind b.ex.alt b.sp.name b.sp.max b.sp.ttl b.sp.att b.sp.dead b.bd.exch b.bd.queue b.bd.key b.bd.all b.bd.mtch
    b.msg.topic b.msg.payload b.msg.level b.msg.retain b.msg.prio b.msg.expires b.msg.sender b.msg.seq b.msg.props).trans ?_)
  rw [SameBinding_run a.bd b.bd h1, R5Same_run a.msg b.msg h2]
  unfold sameR
  change (bif _ then _ else bif (bif bif bif strEq a.name b.name then strEq a.key b.key else false then sameX a.ex b.ex else false then sameS a.sp b.sp else false) == true then _ else _) = _
  cases a.kind == b.kind with
  | false => rfl
  | true =>
  cases a.conn == b.conn with
  | false => rfl
  | true =>
  cases a.serial == b.serial with
  | false => rfl
  | true =>
  cases a.tag == b.tag with
  | false => rfl
  | true =>
  cases a.limit == b.limit with
  | false => rfl
  | true =>
  cases a.flag == b.flag with
  | false => rfl
  | true =>
  cases strEq a.name b.name with
  | false => rfl
  | true =>
  cases strEq a.key b.key with
  | false => rfl
  | true =>
  cases sameX a.ex b.ex with
  | false => rfl
  | true =>
  cases sameS a.sp b.sp with
  | false => rfl
  | true =>
  refine cond_not rfl (cond_run rfl (bind_run rfl (cond_run rfl (cond_run (okB _) ?_))))
  rw [valB]
  cases sameB a.bd b.bd with
  | false => rfl
  | true => exact cond_run rfl (bind_run rfl (cond_run rfl (cond_run (okB _) rfl)))

theorem kinds {k : Int} (h : btw k 1 15 = true) : k = 1 ∨ k = 2 ∨ k = 3 ∨ k = 4 ∨ k = 5 ∨ k = 6 ∨ k = 7 ∨ k = 8 ∨ k = 9 ∨ k = 10 ∨ k = 11 ∨ k = 12 ∨ k = 13 ∨ k = 14 ∨ k = 15 := by
  have := btw_iff.1 h
  omega
theorem used_run (r : Req) (h : btw r.kind 1 15 = true) : RR none 35 [reqA r] [] = some (.ret (reqA (usedR r)), []) := by
  obtain ⟨k, c, s, t, l, f, n, y, ⟨x0, x1, x2⟩, ⟨s0, s1, s2, s3, s4⟩, ⟨b0, b1, b2, b3, b4⟩, ⟨m0, m1, m2, m3, m4, m5, m6, m7, m8⟩⟩ := r
  rcases kinds h with rfl | rfl | rfl | rfl | rfl | rfl | rfl | rfl | rfl | rfl | rfl | rfl | rfl | rfl | rfl
  · exact run_of_body ((eq_usedK1 RR LL c s t l f n y x0 x1 x2 s0 s1 s2 s3 s4 b0 b1 b2 b3 b4 m0 m1 m2 m3 m4 m5 m6 m7 m8).trans (by kernel_rfl))
  · exact run_of_body ((eq_usedK2 RR LL c s t l f n y x0 x1 x2 s0 s1 s2 s3 s4 b0 b1 b2 b3 b4 m0 m1 m2 m3 m4 m5 m6 m7 m8).trans (by kernel_rfl))
  · exact run_of_body ((eq_usedK3 RR LL c s t l f n y x0 x1 x2 s0 s1 s2 s3 s4 b0 b1 b2 b3 b4 m0 m1 m2 m3 m4 m5 m6 m7 m8).trans (by kernel_rfl))
  · exact run_of_body ((eq_usedK4 RR LL c s t l f n y x0 x1 x2 s0 s1 s2 s3 s4 b0 b1 b2 b3 b4 m0 m1 m2 m3 m4 m5 m6 m7 m8).trans (by kernel_rfl))
  · exact run_of_body ((eq_usedK5 RR LL c s t l f n y x0 x1 x2 s0 s1 s2 s3 s4 b0 b1 b2 b3 b4 m0 m1 m2 m3 m4 m5 m6 m7 m8).trans (by kernel_rfl))
  · exact run_of_body ((eq_usedK6 RR LL c s t l f n y x0 x1 x2 s0 s1 s2 s3 s4 b0 b1 b2 b3 b4 m0 m1 m2 m3 m4 m5 m6 m7 m8).trans (by kernel_rfl))
  · exact run_of_body ((eq_usedK7 RR LL c s t l f n y x0 x1 x2 s0 s1 s2 s3 s4 b0 b1 b2 b3 b4 m0 m1 m2 m3 m4 m5 m6 m7 m8).trans (by kernel_rfl))
  · exact run_of_body ((eq_usedK8 RR LL c s t l f n y x0 x1 x2 s0 s1 s2 s3 s4 b0 b1 b2 b3 b4 m0 m1 m2 m3 m4 m5 m6 m7 m8).trans (by kernel_rfl))
  · exact run_of_body ((eq_usedK9 RR LL c s t l f n y x0 x1 x2 s0 s1 s2 s3 s4 b0 b1 b2 b3 b4 m0 m1 m2 m3 m4 m5 m6 m7 m8).trans (by kernel_rfl))
  · exact run_of_body ((eq_usedK10 RR LL c s t l f n y x0 x1 x2 s0 s1 s2 s3 s4 b0 b1 b2 b3 b4 m0 m1 m2 m3 m4 m5 m6 m7 m8).trans (by kernel_rfl))
  · exact run_of_body ((eq_usedK11 RR LL c s t l f n y x0 x1 x2 s0 s1 s2 s3 s4 b0 b1 b2 b3 b4 m0 m1 m2 m3 m4 m5 m6 m7 m8).trans (by kernel_rfl))
  · exact run_of_body ((eq_usedK12 RR LL c s t l f n y x0 x1 x2 s0 s1 s2 s3 s4 b0 b1 b2 b3 b4 m0 m1 m2 m3 m4 m5 m6 m7 m8).trans (by kernel_rfl))
  · exact run_of_body ((eq_usedK13 RR LL c s t l f n y x0 x1 x2 s0 s1 s2 s3 s4 b0 b1 b2 b3 b4 m0 m1 m2 m3 m4 m5 m6 m7 m8).trans (by kernel_rfl))
  · exact run_of_body ((eq_usedK14 RR LL c s t l f n y x0 x1 x2 s0 s1 s2 s3 s4 b0 b1 b2 b3 b4 m0 m1 m2 m3 m4 m5 m6 m7 m8).trans (by kernel_rfl))
  · exact run_of_body ((eq_usedK15 RR LL c s t l f n y x0 x1 x2 s0 s1 s2 s3 s4 b0 b1 b2 b3 b4 m0 m1 m2 m3 m4 m5 m6 m7 m8).trans (by kernel_rfl))
theorem Used_run (r : Req) (h : btw r.kind 1 15 = true) : RR none 39 [reqA r] [] = some (.ret (reqA (usedR r)), []) := by
  obtain ⟨k, c, s, t, l, f, n, y, ⟨x0, x1, x2⟩, ⟨s0, s1, s2, s3, s4⟩, ⟨b0, b1, b2, b3, b4⟩, ⟨m0, m1, m2, m3, m4, m5, m6, m7, m8⟩⟩ := r
  rcases kinds h with rfl | rfl | rfl | rfl | rfl | rfl | rfl | rfl | rfl | rfl | rfl | rfl | rfl | rfl | rfl
  · exact run_of_body ((eq_UsedK1 RR LL c s t l f n y x0 x1 x2 s0 s1 s2 s3 s4 b0 b1 b2 b3 b4 m0 m1 m2 m3 m4 m5 m6 m7 m8).trans (by kernel_rfl))
  · exact run_of_body ((eq_UsedK2 RR LL c s t l f n y x0 x1 x2 s0 s1 s2 s3 s4 b0 b1 b2 b3 b4 m0 m1 m2 m3 m4 m5 m6 m7 m8).trans (by kernel_rfl))
  · exact run_of_body ((eq_UsedK3 RR LL c s t l f n y x0 x1 x2 s0 s1 s2 s3 s4 b0 b1 b2 b3 b4 m0 m1 m2 m3 m4 m5 m6 m7 m8).trans (by kernel_rfl))
  · exact run_of_body ((eq_UsedK4 RR LL c s t l f n y x0 x1 x2 s0 s1 s2 s3 s4 b0 b1 b2 b3 b4 m0 m1 m2 m3 m4 m5 m6 m7 m8).trans (by kernel_rfl))
  · exact run_of_body ((eq_UsedK5 RR LL c s t l f n y x0 x1 x2 s0 s1 s2 s3 s4 b0 b1 b2 b3 b4 m0 m1 m2 m3 m4 m5 m6 m7 m8).trans (by kernel_rfl))
  · exact run_of_body ((eq_UsedK6 RR LL c s t l f n y x0 x1 x2 s0 s1 s2 s3 s4 b0 b1 b2 b3 b4 m0 m1 m2 m3 m4 m5 m6 m7 m8).trans (by kernel_rfl))
  · exact run_of_body ((eq_UsedK7 RR LL c s t l f n y x0 x1 x2 s0 s1 s2 s3 s4 b0 b1 b2 b3 b4 m0 m1 m2 m3 m4 m5 m6 m7 m8).trans (by kernel_rfl))
  · exact run_of_body ((eq_UsedK8 RR LL c s t l f n y x0 x1 x2 s0 s1 s2 s3 s4 b0 b1 b2 b3 b4 m0 m1 m2 m3 m4 m5 m6 m7 m8).trans (by kernel_rfl))
  · exact run_of_body ((eq_UsedK9 RR LL c s t l f n y x0 x1 x2 s0 s1 s2 s3 s4 b0 b1 b2 b3 b4 m0 m1 m2 m3 m4 m5 m6 m7 m8).trans (by kernel_rfl))
  · exact run_of_body ((eq_UsedK10 RR LL c s t l f n y x0 x1 x2 s0 s1 s2 s3 s4 b0 b1 b2 b3 b4 m0 m1 m2 m3 m4 m5 m6 m7 m8).trans (by kernel_rfl))
  · exact run_of_body ((eq_UsedK11 RR LL c s t l f n y x0 x1 x2 s0 s1 s2 s3 s4 b0 b1 b2 b3 b4 m0 m1 m2 m3 m4 m5 m6 m7 m8).trans (by kernel_rfl))
  · exact run_of_body ((eq_UsedK12 RR LL c s t l f n y x0 x1 x2 s0 s1 s2 s3 s4 b0 b1 b2 b3 b4 m0 m1 m2 m3 m4 m5 m6 m7 m8).trans (by kernel_rfl))
  · exact run_of_body ((eq_UsedK13 RR LL c s t l f n y x0 x1 x2 s0 s1 s2 s3 s4 b0 b1 b2 b3 b4 m0 m1 m2 m3 m4 m5 m6 m7 m8).trans (by kernel_rfl))
  · exact run_of_body ((eq_UsedK14 RR LL c s t l f n y x0 x1 x2 s0 s1 s2 s3 s4 b0 b1 b2 b3 b4 m0 m1 m2 m3 m4 m5 m6 m7 m8).trans (by kernel_rfl))
  · exact run_of_body ((eq_UsedK15 RR LL c s t l f n y x0 x1 x2 s0 s1 s2 s3 s4 b0 b1 b2 b3 b4 m0 m1 m2 m3 m4 m5 m6 m7 m8).trans (by kernel_rfl))

theorem fields_run (r : Req) (h : btw r.kind 1 15 = true) : RR none 33 [reqA r] [] = some (.ret (num (inE r)), []) := by
  refine run_of_body ((eq_fieldsE RR LL r.kind r.conn r.serial r.tag r.limit r.flag r.name r.key r.ex.name r.ex.kind r.ex.alt r.sp.name r.sp.max r.sp.ttl r.sp.att r.sp.dead r.bd.exch r.bd.queue r.bd.key r.bd.all r.bd.mtch
    r.msg.topic r.msg.payload r.msg.level r.msg.retain r.msg.prio r.msg.expires r.msg.sender r.msg.seq r.msg.props).trans ?_)
  simp only [exchange_run r.ex, spec_run r.sp, Name_run, opt_run, key_run, MProps_run, MCheck_run r.msg, Option.bind_some, okH0, okB, okN, valB, valN, cond_true]
  unfold inE bdE pubE nmE
  rcases kinds h with e | e | e | e | e | e | e | e | e | e | e | e | e | e | e <;> rw [e] <;>
    first
    | rfl
    | (cases nameS r.bd.exch <;> cases nameS r.bd.queue <;> cases keyE r.bd.key == 0 <;> rfl)
    | (cases optS r.name <;> cases keyE r.key == 0 <;> rfl)
    | (cases nameS r.name <;> rfl)
theorem inner_run (r : Req) (h : btw r.kind 1 15 = true) : RR none 38 [reqA r] [] = some (.ret (num (inE r)), []) := by
  refine run_of_body ((eq_inner RR LL r.kind r.conn r.serial r.tag r.limit r.flag r.name r.key r.ex.name r.ex.kind r.ex.alt r.sp.name r.sp.max r.sp.ttl r.sp.att r.sp.dead r.bd.exch r.bd.queue r.bd.key r.bd.all r.bd.mtch
    r.msg.topic r.msg.payload r.msg.level r.msg.retain r.msg.prio r.msg.expires r.msg.sender r.msg.seq r.msg.props).trans ?_)
  obtain ⟨w, hw, hw2⟩ := RExchange_run r.ex.kind
  simp only [hw, RSpec_run r.sp, RName_run, Ropt_run, Rkey_run, Rbinding_run r.bd, R5Check_run r.msg, Option.bind_some, okH0, okB, okN, valB, valN, valS, okStr, hw2, cond_true]
  unfold inE exE pubE nmE
  rcases kinds h with e | e | e | e | e | e | e | e | e | e | e | e | e | e | e <;> rw [e] <;>
    first
    | rfl
    | (cases nameS r.ex.name <;> cases btw r.ex.kind 1 4 <;> cases optS r.ex.alt <;> rfl)
    | (cases optS r.name <;> cases keyE r.key == 0 <;> rfl)
    | (cases nameS r.name <;> rfl)

end Go.Proofs.YtmocefjnplmibaaGreatDoor
