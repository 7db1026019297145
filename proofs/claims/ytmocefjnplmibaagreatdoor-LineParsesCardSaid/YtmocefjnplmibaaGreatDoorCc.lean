/- Messages; the equality of lists of properties; exchanges, queues, bindings. -/
import Derived.Test.YtmocefjnplmibaaGreatDoorCb
namespace Go.Proofs.YtmocefjnplmibaaGreatDoor
open Go Go.Den
set_option maxRecDepth 100000

abbrev prp (l : List E) : AV := .e (.sl 97 l)
abbrev msgA (m : Msg) : AV := .agg [str m.topic, str m.payload, num m.level, yes m.retain, num m.prio, num m.expires, str m.sender, num m.seq, prp m.props]
abbrev exA (x : Exch) : AV := .agg [str x.name, num x.kind, str x.alt]
abbrev spA (x : Spc) : AV := .agg [str x.name, num x.max, num x.ttl, num x.att, str x.dead]
abbrev bdA (b : Bnd) : AV := .agg [str b.exch, str b.queue, str b.key, yes b.all, prp b.mtch]
abbrev reqA (r : Req) : AV := .agg [num r.kind, num r.conn, num r.serial, num r.tag, num r.limit, yes r.flag, str r.name, str r.key, str r.ex.name, num r.ex.kind, str r.ex.alt,
  str r.sp.name, num r.sp.max, num r.sp.ttl, num r.sp.att, str r.sp.dead, str r.bd.exch, str r.bd.queue, str r.bd.key, yes r.bd.all, prp r.bd.mtch,
  str r.msg.topic, str r.msg.payload, num r.msg.level, yes r.msg.retain, num r.msg.prio, num r.msg.expires, str r.msg.sender, num r.msg.seq, prp r.msg.props]

theorem MCheck_run (m : Msg) : RR none 77 [msgA m] [] = some (.ret (num (msgE m)), []) := by
  refine run_of_body ((eq_MCheck RR LL m.topic m.payload m.level m.retain m.prio m.expires m.sender m.seq m.props).trans ?_)
  simp only [Valid_run, Option.bind_some, okH0, okB, okN, valB, valN, cond_true, mis_run, Name_run, MProps_run]
  unfold msgE optS
  cases validS m.topic <;> cases decide (256 < (m.payload.length : Int)) <;> cases rng m.level 2 <;> cases rng m.prio 9 <;> cases rng m.expires 1099511627776 <;> cases strEq m.sender [] <;> cases nameS m.sender <;> cases rng m.seq 1099511627776 <;> rfl
theorem R5Check_run (m : Msg) : RR none 85 [msgA m] [] = some (.ret (num (msgE m)), []) := by
  refine run_of_body ((eq_R5Check RR LL m.topic m.payload m.level m.retain m.prio m.expires m.sender m.seq m.props).trans ?_)
  have hp : (bif bif bif decide (m.prio < 0) then true else decide (9 < m.prio) then true else decide (m.expires < 0) then true else decide (1099511627776 < m.expires)) = !(rng m.prio 9 && rng m.expires 1099511627776) := by
    rw [not_rng]
    have h := not_rng m.expires 1099511627776
    cases rng m.prio 9
    · rfl
    · exact h
  rw [hp]
  simp only [R1Valid_run, Option.bind_some, okH0, okB, okN, valB, valN, cond_true, RName_run, R5Props_run, not_rng]
  unfold msgE optS
  cases validS m.topic <;> cases decide (256 < (m.payload.length : Int)) <;> cases rng m.level 2 <;> cases rng m.prio 9 <;> cases rng m.expires 1099511627776 <;> cases strEq m.sender [] <;> cases nameS m.sender <;> cases rng m.seq 1099511627776 <;> rfl

theorem exchange_run (x : Exch) : RR none 71 [exA x] [] = some (.ret (num (exE x)), []) := by
  refine run_of_body ((eq_exchange RR LL x.name x.kind x.alt).trans ?_)
  simp only [Name_run, Option.bind_some, okH0, okB, valB, cond_true, is_run, opt_run]
  unfold exE
  cases nameS x.name <;> cases btw x.kind 1 4 <;> cases optS x.alt <;> rfl
theorem spec_run (x : Spc) : RR none 72 [spA x] [] = some (.ret (num (spE x)), []) := by
  refine run_of_body ((eq_spec RR LL x.name x.max x.ttl x.att x.dead).trans ?_)
  simp only [Name_run, Option.bind_some, okH0, okB, valB, cond_true, is_run, opt_run]
  unfold spE
  have e : ∀ n, btw n 0 1099511627776 = rng n 1099511627776 := fun n => rfl
  rw [e, e]
  cases nameS x.name <;> cases btw x.max 1 256 <;> cases rng x.ttl 1099511627776 <;> cases rng x.att 1099511627776 <;> cases optS x.dead <;> rfl
theorem RSpec_run (x : Spc) : RR none 82 [spA x] [] = some (.ret (num (spE x)), []) := by
  refine run_of_body ((eq_RSpec RR LL x.name x.max x.ttl x.att x.dead).trans ?_)
  simp only [RName_run, Option.bind_some, okH0, okB, valB, cond_true, from_run, Ropt_run, not_btw]
  unfold spE
  cases nameS x.name <;> cases btw x.max 1 256 <;> cases rng x.ttl 1099511627776 <;> cases rng x.att 1099511627776 <;> cases optS x.dead <;> rfl
theorem Rbinding_run (b : Bnd) : RR none 83 [bdA b] [] = some (.ret (num (bdE b)), []) := by
  refine run_of_body ((eq_Rbinding RR LL b.exch b.queue b.key b.all b.mtch).trans ?_)
  simp only [RName_run, Option.bind_some, okH0, okB, okN, valB, valN, cond_true, Rkey_run, R5Props_run]
  unfold bdE
  cases nameS b.exch <;> cases nameS b.queue <;> cases (keyE b.key == 0) <;> rfl
theorem RExchange_run (k : Int) : ∃ s, RR none 49 [num k] [] = some (.ret (str s), []) ∧ strEq s [] = !btw k 1 4 := by
  have hx := eq_RExchange RR LL k
  by_cases h : 1 ≤ k ∧ k ≤ 4
  · rw [btw_iff.2 h]
    obtain ⟨n, rfl⟩ : ∃ n : Nat, k = n := ⟨k.toNat, by omega⟩
    refine ⟨_, run_of_body (hx.trans (cond_not (by rw [dec_no (by omega), dec_no (by omega)]; rfl) (cond_run (by rw [dec_yes (by omega), dec_yes (by omega)]; rfl) rfl))), ?_⟩
    rcases (by omega : n = 1 ∨ n = 2 ∨ n = 3 ∨ n = 4) with rfl | rfl | rfl | rfl <;> rfl
  · have : btw k 1 4 = false := by cases hb : btw k 1 4 with | false => rfl | true => exact absurd (btw_iff.1 hb) h
    rw [this]
    refine ⟨[], run_of_body (hx.trans (cond_run ?_ rfl)), rfl⟩
    by_cases h1 : k < 1
    · rw [dec_yes h1]; rfl
    · rw [dec_no h1, dec_yes (by omega)]; rfl
theorem RWord_run (k : Int) : ∃ s, RR none 36 [num k] [] = some (.ret (str s), []) ∧ strEq s [] = !btw k 1 15 := by
  have hx := eq_RWord RR LL k
  by_cases h : 1 ≤ k ∧ k ≤ 15
  · rw [btw_iff.2 h]
    obtain ⟨n, rfl⟩ : ∃ n : Nat, k = n := ⟨k.toNat, by omega⟩
    refine ⟨_, run_of_body (hx.trans (cond_not (by rw [dec_no (by omega), dec_no (by omega)]; rfl) (cond_run (by rw [dec_yes (by omega), dec_yes (by omega)]; rfl) rfl))), ?_⟩
    rcases (by omega : n = 1 ∨ n = 2 ∨ n = 3 ∨ n = 4 ∨ n = 5 ∨ n = 6 ∨ n = 7 ∨ n = 8 ∨ n = 9 ∨ n = 10 ∨ n = 11 ∨ n = 12 ∨ n = 13 ∨ n = 14 ∨ n = 15) with rfl | rfl | rfl | rfl | rfl | rfl | rfl | rfl | rfl | rfl | rfl | rfl | rfl | rfl | rfl <;> rfl
  · have : btw k 1 15 = false := by cases hb : btw k 1 15 with | false => rfl | true => exact absurd (btw_iff.1 hb) h
    rw [this]
    refine ⟨[], run_of_body (hx.trans (cond_run ?_ rfl)), rfl⟩
    by_cases h1 : k < 1
    · rw [dec_yes h1]; rfl
    · rw [dec_no h1, dec_yes (by omega)]; rfl

/-! ### Equality -/

def bnX : Out := { ex := .exit 0, fr := List.replicate 58 AV.undef, hp := [], df := [] }
def bnR : Out := { ex := .ret, fr := [AV.undef, AV.undef, AV.undef, AV.undef, yes false] ++ List.replicate 53 AV.undef, hp := [], df := [] }
theorem bind_loop (a : List E) (b : Bnd) (ha : a.length ≤ maxLen) (hab : a.length = b.mtch.length) : LL 78 0 lc_78_4 (((((List.replicate 58 AV.undef).set 3 (.ptr 0 0)).set 43 (prp a)).set 44 (num (a.length : Int))).set 45 (num 0)) [.box [str b.exch, str b.queue, str b.key, yes b.all, prp b.mtch]] =
    some (bif allFrom (fun i => eqP (a.getD i .nili) (b.mtch.getD i .nili)) a.length 0 then bnX else bnR) := by
  refine scan_ix (G := fun i => LL 78 0 lc_78_4 (((((List.replicate 58 AV.undef).set 3 (.ptr 0 0)).set 43 (prp a)).set 44 (num (a.length : Int))).set 45 (num (i : Int))) [.box [str b.exch, str b.queue, str b.key, yes b.all, prp b.mtch]]) ?_ ?_
  · intro i hi r h
    have body := eq_bindingsL4 RR LL a a.length i b.exch b.queue b.key b.all b.mtch
    rw [nat_at, nat_wrap hi ha] at body
    refine loop_of_body (body.trans (cond_run (nat_lt hi) (cond_run (nat_in hi) (cond_run (nat_in (by omega)) ?_))))
    revert h
    change (bif eqP (a.getD i .nili) (b.mtch.getD i .nili) then _ else _) = _ → (bif !eqP (a.getD i .nili) (b.mtch.getD i .nili) then _ else _) = _
    cases eqP (a.getD i .nili) (b.mtch.getD i .nili) with
    | true => intro h; exact cond_not rfl (bind_run h rfl)
    | false => intro h; exact cond_run rfl h
  · exact loop_of_body ((eq_bindingsL4 RR LL a a.length a.length b.exch b.queue b.key b.all b.mtch).trans (cond_not (nat_end _) rfl))
theorem bindings_run (a b : Bnd) (ha : a.mtch.length ≤ maxLen) : RR none 78 [bdA a, bdA b] [] = some (.ret (yes (sameB a b)), []) := by
  refine run_of_body ((eq_bindings RR LL a.exch a.queue a.key a.all a.mtch b.exch b.queue b.key b.all b.mtch).trans ?_)
  unfold sameB eqProps
  cases strEq a.exch b.exch with
  | false => rfl
  | true =>
  cases strEq a.queue b.queue with
  | false => rfl
  | true =>
  cases strEq a.key b.key with
  | false => rfl
  | true =>
  cases (a.all == b.all) with
  | false => rfl
  | true =>
  cases hl : ((a.mtch.length : Int) == (b.mtch.length : Int)) with
  | false => exact cond_run rfl rfl
  | true =>
    have hl := eq_of_beq hl
    refine cond_not rfl (bind_run (bind_loop a.mtch b ha (by omega)) ?_)
    cases allFrom (fun i => eqP (a.mtch.getD i .nili) (b.mtch.getD i .nili)) a.mtch.length 0 <;> rfl
def msX : Out := { ex := .exit 0, fr := List.replicate 86 AV.undef, hp := [], df := [] }
def msR : Out := { ex := .ret, fr := [AV.undef, AV.undef, AV.undef, AV.undef, yes false] ++ List.replicate 81 AV.undef, hp := [], df := [] }
theorem msg_loop (a : List E) (b : Msg) (ha : a.length ≤ maxLen) (hab : a.length = b.props.length) : LL 79 0 lc_79_4 (((((List.replicate 86 AV.undef).set 3 (.ptr 0 0)).set 71 (prp a)).set 72 (num (a.length : Int))).set 73 (num 0))
      [.box [str b.topic, str b.payload, num b.level, yes b.retain, num b.prio, num b.expires, str b.sender, num b.seq, prp b.props]] =
    some (bif allFrom (fun i => eqP (a.getD i .nili) (b.props.getD i .nili)) a.length 0 then msX else msR) := by
  refine scan_ix (G := fun i => LL 79 0 lc_79_4 (((((List.replicate 86 AV.undef).set 3 (.ptr 0 0)).set 71 (prp a)).set 72 (num (a.length : Int))).set 73 (num (i : Int))) [.box [str b.topic, str b.payload, num b.level, yes b.retain, num b.prio, num b.expires, str b.sender, num b.seq, prp b.props]]) ?_ ?_
  · intro i hi r h
    have body := eq_MSameL4 RR LL a a.length i b.topic b.payload b.level b.retain b.prio b.expires b.sender b.seq b.props
    rw [nat_at, nat_wrap hi ha] at body
    refine loop_of_body (body.trans (cond_run (nat_lt hi) (cond_run (nat_in hi) (cond_run (nat_in (by omega)) ?_))))
    revert h
    change (bif eqP (a.getD i .nili) (b.props.getD i .nili) then _ else _) = _ → (bif !eqP (a.getD i .nili) (b.props.getD i .nili) then _ else _) = _
    cases eqP (a.getD i .nili) (b.props.getD i .nili) with
    | true => intro h; exact cond_not rfl (bind_run h rfl)
    | false => intro h; exact cond_run rfl h
  · exact loop_of_body ((eq_MSameL4 RR LL a a.length a.length b.topic b.payload b.level b.retain b.prio b.expires b.sender b.seq b.props).trans (cond_not (nat_end _) rfl))
theorem MSame_run (a b : Msg) (ha : a.props.length ≤ maxLen) : RR none 79 [msgA a, msgA b] [] = some (.ret (yes (sameM a b)), []) := by
  refine run_of_body ((eq_MSame RR LL a.topic a.payload a.level a.retain a.prio a.expires a.sender a.seq a.props b.topic b.payload b.level b.retain b.prio b.expires b.sender b.seq b.props).trans ?_)
  unfold sameM eqProps
  cases strEq a.topic b.topic with
  | false => rfl
  | true =>
  cases strEq a.payload b.payload with
  | false => rfl
  | true =>
  cases (a.level == b.level) with
  | false => rfl
  | true =>
  cases (a.retain == b.retain) with
  | false => rfl
  | true =>
  cases (a.prio == b.prio) with
  | false => rfl
  | true =>
  cases (a.expires == b.expires) with
  | false => rfl
  | true =>
  cases strEq a.sender b.sender with
  | false => rfl
  | true =>
  cases (a.seq == b.seq) with
  | false => rfl
  | true =>
  cases hl : ((a.props.length : Int) == (b.props.length : Int)) with
  | false => exact cond_run rfl rfl
  | true =>
    have hl := eq_of_beq hl
    refine cond_not rfl (bind_run (msg_loop a.props b ha (by omega)) ?_)
    cases allFrom (fun i => eqP (a.props.getD i .nili) (b.props.getD i .nili)) a.props.length 0 <;> rfl

def rsX : Out := { ex := .exit 0, fr := List.replicate 26 AV.undef, hp := [], df := [] }
def rsR : Out := { ex := .ret, fr := [AV.undef, AV.undef, AV.undef, AV.undef, yes false] ++ List.replicate 21 AV.undef, hp := [], df := [] }
theorem rsame_loop (a b : List E) (ha : a.length ≤ maxLen) (hab : a.length = b.length) : LL 69 0 lc_69_4 ((((List.replicate 26 AV.undef).set 0 (prp a)).set 1 (prp b)).set 5 (num 0)) [] =
    some (bif allFrom (fun i => eqP (a.getD i .nili) (b.getD i .nili)) a.length 0 then rsX else rsR) := by
  refine scan_ix (G := fun i => LL 69 0 lc_69_4 ((((List.replicate 26 AV.undef).set 0 (prp a)).set 1 (prp b)).set 5 (num (i : Int))) []) ?_ ?_
  · intro i hi r h
    have body := eq_R5SamePropsL4 RR LL a b i
    rw [nat_at, nat_wrap hi ha] at body
    refine loop_of_body (body.trans (cond_run (nat_lt hi) (cond_run (nat_in hi) (cond_run (nat_in (by omega)) ?_))))
    revert h
    change (bif eqP (a.getD i .nili) (b.getD i .nili) then _ else _) = _ → (bif !eqP (a.getD i .nili) (b.getD i .nili) then _ else _) = _
    cases eqP (a.getD i .nili) (b.getD i .nili) with
    | true => intro h; exact cond_not rfl (bind_run h rfl)
    | false => intro h; exact cond_run rfl h
  · exact loop_of_body ((eq_R5SamePropsL4 RR LL a b a.length).trans (cond_not (nat_end _) rfl))
theorem SameProps_run (a b : List E) (ha : a.length ≤ maxLen) : RR none 69 [prp a, prp b] [] = some (.ret (yes (eqProps a b)), []) := by
  refine run_of_body ((eq_R5SameProps RR LL a b).trans ?_)
  unfold eqProps
  cases hl : ((a.length : Int) == (b.length : Int)) with
  | false => exact cond_run rfl rfl
  | true =>
    have hl := eq_of_beq hl
    refine cond_not rfl (bind_run (rsame_loop a b ha (by omega)) ?_)
    cases allFrom (fun i => eqP (a.getD i .nili) (b.getD i .nili)) a.length 0 <;> rfl
theorem R5Same_run (a b : Msg) (ha : a.props.length ≤ maxLen) : RR none 27 [msgA a, msgA b] [] = some (.ret (yes (sameM a b)), []) := by
  refine run_of_body ((eq_R5Same RR LL a.topic a.payload a.level a.retain a.prio a.expires a.sender a.seq a.props b.topic b.payload b.level b.retain b.prio b.expires b.sender b.seq b.props).trans ?_)
  rw [SameProps_run _ _ ha]
  unfold sameM
  cases strEq a.topic b.topic with
  | false => rfl
  | true =>
  cases strEq a.payload b.payload with
  | false => rfl
  | true =>
  cases (a.level == b.level) with
  | false => rfl
  | true =>
  cases (a.retain == b.retain) with
  | false => rfl
  | true =>
  cases (a.prio == b.prio) with
  | false => rfl
  | true =>
  cases (a.expires == b.expires) with
  | false => rfl
  | true =>
  cases strEq a.sender b.sender with
  | false => rfl
  | true =>
  cases (a.seq == b.seq) with
  | false => rfl
  | true => exact cond_run rfl (bind_run rfl (cond_run rfl (cond_run (okB _) rfl)))
theorem SameBinding_run (a b : Bnd) (ha : a.mtch.length ≤ maxLen) : RR none 68 [bdA a, bdA b] [] = some (.ret (yes (sameB a b)), []) := by
  refine run_of_body ((eq_RSameBinding RR LL a.exch a.queue a.key a.all a.mtch b.exch b.queue b.key b.all b.mtch).trans ?_)
  rw [SameProps_run _ _ ha]
  unfold sameB
  cases strEq a.exch b.exch with
  | false => rfl
  | true =>
  cases strEq a.queue b.queue with
  | false => rfl
  | true =>
  cases strEq a.key b.key with
  | false => rfl
  | true =>
  cases (a.all == b.all) with
  | false => rfl
  | true => exact cond_run rfl (bind_run rfl (cond_run rfl (cond_run (okB _) rfl)))

end Go.Proofs.YtmocefjnplmibaaGreatDoor
