/- Check of a request: the program's and the reference's; LineChecks. -/
import Derived.Test.YtmocefjnplmibaaGreatDoorCd
namespace Go.Proofs.YtmocefjnplmibaaGreatDoor
open Go Go.Den
set_option maxRecDepth 100000

abbrev numsL (r : Req) : List E := [.int .i64 r.conn, .int .i64 r.serial, .int .i64 r.tag, .int .i64 r.limit]
theorem elems4 (r : Req) : elems Tryz.prog 3 1 4 [E.int IntKind.i64 r.limit, E.int IntKind.i64 r.tag, E.int IntKind.i64 r.serial, E.int IntKind.i64 r.conn].reverse = numsL r := by kernel_rfl
def ckX (r : Req) : Out := { ex := .exit 0, fr := [AV.undef, AV.ptr 0 0] ++ List.replicate 36 AV.undef, hp := [.box (match reqA r with | .agg l => l | _ => [])], df := [] }
def ckR : Out := { ex := .ret, fr := [AV.undef, AV.undef, num 1] ++ List.replicate 35 AV.undef, hp := [], df := [] }
theorem check_loop (r : Req) : LL 17 0 lc_17_4 (((((List.replicate 38 AV.undef).set 1 (.ptr 0 0)).set 18 (.own 1 3 (numsL r))).set 19 (num 4)).set 20 (num 0)) [.box (match reqA r with | .agg l => l | _ => []), .vec 3 4] =
    some (bif (numsL r).all (fun x => rng (x.cell 0).toInt 1099511627776) then ckX r else ckR) := by
  refine scan_all (d := .nili) (G := fun i => LL 17 0 lc_17_4 (((((List.replicate 38 AV.undef).set 1 (.ptr 0 0)).set 18 (.own 1 3 (numsL r))).set 19 (num 4)).set 20 (num (i : Int))) [.box (match reqA r with | .agg l => l | _ => []), .vec 3 4]) ?_ ?_
  · intro i hi q h
    have hi4 : i < 4 := hi
    have body := eq_CheckL4 RR LL (numsL r) 4 i r.kind r.conn r.serial r.tag r.limit r.flag r.name r.key r.ex.name r.ex.kind r.ex.alt r.sp.name r.sp.max r.sp.ttl r.sp.att r.sp.dead r.bd.exch r.bd.queue r.bd.key r.bd.all r.bd.mtch
      r.msg.topic r.msg.payload r.msg.level r.msg.retain r.msg.prio r.msg.expires r.msg.sender r.msg.seq r.msg.props
    rw [nat_at, nat_wrap hi4 (by decide)] at body
    refine loop_of_body (body.trans (cond_run (dec_yes (by omega)) (cond_run (nat_in hi) (bind_run (is_run _ _ _) (cond_run rfl (cond_run (okB _) ?_))))))
    rw [valB]
    revert h
    change (bif rng (((numsL r).getD i .nili).cell 0).toInt 1099511627776 then _ else _) = _ → (bif !rng (((numsL r).getD i .nili).cell 0).toInt 1099511627776 then _ else _) = _
    cases rng (((numsL r).getD i .nili).cell 0).toInt 1099511627776 with
    | true => intro h; exact cond_not rfl (bind_run h rfl)
    | false => intro h; exact cond_run rfl h
  · exact loop_of_body ((eq_CheckL4 RR LL (numsL r) 4 4 r.kind r.conn r.serial r.tag r.limit r.flag r.name r.key r.ex.name r.ex.kind r.ex.alt r.sp.name r.sp.max r.sp.ttl r.sp.att r.sp.dead r.bd.exch r.bd.queue r.bd.key r.bd.all r.bd.mtch
      r.msg.topic r.msg.payload r.msg.level r.msg.retain r.msg.prio r.msg.expires r.msg.sender r.msg.seq r.msg.props).trans (cond_not rfl rfl))
theorem nums_all (r : Req) : (numsL r).all (fun x => rng (x.cell 0).toInt 1099511627776) = numsE r := by
  show (rng r.conn _ && (rng r.serial _ && (rng r.tag _ && (rng r.limit _ && true)))) = _
  unfold numsE
  cases rng r.conn 1099511627776 <;> cases rng r.serial 1099511627776 <;> cases rng r.tag 1099511627776 <;> cases rng r.limit 1099511627776 <;> rfl
theorem okReq (r : Req) : okRes PP 39 (.ret (reqA r)) = true := by kernel_rfl

theorem Check_run (r : Req) (h1 : r.bd.mtch.length ≤ maxLen) (h2 : r.msg.props.length ≤ maxLen) : RR none 17 [reqA r] [] = some (.ret (num (checkE r)), []) := by
  refine run_of_body ((eq_Check RR LL r.kind r.conn r.serial r.tag r.limit r.flag r.name r.key r.ex.name r.ex.kind r.ex.alt r.sp.name r.sp.max r.sp.ttl r.sp.att r.sp.dead r.bd.exch r.bd.queue r.bd.key r.bd.all r.bd.mtch
      r.msg.topic r.msg.payload r.msg.level r.msg.retain r.msg.prio r.msg.expires r.msg.sender r.msg.seq r.msg.props).trans (bind_run (is_run _ _ _) (cond_run rfl (cond_run (okB _) ?_))))
  rw [valB]
  unfold checkE
  cases hk : btw r.kind 1 15 with
  | false => rfl
  | true =>
    rw [elems4]
    refine cond_not rfl (bind_run (check_loop r) ?_)
    rw [nums_all]
    cases numsE r with
    | false => rfl
    | true =>
      refine cond_run rfl (cond_run rfl ?_)
      refine bind_run (fields_run r hk) (cond_run rfl (cond_run (okN _) ?_))
      rw [valN]
      cases he : inE r == 0 with
      | false => rfl
      | true =>
        refine cond_not rfl (bind_run (used_run r hk) (cond_run rfl (cond_run (okReq _) ?_)))
        refine bind_run (same_run r (usedR r) h1 h2) (cond_run rfl (cond_run (okB _) ?_))
        rw [valB]
        cases sameR r (usedR r) <;> rfl
theorem RCheck_run (r : Req) (h1 : r.bd.mtch.length ≤ maxLen) (h2 : r.msg.props.length ≤ maxLen) : RR none 18 [reqA r] [] = some (.ret (num (checkE r)), []) := by
  obtain ⟨w, hw, hw2⟩ := RWord_run r.kind
  refine run_of_body ((eq_RCheck RR LL r.kind r.conn r.serial r.tag r.limit r.flag r.name r.key r.ex.name r.ex.kind r.ex.alt r.sp.name r.sp.max r.sp.ttl r.sp.att r.sp.dead r.bd.exch r.bd.queue r.bd.key r.bd.all r.bd.mtch
      r.msg.topic r.msg.payload r.msg.level r.msg.retain r.msg.prio r.msg.expires r.msg.sender r.msg.seq r.msg.props).trans (bind_run hw (cond_run rfl (cond_run (okStr _) ?_))))
  rw [valS, hw2]
  unfold checkE
  cases hk : btw r.kind 1 15 with
  | false => rfl
  | true =>
    refine cond_not rfl ?_
    simp only [from_run, inner_run r hk, Used_run r hk, Option.bind_some, okH0, okB, okN, okReq, valB, valN, cond_true]
    unfold numsE
    cases rng r.conn 1099511627776 with
    | false => rfl
    | true =>
    cases rng r.serial 1099511627776 with
    | false => rfl
    | true =>
    cases rng r.tag 1099511627776 with
    | false => rfl
    | true =>
    cases rng r.limit 1099511627776 with
    | false => rfl
    | true =>
    cases inE r == 0 with
    | false => rfl
    | true =>
      refine cond_run rfl (cond_run rfl (cond_run rfl (cond_not rfl (cond_not rfl (bind_run (RSame_run r (usedR r) h1 h2) (cond_run rfl (cond_run (okB _) ?_)))))))
      rw [valB]
      cases sameR r (usedR r) <;> rfl

end Go.Proofs.YtmocefjnplmibaaGreatDoor
