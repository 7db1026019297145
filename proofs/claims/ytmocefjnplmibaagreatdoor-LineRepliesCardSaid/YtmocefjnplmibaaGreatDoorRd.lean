/- LineRequests; the line of a reply, LineReplies. -/
import Derived.Test.YtmocefjnplmibaaGreatDoorRc
namespace Go.Proofs.YtmocefjnplmibaaGreatDoor
open Go Go.Den
set_option maxRecDepth 100000

theorem LRequests_run (r : Req) (hr : ReqOk r) : RR none 6 [reqA r] [] = some (.ret (yes true), []) := by
  refine run_of_body ((eq_LRequests RR LL r.kind r.conn r.serial r.tag r.limit r.flag r.name r.key r.ex.name r.ex.kind r.ex.alt r.sp.name r.sp.max r.sp.ttl r.sp.att r.sp.dead r.bd.exch r.bd.queue r.bd.key r.bd.all r.bd.mtch
      r.msg.topic r.msg.payload r.msg.level r.msg.retain r.msg.prio r.msg.expires r.msg.sender r.msg.seq r.msg.props).trans (bind_run (small_run r) (cond_run rfl (cond_run (okB _) ?_))))
  rw [valB]
  cases smallR r with
  | false => rfl
  | true =>
    refine cond_not rfl (bind_run (Request_run r hr.mtch.1 hr.props.1) (cond_run rfl (cond_run (ok24 _ _) (bind_run (RRequest_run r hr.mtch.1 hr.props.1) (cond_run rfl (cond_run (ok24 _ _) (cond_run ?_ rfl)))))))
    show ((bif strEq _ _ then checkE r == checkE r else false) == true) = true
    rw [strEq_self]
    simp

/-! ### Replies -/

structure Rep where
  kind : Int
  conn : Int
  serial : Int
  code : Int
  count : Int
  owner : Int
  tag : Int
  again : Bool
  name : S8
  number : Int
  arrived : Int
  attempts : Int
  msg : Msg
abbrev repA (r : Rep) : AV := .agg [num r.kind, num r.conn, num r.serial, num r.code, num r.count, num r.owner, num r.tag, yes r.again, str r.name, num r.number, num r.arrived, num r.attempts,
  str r.msg.topic, str r.msg.payload, num r.msg.level, yes r.msg.retain, num r.msg.prio, num r.msg.expires, str r.msg.sender, num r.msg.seq, prp r.msg.props]
structure RepOk (r : Rep) : Prop where
  nums : ∀ n ∈ [r.kind, r.conn, r.serial, r.code, r.count, r.owner, r.tag, r.number, r.arrived, r.attempts, r.msg.level, r.msg.prio, r.msg.expires, r.msg.seq], I64 n
  props : PropsOk r.msg.props

def doneF (r : Rep) : List S8 := [[100, 111, 110, 101], Lib.itoa r.conn, Lib.itoa r.serial, Lib.itoa r.code, Lib.itoa r.count]
def delF (r : Rep) : List S8 := [[100, 101, 108, 105, 118, 101, 114], Lib.itoa r.conn, Lib.itoa r.owner, Lib.itoa r.tag, truS r.again, mayS r.name, Lib.itoa r.number, Lib.itoa r.arrived, Lib.itoa r.attempts] ++ mfS r.msg
def repS (r : Rep) : S8 := bif r.kind == 1 then joinS (doneF r) else bif r.kind == 2 then joinS (delF r) else []

theorem doneF_le {r : Rep} (h : RepOk r) : ∀ z ∈ doneF r, z.length ≤ 2600 := by
  intro z hz
  unfold doneF at hz
  simp only [List.mem_cons, List.not_mem_nil, or_false] at hz
  rcases hz with rfl | rfl | rfl | rfl | rfl
  · decide
  · exact itoa_le (h.nums _ (by simp))
  · exact itoa_le (h.nums _ (by simp))
  · exact itoa_le (h.nums _ (by simp))
  · exact itoa_le (h.nums _ (by simp))
theorem delF_le {r : Rep} (h : RepOk r) (hn : r.name.length ≤ 500) (hm : MildM r.msg) : ∀ z ∈ delF r, z.length ≤ 2600 := by
  intro z hz
  rcases List.mem_append.1 hz with hz | hz
  · simp only [List.mem_cons, List.not_mem_nil, or_false] at hz
    rcases hz with rfl | rfl | rfl | rfl | rfl | rfl | rfl | rfl | rfl
    · decide
    · exact itoa_le (h.nums _ (by simp))
    · exact itoa_le (h.nums _ (by simp))
    · exact itoa_le (h.nums _ (by simp))
    · exact tru_le _
    · exact may_le hn
    · exact itoa_le (h.nums _ (by simp))
    · exact itoa_le (h.nums _ (by simp))
    · exact itoa_le (h.nums _ (by simp))
  · exact hm.le z hz
theorem delF_len {r : Rep} (hm : MildM r.msg) : (delF r).length ≤ 40 := by
  have := hm.len
  unfold delF
  rw [List.length_append]
  show 9 + (mfS r.msg).length ≤ 40
  omega

theorem fin_str {X : List E} {L : List S8} (hX : X = strs L) (hn : L.length ≤ 40) (hl : ∀ x ∈ L, x.length ≤ 2600) :
    (bif decide ((Lib.join (List.map E.toStr X) ([32] : List UInt8)).length ≤ 140737488355328) then some (Res.ret (str (Lib.join (List.map E.toStr X) ([32] : List UInt8))), ([] : Heap)) else none) = some (.ret (str (joinS L)), []) := by
  subst hX
  rw [strs_back]
  have h1 := join_le 2600 L hl
  have h2 := Nat.mul_le_mul_right 2601 hn
  exact cond_run (dec_yes (by show (joinS L).length ≤ _; omega)) rfl
theorem fin_str2 {X : List E} {P L : List S8} (hX : X ++ strs P = strs L) (hn : L.length ≤ 40) (hl : ∀ x ∈ L, x.length ≤ 2600) :
    (bif decide ((X.length + (strs P).length) * 16 ≤ 140737488355328) then bif (X ++ strs P).all isStr && decide ((X ++ strs P).length ≤ 140737488355328) && decide ((Lib.join (List.map E.toStr (X ++ strs P)) ([32] : List UInt8)).length ≤ 140737488355328) then
      some (Res.ret (str (Lib.join (List.map E.toStr (X ++ strs P)) ([32] : List UInt8))), ([] : Heap)) else none else none) = some (.ret (str (joinS L)), []) := by
  have hlen : X.length + (strs P).length = L.length := by rw [← List.length_append, hX, List.length_map]
  rw [hX, hlen, strs_back, strs_all, List.length_map]
  have h1 := join_le 2600 L hl
  have h2 := Nat.mul_le_mul_right 2601 hn
  exact cond_run (dec_yes (by omega)) (cond_run (by rw [dec_yes (by omega), dec_yes (show (joinS L).length ≤ 140737488355328 by omega)]; rfl) rfl)
theorem fin_rstr {X : List E} {L : List S8} (hX : X = strs L) (hn : L.length ≤ 40) (hl : ∀ x ∈ L, x.length ≤ 2600) :
    ((RR none 54 [.e (.sl 9 X)] []).bind fun rh => bif okHeap [] rh.2 then bif okRes PP 9 rh.fst then some (Res.ret (str rh.fst.val.data.toStr), ([] : Heap)) else none else none) = some (.ret (str (joinS L)), []) := by
  subst hX
  exact callT (Line_run L 2600 (by decide) (by omega) hl) rfl
theorem fin_rstr2 {X : List E} {P L : List S8} (hX : X ++ strs P = strs L) (hn : L.length ≤ 40) (hl : ∀ x ∈ L, x.length ≤ 2600) :
    (bif decide ((X.length + (strs P).length) * 16 ≤ 140737488355328) then ((RR none 54 [.e (.sl 9 (X ++ strs P))] []).bind fun rh => bif okHeap [] rh.2 then bif okRes PP 9 rh.fst then some (Res.ret (str rh.fst.val.data.toStr), ([] : Heap)) else none else none) else none) =
      some (.ret (str (joinS L)), []) := by
  have hlen : X.length + (strs P).length = L.length := by rw [← List.length_append, hX, List.length_map]
  rw [hlen]
  exact cond_run (dec_yes (by omega)) (fin_rstr hX hn hl)

theorem Reply_run (r : Rep) (h : RepOk r) (hn : r.name.length ≤ 500) (hm : MildM r.msg) : RR none 25 [repA r] [] = some (.ret (str (repS r)), []) := by
  refine run_of_body ((eq_Reply RR LL r.kind r.conn r.serial r.code r.count r.owner r.tag r.again r.name r.number r.arrived r.attempts r.msg.topic r.msg.payload r.msg.level r.msg.retain r.msg.prio r.msg.expires r.msg.sender r.msg.seq r.msg.props).trans ?_)
  unfold repS
  have N : ∀ {n : Int}, n ∈ [r.kind, r.conn, r.serial, r.code, r.count, r.owner, r.tag, r.number, r.arrived, r.attempts, r.msg.level, r.msg.prio, r.msg.expires, r.msg.seq] → I64 n := fun hh => h.nums _ hh
  cases r.kind == 1 with
  | true => exact cond_run rfl (cond_run (rngI (N (by simp))) (cond_run (rngI (N (by simp))) (cond_run (rngI (N (by simp))) (cond_run (rngI (N (by simp))) (fin_str (L := doneF r) (by simp only [elems9]; rfl) (show 5 ≤ 40 by decide) (doneF_le h))))))
  | false =>
  refine cond_not rfl ?_
  cases r.kind == 2 with
  | false => rfl
  | true => exact cond_run rfl (cond_run (rngI (N (by simp))) (cond_run (rngI (N (by simp))) (cond_run (rngI (N (by simp))) (callT (truth_run _) (callT (maybe_run _) (cond_run (rngI (N (by simp))) (cond_run (rngI (N (by simp))) (cond_run (rngI (N (by simp)))
      (bind_run (mfields_run r.msg hm) (cond_run rfl (cond_run (okL _) (fin_str2 (P := mfS r.msg) (L := delF r) (by simp only [elems9]; show _ = List.map E.str ([_, _, _, _, _, _, _, _, _] ++ _); rw [List.map_append]; rfl) (delF_len hm) (delF_le h hn hm)))))))))))))
theorem RReply_run (r : Rep) (h : RepOk r) (hn : r.name.length ≤ 500) (hm : MildM r.msg) : RR none 26 [repA r] [] = some (.ret (str (repS r)), []) := by
  refine run_of_body ((eq_RReply RR LL r.kind r.conn r.serial r.code r.count r.owner r.tag r.again r.name r.number r.arrived r.attempts r.msg.topic r.msg.payload r.msg.level r.msg.retain r.msg.prio r.msg.expires r.msg.sender r.msg.seq r.msg.props).trans ?_)
  unfold repS
  have N : ∀ {n : Int}, n ∈ [r.kind, r.conn, r.serial, r.code, r.count, r.owner, r.tag, r.number, r.arrived, r.attempts, r.msg.level, r.msg.prio, r.msg.expires, r.msg.seq] → I64 n := fun hh => h.nums _ hh
  cases r.kind == 1 with
  | true => exact cond_run rfl (callT (Number_run (N (by simp))) (callT (Number_run (N (by simp))) (callT (Number_run (N (by simp))) (callT (Number_run (N (by simp))) (fin_rstr (L := doneF r) (by simp only [elems9]; rfl) (show 5 ≤ 40 by decide) (doneF_le h))))))
  | false =>
  refine cond_not rfl ?_
  cases r.kind == 2 with
  | false => exact cond_run rfl rfl
  | true => exact cond_not rfl (callT (Number_run (N (by simp))) (callT (Number_run (N (by simp))) (callT (Number_run (N (by simp))) (callT (Truth_run _) (callT (Optional_run _) (callT (Number_run (N (by simp))) (callT (Number_run (N (by simp))) (callT (Number_run (N (by simp)))
      (bind_run (RMessage_run r.msg hm) (cond_run rfl (cond_run (okL _) (fin_rstr2 (P := mfS r.msg) (L := delF r) (by simp only [elems9]; show _ = List.map E.str ([_, _, _, _, _, _, _, _, _] ++ _); rw [List.map_append]; rfl) (delF_len hm) (delF_le h hn hm)))))))))))))

theorem smallL_mild {l : List E} (h : smallL l = true) : Mild l := by
  unfold smallL at h
  by_cases k : (12 : Int) < l.length
  · rw [dec_yes k] at h; cases h
  · rw [dec_no k] at h
    refine ⟨by omega, fun x hx => ?_⟩
    have := List.all_eq_true.1 h x hx
    unfold smallP at this
    by_cases h1 : (400 : Int) < (pK x).length
    · rw [dec_yes h1] at this; cases this
    · by_cases h2 : (400 : Int) < (pV x).length
      · rw [dec_no h1, dec_yes h2] at this; cases this
      · omega
theorem smallM_mild {m : Msg} (h : smallM m = true) (hn : ∀ n ∈ [m.level, m.prio, m.expires, m.seq], I64 n) : MildM m := by
  unfold smallM at h
  by_cases h1 : (m.topic.length : Int) ≤ 400
  · by_cases h2 : (m.payload.length : Int) ≤ 400
    · by_cases h3 : (m.sender.length : Int) ≤ 400
      · rw [dec_yes h1, dec_yes h2, dec_yes h3] at h
        exact ⟨by omega, by omega, by omega, hn _ (by simp), hn _ (by simp), hn _ (by simp), hn _ (by simp), smallL_mild h⟩
      · rw [dec_yes h1, dec_yes h2, dec_no h3] at h; cases h
    · rw [dec_yes h1, dec_no h2] at h; cases h
  · rw [dec_no h1] at h; cases h
theorem LReplies_run (r : Rep) (h : RepOk r) : RR none 8 [repA r] [] = some (.ret (yes true), []) := by
  refine run_of_body ((eq_LReplies RR LL r.kind r.conn r.serial r.code r.count r.owner r.tag r.again r.name r.number r.arrived r.attempts r.msg.topic r.msg.payload r.msg.level r.msg.retain r.msg.prio r.msg.expires r.msg.sender r.msg.seq r.msg.props).trans ?_)
  cases hn : decide (400 < (r.name.length : Int)) with
  | true => rfl
  | false =>
    have hn := of_decide_eq_false hn
    refine cond_run rfl (bind_run (content_run r.msg) (cond_run rfl (cond_run (okB _) ?_)))
    rw [valB]
    cases hs : smallM r.msg with
    | false => rfl
    | true =>
      have hm := smallM_mild hs (fun n hx => h.nums n (by simp only [List.mem_cons, List.not_mem_nil, or_false] at hx ⊢; rcases hx with rfl | rfl | rfl | rfl <;> simp))
      refine cond_not rfl (callT (Reply_run r h (by omega) hm) (callT (RReply_run r h (by omega) hm) (cond_run ?_ rfl)))
      show (strEq (repS r) (repS r) == true) = true
      rw [strEq_self]; rfl

theorem flatP : flat Tryz.prog depth 49 = some [3, 3, 3, 3, 3, 3, 3, 4, 9, 3, 3, 3, 9, 9, 3, 4, 3, 3, 9, 3, 33] := by kernel_rfl
theorem aggP : isAggB Tryz.prog 49 = true := by kernel_rfl
theorem rep_param {es : List E} (h : ParamTy Tryz.prog 49 es) : ∃ r : Rep, RepOk r ∧ argOf Tryz.prog 49 es = repA r := by
  have h := h.inv flatP
  obtain ⟨x0, _, rfl, h0, h⟩ := h.cons_inv
  obtain ⟨x1, _, rfl, h1, h⟩ := h.cons_inv
  obtain ⟨x2, _, rfl, h2, h⟩ := h.cons_inv
  obtain ⟨x3, _, rfl, h3, h⟩ := h.cons_inv
  obtain ⟨x4, _, rfl, h4, h⟩ := h.cons_inv
  obtain ⟨x5, _, rfl, h5, h⟩ := h.cons_inv
  obtain ⟨x6, _, rfl, h6, h⟩ := h.cons_inv
  obtain ⟨x7, _, rfl, h7, h⟩ := h.cons_inv
  obtain ⟨x8, _, rfl, h8, h⟩ := h.cons_inv
  obtain ⟨x9, _, rfl, h9, h⟩ := h.cons_inv
  obtain ⟨x10, _, rfl, h10, h⟩ := h.cons_inv
  obtain ⟨x11, _, rfl, h11, h⟩ := h.cons_inv
  obtain ⟨x12, _, rfl, h12, h⟩ := h.cons_inv
  obtain ⟨x13, _, rfl, h13, h⟩ := h.cons_inv
  obtain ⟨x14, _, rfl, h14, h⟩ := h.cons_inv
  obtain ⟨x15, _, rfl, h15, h⟩ := h.cons_inv
  obtain ⟨x16, _, rfl, h16, h⟩ := h.cons_inv
  obtain ⟨x17, _, rfl, h17, h⟩ := h.cons_inv
  obtain ⟨x18, _, rfl, h18, h⟩ := h.cons_inv
  obtain ⟨x19, _, rfl, h19, h⟩ := h.cons_inv
  obtain ⟨x20, _, rfl, h20, h⟩ := h.cons_inv
  cases h.nil_inv
  obtain ⟨v0, rfl, k0⟩ := i64_inv h0
  obtain ⟨v1, rfl, k1⟩ := i64_inv h1
  obtain ⟨v2, rfl, k2⟩ := i64_inv h2
  obtain ⟨v3, rfl, k3⟩ := i64_inv h3
  obtain ⟨v4, rfl, k4⟩ := i64_inv h4
  obtain ⟨v5, rfl, k5⟩ := i64_inv h5
  obtain ⟨v6, rfl, k6⟩ := i64_inv h6
  obtain ⟨v7, rfl⟩ := h7.bool_inv und4
  obtain ⟨v8, rfl, k8⟩ := h8.str_inv und9
  obtain ⟨v9, rfl, k9⟩ := i64_inv h9
  obtain ⟨v10, rfl, k10⟩ := i64_inv h10
  obtain ⟨v11, rfl, k11⟩ := i64_inv h11
  obtain ⟨v12, rfl, k12⟩ := h12.str_inv und9
  obtain ⟨v13, rfl, k13⟩ := h13.str_inv und9
  obtain ⟨v14, rfl, k14⟩ := i64_inv h14
  obtain ⟨v15, rfl⟩ := h15.bool_inv und4
  obtain ⟨v16, rfl, k16⟩ := i64_inv h16
  obtain ⟨v17, rfl, k17⟩ := i64_inv h17
  obtain ⟨v18, rfl, k18⟩ := h18.str_inv und9
  obtain ⟨v19, rfl, k19⟩ := i64_inv h19
  obtain ⟨v20, rfl, k20⟩ := props_inv h20
  refine ⟨⟨v0, v1, v2, v3, v4, v5, v6, v7, v8, v9, v10, v11, ⟨v12, v13, v14, v15, v16, v17, v18, v19, v20⟩⟩, ⟨?_, k20⟩, ?_⟩
  · intro s hs
    simp only [List.mem_cons, List.not_mem_nil, or_false] at hs
    rcases hs with rfl | rfl | rfl | rfl | rfl | rfl | rfl | rfl | rfl | rfl | rfl | rfl | rfl | rfl
    · exact k0
    · exact k1
    · exact k2
    · exact k3
    · exact k4
    · exact k5
    · exact k6
    · exact k9
    · exact k10
    · exact k11
    · exact k14
    · exact k16
    · exact k17
    · exact k19
  · unfold argOf
    rw [aggP]
    rfl

end Go.Proofs.YtmocefjnplmibaaGreatDoor
