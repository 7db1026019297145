/- The line of a request: the program's and the reference's. -/
import Derived.Test.YtmocefjnplmibaaGreatDoorRb
import Derived.Test.YtmocefjnplmibaaGreatDoorDn6
namespace Go.Proofs.YtmocefjnplmibaaGreatDoor
open Go Go.Den
set_option maxRecDepth 100000

/-! ### The fields of a line -/

def restF (r : Req) : List S8 :=
  bif r.kind == 1 then [r.ex.name, exwS r.ex.kind, mayS r.ex.alt]
  else bif r.kind == 2 then [r.sp.name, Lib.itoa r.sp.max, Lib.itoa r.sp.ttl, Lib.itoa r.sp.att, mayS r.sp.dead]
  else bif (bif r.kind == 3 then true else r.kind == 4) then [r.bd.exch, r.bd.queue, quoS r.bd.key, truS r.bd.all] ++ r.bd.mtch.map prpS
  else bif r.kind == 5 then [mayS r.name, quoS r.key] ++ mfS r.msg
  else bif r.kind == 6 then [Lib.itoa r.tag, r.name, Lib.itoa r.limit]
  else bif r.kind == 7 then [Lib.itoa r.tag]
  else bif (bif r.kind == 8 then true else r.kind == 9) then [Lib.itoa r.tag, truS r.flag]
  else bif decide (13 ≤ r.kind) then [r.name] else []
def reqF (r : Req) : List S8 := [wordS r.kind, Lib.itoa r.conn, Lib.itoa r.serial] ++ restF r
def reqRes (r : Req) : AV := .tup [str (bif checkE r == 0 then joinS (reqF r) else []), num (checkE r)]

theorem i64_rng {n m : Int} (h : rng n m = true) (hm : m ≤ 9223372036854775807) : I64 n := by
  have := rng_iff.1 h
  exact ⟨by omega, by omega⟩
theorem i64_btw {n l m : Int} (h : btw n l m = true) (hl : 0 ≤ l) (hm : m ≤ 9223372036854775807) : I64 n := by
  have := btw_iff.1 h
  exact ⟨by omega, by omega⟩
theorem mild_of {l : List E} (h : propsE l = 0) : Mild l := by
  obtain ⟨h1, h2⟩ := props_ok h
  refine ⟨by omega, fun x hx => ?_⟩
  obtain ⟨i, hi, rfl⟩ := List.mem_iff_getElem.1 hx
  have := h2 i hi
  rw [getD_at hi] at this
  have hk := keyS_iff this.1
  exact ⟨by omega, by omega⟩
theorem mildM_of {m : Msg} (h : MsgFine m) : MildM m := by
  have h1 := valid_iff h.topic
  have h2 := h.payload
  have h3 := optS_len h.sender
  exact ⟨by omega, by omega, by omega, i64_rng h.level (by omega), i64_rng h.prio (by omega), i64_rng h.expires (by omega), i64_rng h.seq (by omega), mild_of h.props⟩
theorem name_le {s : S8} (h : nameS s = true) : s.length ≤ 2600 := by have := (name_iff h).2.1; omega
theorem word_le (k : Int) (h : btw k 1 15 = true) : (wordS k).length ≤ 2600 := by
  rcases kinds h with rfl | rfl | rfl | rfl | rfl | rfl | rfl | rfl | rfl | rfl | rfl | rfl | rfl | rfl | rfl <;> decide
theorem exw_le (k : Int) (h : btw k 1 4 = true) : (exwS k).length ≤ 2600 := by
  have := btw_iff.1 h
  rcases (by omega : k = 1 ∨ k = 2 ∨ k = 3 ∨ k = 4) with rfl | rfl | rfl | rfl <;> decide
theorem keyq_le {s : S8} (h : keyE s = 0) : (quoS s).length ≤ 2600 := quo_le (by have := (key_ok h).1; omega)

theorem fin_one {X : List E} {L : List S8} (hX : X = strs L) (hn : L.length ≤ 40) (hl : ∀ x ∈ L, x.length ≤ 2600) :
    (bif decide ((Lib.join (List.map E.toStr X) ([32] : List UInt8)).length ≤ 140737488355328) then some (Res.ret (AV.tup [str (Lib.join (List.map E.toStr X) ([32] : List UInt8)), num 0]), ([] : Heap)) else none) = some (.ret (.tup [str (joinS L), num 0]), []) := by
  subst hX
  rw [strs_back]
  have h1 := join_le 2600 L hl
  have h2 := Nat.mul_le_mul_right 2601 hn
  exact cond_run (dec_yes (by show (joinS L).length ≤ _; omega)) rfl
theorem fin_two {X : List E} {P L : List S8} (hX : X ++ strs P = strs L) (hn : L.length ≤ 40) (hl : ∀ x ∈ L, x.length ≤ 2600) :
    (bif decide ((X.length + (strs P).length) * 16 ≤ 140737488355328) then bif (X ++ strs P).all isStr && decide ((X ++ strs P).length ≤ 140737488355328) && decide ((Lib.join (List.map E.toStr (X ++ strs P)) ([32] : List UInt8)).length ≤ 140737488355328) then
      some (Res.ret (AV.tup [str (Lib.join (List.map E.toStr (X ++ strs P)) ([32] : List UInt8)), num 0]), ([] : Heap)) else none else none) = some (.ret (.tup [str (joinS L), num 0]), []) := by
  have hlen : X.length + (strs P).length = L.length := by rw [← List.length_append, hX, List.length_map]
  rw [hX, hlen, strs_back, strs_all, List.length_map]
  have h1 := join_le 2600 L hl
  have h2 := Nat.mul_le_mul_right 2601 hn
  exact cond_run (dec_yes (by omega)) (cond_run (by rw [dec_yes (by omega), dec_yes (show (joinS L).length ≤ 140737488355328 by omega)]; rfl) rfl)
/-! ### The fields are short -/

theorem reqF_le1 {c s t l : Int} {f : Bool} {n y : S8} {x : Exch} {q : Spc} {b : Bnd} {m : Msg} (hf : ReqFine ⟨1, c, s, t, l, f, n, y, x, q, b, m⟩) : (reqF ⟨1, c, s, t, l, f, n, y, x, q, b, m⟩).length ≤ 40 ∧ ∀ z ∈ reqF ⟨1, c, s, t, l, f, n, y, x, q, b, m⟩, z.length ≤ 2600 := by
  obtain ⟨e1, e2, e3⟩ := ex_ok (x := x) hf.inner
  refine ⟨(by decide : 6 ≤ 40), fun z hz => ?_⟩
  have hz : z ∈ ([wordS 1, Lib.itoa c, Lib.itoa s, x.name, exwS x.kind, mayS x.alt] : List S8) := hz
  simp only [List.mem_cons, List.not_mem_nil, or_false] at hz
  rcases hz with rfl | rfl | rfl | rfl | rfl | rfl
  · exact word_le 1 rfl
  · exact itoa_le (i64_rng hf.conn (by decide))
  · exact itoa_le (i64_rng hf.serial (by decide))
  · exact name_le e1
  · exact exw_le _ e2
  · exact may_le (by have := optS_len e3; change x.alt.length ≤ 16 at this; omega)
theorem reqF_le2 {c s t l : Int} {f : Bool} {n y : S8} {x : Exch} {q : Spc} {b : Bnd} {m : Msg} (hf : ReqFine ⟨2, c, s, t, l, f, n, y, x, q, b, m⟩) : (reqF ⟨2, c, s, t, l, f, n, y, x, q, b, m⟩).length ≤ 40 ∧ ∀ z ∈ reqF ⟨2, c, s, t, l, f, n, y, x, q, b, m⟩, z.length ≤ 2600 := by
  obtain ⟨e1, e2, e3, e4, e5⟩ := sp_ok (x := q) hf.inner
  refine ⟨(by decide : 8 ≤ 40), fun z hz => ?_⟩
  have hz : z ∈ ([wordS 2, Lib.itoa c, Lib.itoa s, q.name, Lib.itoa q.max, Lib.itoa q.ttl, Lib.itoa q.att, mayS q.dead] : List S8) := hz
  simp only [List.mem_cons, List.not_mem_nil, or_false] at hz
  rcases hz with rfl | rfl | rfl | rfl | rfl | rfl | rfl | rfl
  · exact word_le 2 rfl
  · exact itoa_le (i64_rng hf.conn (by decide))
  · exact itoa_le (i64_rng hf.serial (by decide))
  · exact name_le e1
  · exact itoa_le (i64_btw e2 (by decide) (by decide))
  · exact itoa_le (i64_rng e3 (by decide))
  · exact itoa_le (i64_rng e4 (by decide))
  · exact may_le (by have := optS_len e5; omega)
theorem reqF_le3 {c s t l : Int} {f : Bool} {n y : S8} {x : Exch} {q : Spc} {b : Bnd} {m : Msg} (hf : ReqFine ⟨3, c, s, t, l, f, n, y, x, q, b, m⟩) : (reqF ⟨3, c, s, t, l, f, n, y, x, q, b, m⟩).length ≤ 40 ∧ ∀ z ∈ reqF ⟨3, c, s, t, l, f, n, y, x, q, b, m⟩, z.length ≤ 2600 := by
  obtain ⟨e1, e2, e3, e4⟩ := bd_ok (x := b) hf.inner
  have hm := mild_of e4
  have hl := hm.1
  refine ⟨?_, fun z hz => ?_⟩
  · show ([wordS 3, Lib.itoa c, Lib.itoa s] ++ ([b.exch, b.queue, quoS b.key, truS b.all] ++ b.mtch.map prpS)).length ≤ 40
    rw [List.length_append, List.length_append, List.length_map]
    show 3 + (4 + _) ≤ 40
    omega
  · rcases List.mem_append.1 (show z ∈ [wordS 3, Lib.itoa c, Lib.itoa s] ++ ([b.exch, b.queue, quoS b.key, truS b.all] ++ b.mtch.map prpS) from hz) with hz | hz
    · simp only [List.mem_cons, List.not_mem_nil, or_false] at hz
      rcases hz with rfl | rfl | rfl
      · exact word_le 3 rfl
      · exact itoa_le (i64_rng hf.conn (by decide))
      · exact itoa_le (i64_rng hf.serial (by decide))
    · rcases List.mem_append.1 hz with hz | hz
      · simp only [List.mem_cons, List.not_mem_nil, or_false] at hz
        rcases hz with rfl | rfl | rfl | rfl
        · exact name_le e1
        · exact name_le e2
        · exact keyq_le e3
        · exact tru_le _
      · exact hm.prp z hz
theorem reqF_le4 {c s t l : Int} {f : Bool} {n y : S8} {x : Exch} {q : Spc} {b : Bnd} {m : Msg} (hf : ReqFine ⟨4, c, s, t, l, f, n, y, x, q, b, m⟩) : (reqF ⟨4, c, s, t, l, f, n, y, x, q, b, m⟩).length ≤ 40 ∧ ∀ z ∈ reqF ⟨4, c, s, t, l, f, n, y, x, q, b, m⟩, z.length ≤ 2600 := by
  obtain ⟨e1, e2, e3, e4⟩ := bd_ok (x := b) hf.inner
  have hm := mild_of e4
  have hl := hm.1
  refine ⟨?_, fun z hz => ?_⟩
  · show ([wordS 4, Lib.itoa c, Lib.itoa s] ++ ([b.exch, b.queue, quoS b.key, truS b.all] ++ b.mtch.map prpS)).length ≤ 40
    rw [List.length_append, List.length_append, List.length_map]
    show 3 + (4 + _) ≤ 40
    omega
  · rcases List.mem_append.1 (show z ∈ [wordS 4, Lib.itoa c, Lib.itoa s] ++ ([b.exch, b.queue, quoS b.key, truS b.all] ++ b.mtch.map prpS) from hz) with hz | hz
    · simp only [List.mem_cons, List.not_mem_nil, or_false] at hz
      rcases hz with rfl | rfl | rfl
      · exact word_le 4 rfl
      · exact itoa_le (i64_rng hf.conn (by decide))
      · exact itoa_le (i64_rng hf.serial (by decide))
    · rcases List.mem_append.1 hz with hz | hz
      · simp only [List.mem_cons, List.not_mem_nil, or_false] at hz
        rcases hz with rfl | rfl | rfl | rfl
        · exact name_le e1
        · exact name_le e2
        · exact keyq_le e3
        · exact tru_le _
      · exact hm.prp z hz
theorem reqF_le5 {c s t l : Int} {f : Bool} {n y : S8} {x : Exch} {q : Spc} {b : Bnd} {m : Msg} (hf : ReqFine ⟨5, c, s, t, l, f, n, y, x, q, b, m⟩) : (reqF ⟨5, c, s, t, l, f, n, y, x, q, b, m⟩).length ≤ 40 ∧ ∀ z ∈ reqF ⟨5, c, s, t, l, f, n, y, x, q, b, m⟩, z.length ≤ 2600 := by
  obtain ⟨e1, e2, e3⟩ := pub_ok (r := ⟨5, c, s, t, l, f, n, y, x, q, b, m⟩) hf.inner
  have hm := mildM_of e3
  have hl := hm.len
  refine ⟨?_, fun z hz => ?_⟩
  · show ([wordS 5, Lib.itoa c, Lib.itoa s] ++ ([mayS n, quoS y] ++ mfS m)).length ≤ 40
    rw [List.length_append, List.length_append]
    show 3 + (2 + (mfS m).length) ≤ 40
    have hl : (mfS m).length ≤ 28 := hl
    omega
  · rcases List.mem_append.1 (show z ∈ [wordS 5, Lib.itoa c, Lib.itoa s] ++ ([mayS n, quoS y] ++ mfS m) from hz) with hz | hz
    · simp only [List.mem_cons, List.not_mem_nil, or_false] at hz
      rcases hz with rfl | rfl | rfl
      · exact word_le 5 rfl
      · exact itoa_le (i64_rng hf.conn (by decide))
      · exact itoa_le (i64_rng hf.serial (by decide))
    · rcases List.mem_append.1 hz with hz | hz
      · simp only [List.mem_cons, List.not_mem_nil, or_false] at hz
        rcases hz with rfl | rfl
        · exact may_le (by have := optS_len e1; change n.length ≤ 16 at this; omega)
        · exact keyq_le e2
      · exact hm.le z hz
theorem reqF_le6 {c s t l : Int} {f : Bool} {n y : S8} {x : Exch} {q : Spc} {b : Bnd} {m : Msg} (hf : ReqFine ⟨6, c, s, t, l, f, n, y, x, q, b, m⟩) : (reqF ⟨6, c, s, t, l, f, n, y, x, q, b, m⟩).length ≤ 40 ∧ ∀ z ∈ reqF ⟨6, c, s, t, l, f, n, y, x, q, b, m⟩, z.length ≤ 2600 := by
  have e1 := nm_ok (r := ⟨6, c, s, t, l, f, n, y, x, q, b, m⟩) hf.inner
  refine ⟨(by decide : 6 ≤ 40), fun z hz => ?_⟩
  have hz : z ∈ ([wordS 6, Lib.itoa c, Lib.itoa s, Lib.itoa t, n, Lib.itoa l] : List S8) := hz
  simp only [List.mem_cons, List.not_mem_nil, or_false] at hz
  rcases hz with rfl | rfl | rfl | rfl | rfl | rfl
  · exact word_le 6 rfl
  · exact itoa_le (i64_rng hf.conn (by decide))
  · exact itoa_le (i64_rng hf.serial (by decide))
  · exact itoa_le (i64_rng hf.tag (by decide))
  · exact name_le e1
  · exact itoa_le (i64_rng hf.limit (by decide))
theorem reqF_le7 {c s t l : Int} {f : Bool} {n y : S8} {x : Exch} {q : Spc} {b : Bnd} {m : Msg} (hf : ReqFine ⟨7, c, s, t, l, f, n, y, x, q, b, m⟩) : (reqF ⟨7, c, s, t, l, f, n, y, x, q, b, m⟩).length ≤ 40 ∧ ∀ z ∈ reqF ⟨7, c, s, t, l, f, n, y, x, q, b, m⟩, z.length ≤ 2600 := by
  refine ⟨(by decide : 4 ≤ 40), fun z hz => ?_⟩
  have hz : z ∈ ([wordS 7, Lib.itoa c, Lib.itoa s, Lib.itoa t] : List S8) := hz
  simp only [List.mem_cons, List.not_mem_nil, or_false] at hz
  rcases hz with rfl | rfl | rfl | rfl
  · exact word_le 7 rfl
  · exact itoa_le (i64_rng hf.conn (by decide))
  · exact itoa_le (i64_rng hf.serial (by decide))
  · exact itoa_le (i64_rng hf.tag (by decide))
theorem reqF_le8 {c s t l : Int} {f : Bool} {n y : S8} {x : Exch} {q : Spc} {b : Bnd} {m : Msg} (hf : ReqFine ⟨8, c, s, t, l, f, n, y, x, q, b, m⟩) : (reqF ⟨8, c, s, t, l, f, n, y, x, q, b, m⟩).length ≤ 40 ∧ ∀ z ∈ reqF ⟨8, c, s, t, l, f, n, y, x, q, b, m⟩, z.length ≤ 2600 := by
  refine ⟨(by decide : 5 ≤ 40), fun z hz => ?_⟩
  have hz : z ∈ ([wordS 8, Lib.itoa c, Lib.itoa s, Lib.itoa t, truS f] : List S8) := hz
  simp only [List.mem_cons, List.not_mem_nil, or_false] at hz
  rcases hz with rfl | rfl | rfl | rfl | rfl
  · exact word_le 8 rfl
  · exact itoa_le (i64_rng hf.conn (by decide))
  · exact itoa_le (i64_rng hf.serial (by decide))
  · exact itoa_le (i64_rng hf.tag (by decide))
  · exact tru_le _
theorem reqF_le9 {c s t l : Int} {f : Bool} {n y : S8} {x : Exch} {q : Spc} {b : Bnd} {m : Msg} (hf : ReqFine ⟨9, c, s, t, l, f, n, y, x, q, b, m⟩) : (reqF ⟨9, c, s, t, l, f, n, y, x, q, b, m⟩).length ≤ 40 ∧ ∀ z ∈ reqF ⟨9, c, s, t, l, f, n, y, x, q, b, m⟩, z.length ≤ 2600 := by
  refine ⟨(by decide : 5 ≤ 40), fun z hz => ?_⟩
  have hz : z ∈ ([wordS 9, Lib.itoa c, Lib.itoa s, Lib.itoa t, truS f] : List S8) := hz
  simp only [List.mem_cons, List.not_mem_nil, or_false] at hz
  rcases hz with rfl | rfl | rfl | rfl | rfl
  · exact word_le 9 rfl
  · exact itoa_le (i64_rng hf.conn (by decide))
  · exact itoa_le (i64_rng hf.serial (by decide))
  · exact itoa_le (i64_rng hf.tag (by decide))
  · exact tru_le _
theorem reqF_le10 {c s t l : Int} {f : Bool} {n y : S8} {x : Exch} {q : Spc} {b : Bnd} {m : Msg} (hf : ReqFine ⟨10, c, s, t, l, f, n, y, x, q, b, m⟩) : (reqF ⟨10, c, s, t, l, f, n, y, x, q, b, m⟩).length ≤ 40 ∧ ∀ z ∈ reqF ⟨10, c, s, t, l, f, n, y, x, q, b, m⟩, z.length ≤ 2600 := by
  refine ⟨(by decide : 3 ≤ 40), fun z hz => ?_⟩
  have hz : z ∈ ([wordS 10, Lib.itoa c, Lib.itoa s] : List S8) := hz
  simp only [List.mem_cons, List.not_mem_nil, or_false] at hz
  rcases hz with rfl | rfl | rfl
  · exact word_le 10 rfl
  · exact itoa_le (i64_rng hf.conn (by decide))
  · exact itoa_le (i64_rng hf.serial (by decide))
theorem reqF_le11 {c s t l : Int} {f : Bool} {n y : S8} {x : Exch} {q : Spc} {b : Bnd} {m : Msg} (hf : ReqFine ⟨11, c, s, t, l, f, n, y, x, q, b, m⟩) : (reqF ⟨11, c, s, t, l, f, n, y, x, q, b, m⟩).length ≤ 40 ∧ ∀ z ∈ reqF ⟨11, c, s, t, l, f, n, y, x, q, b, m⟩, z.length ≤ 2600 := by
  refine ⟨(by decide : 3 ≤ 40), fun z hz => ?_⟩
  have hz : z ∈ ([wordS 11, Lib.itoa c, Lib.itoa s] : List S8) := hz
  simp only [List.mem_cons, List.not_mem_nil, or_false] at hz
  rcases hz with rfl | rfl | rfl
  · exact word_le 11 rfl
  · exact itoa_le (i64_rng hf.conn (by decide))
  · exact itoa_le (i64_rng hf.serial (by decide))
theorem reqF_le12 {c s t l : Int} {f : Bool} {n y : S8} {x : Exch} {q : Spc} {b : Bnd} {m : Msg} (hf : ReqFine ⟨12, c, s, t, l, f, n, y, x, q, b, m⟩) : (reqF ⟨12, c, s, t, l, f, n, y, x, q, b, m⟩).length ≤ 40 ∧ ∀ z ∈ reqF ⟨12, c, s, t, l, f, n, y, x, q, b, m⟩, z.length ≤ 2600 := by
  refine ⟨(by decide : 3 ≤ 40), fun z hz => ?_⟩
  have hz : z ∈ ([wordS 12, Lib.itoa c, Lib.itoa s] : List S8) := hz
  simp only [List.mem_cons, List.not_mem_nil, or_false] at hz
  rcases hz with rfl | rfl | rfl
  · exact word_le 12 rfl
  · exact itoa_le (i64_rng hf.conn (by decide))
  · exact itoa_le (i64_rng hf.serial (by decide))
theorem reqF_le13 {c s t l : Int} {f : Bool} {n y : S8} {x : Exch} {q : Spc} {b : Bnd} {m : Msg} (hf : ReqFine ⟨13, c, s, t, l, f, n, y, x, q, b, m⟩) : (reqF ⟨13, c, s, t, l, f, n, y, x, q, b, m⟩).length ≤ 40 ∧ ∀ z ∈ reqF ⟨13, c, s, t, l, f, n, y, x, q, b, m⟩, z.length ≤ 2600 := by
  have e1 := nm_ok (r := ⟨13, c, s, t, l, f, n, y, x, q, b, m⟩) hf.inner
  refine ⟨(by decide : 4 ≤ 40), fun z hz => ?_⟩
  have hz : z ∈ ([wordS 13, Lib.itoa c, Lib.itoa s, n] : List S8) := hz
  simp only [List.mem_cons, List.not_mem_nil, or_false] at hz
  rcases hz with rfl | rfl | rfl | rfl
  · exact word_le 13 rfl
  · exact itoa_le (i64_rng hf.conn (by decide))
  · exact itoa_le (i64_rng hf.serial (by decide))
  · exact name_le e1
theorem reqF_le14 {c s t l : Int} {f : Bool} {n y : S8} {x : Exch} {q : Spc} {b : Bnd} {m : Msg} (hf : ReqFine ⟨14, c, s, t, l, f, n, y, x, q, b, m⟩) : (reqF ⟨14, c, s, t, l, f, n, y, x, q, b, m⟩).length ≤ 40 ∧ ∀ z ∈ reqF ⟨14, c, s, t, l, f, n, y, x, q, b, m⟩, z.length ≤ 2600 := by
  have e1 := nm_ok (r := ⟨14, c, s, t, l, f, n, y, x, q, b, m⟩) hf.inner
  refine ⟨(by decide : 4 ≤ 40), fun z hz => ?_⟩
  have hz : z ∈ ([wordS 14, Lib.itoa c, Lib.itoa s, n] : List S8) := hz
  simp only [List.mem_cons, List.not_mem_nil, or_false] at hz
  rcases hz with rfl | rfl | rfl | rfl
  · exact word_le 14 rfl
  · exact itoa_le (i64_rng hf.conn (by decide))
  · exact itoa_le (i64_rng hf.serial (by decide))
  · exact name_le e1
theorem reqF_le15 {c s t l : Int} {f : Bool} {n y : S8} {x : Exch} {q : Spc} {b : Bnd} {m : Msg} (hf : ReqFine ⟨15, c, s, t, l, f, n, y, x, q, b, m⟩) : (reqF ⟨15, c, s, t, l, f, n, y, x, q, b, m⟩).length ≤ 40 ∧ ∀ z ∈ reqF ⟨15, c, s, t, l, f, n, y, x, q, b, m⟩, z.length ≤ 2600 := by
  have e1 := nm_ok (r := ⟨15, c, s, t, l, f, n, y, x, q, b, m⟩) hf.inner
  refine ⟨(by decide : 4 ≤ 40), fun z hz => ?_⟩
  have hz : z ∈ ([wordS 15, Lib.itoa c, Lib.itoa s, n] : List S8) := hz
  simp only [List.mem_cons, List.not_mem_nil, or_false] at hz
  rcases hz with rfl | rfl | rfl | rfl
  · exact word_le 15 rfl
  · exact itoa_le (i64_rng hf.conn (by decide))
  · exact itoa_le (i64_rng hf.serial (by decide))
  · exact name_le e1

/-! ### The program -/

theorem Request_k1 (c s t l : Int) (f : Bool) (n y : S8) (x : Exch) (q : Spc) (b : Bnd) (m : Msg) (h1 : b.mtch.length ≤ maxLen) (h2 : m.props.length ≤ maxLen) : RR none 19 [reqA ⟨1, c, s, t, l, f, n, y, x, q, b, m⟩] [] = some (.ret (reqRes ⟨1, c, s, t, l, f, n, y, x, q, b, m⟩), []) := by
  refine run_of_body ((eq_RequestK1 RR LL c s t l f n y x.name x.kind x.alt q.name q.max q.ttl q.att q.dead b.exch b.queue b.key b.all b.mtch m.topic m.payload m.level m.retain m.prio m.expires m.sender m.seq m.props).trans (bind_run (Check_run ⟨1, c, s, t, l, f, n, y, x, q, b, m⟩ h1 h2) (cond_run rfl (cond_run (okN _) ?_))))
  rw [valN]
  unfold reqRes
  cases hc : checkE ⟨1, c, s, t, l, f, n, y, x, q, b, m⟩ == 0 with
  | false => exact cond_run rfl rfl
  | true =>
    have hc0 := eq_of_beq hc
    have hf := check_ok hc0
    have hb := reqF_le1 hf
    rw [hc0]
    obtain ⟨e1, e2, e3⟩ := ex_ok (x := x) hf.inner
    exact cond_not rfl (callT (word_run 1 rfl) (cond_run (rngI (i64_rng hf.conn (by decide))) (cond_run (rngI (i64_rng hf.serial (by decide))) (callT (exWord_run _ e2) (callT (maybe_run _) (fin_one (L := reqF ⟨1, c, s, t, l, f, n, y, x, q, b, m⟩) (by simp only [elems9]; rfl) hb.1 hb.2))))))
theorem Request_k2 (c s t l : Int) (f : Bool) (n y : S8) (x : Exch) (q : Spc) (b : Bnd) (m : Msg) (h1 : b.mtch.length ≤ maxLen) (h2 : m.props.length ≤ maxLen) : RR none 19 [reqA ⟨2, c, s, t, l, f, n, y, x, q, b, m⟩] [] = some (.ret (reqRes ⟨2, c, s, t, l, f, n, y, x, q, b, m⟩), []) := by
  refine run_of_body ((eq_RequestK2 RR LL c s t l f n y x.name x.kind x.alt q.name q.max q.ttl q.att q.dead b.exch b.queue b.key b.all b.mtch m.topic m.payload m.level m.retain m.prio m.expires m.sender m.seq m.props).trans (bind_run (Check_run ⟨2, c, s, t, l, f, n, y, x, q, b, m⟩ h1 h2) (cond_run rfl (cond_run (okN _) ?_))))
  rw [valN]
  unfold reqRes
  cases hc : checkE ⟨2, c, s, t, l, f, n, y, x, q, b, m⟩ == 0 with
  | false => exact cond_run rfl rfl
  | true =>
    have hc0 := eq_of_beq hc
    have hf := check_ok hc0
    have hb := reqF_le2 hf
    rw [hc0]
    obtain ⟨e1, e2, e3, e4, e5⟩ := sp_ok (x := q) hf.inner
    exact cond_not rfl (callT (word_run 2 rfl) (cond_run (rngI (i64_rng hf.conn (by decide))) (cond_run (rngI (i64_rng hf.serial (by decide))) (cond_run (rngI (i64_btw e2 (by decide) (by decide))) (cond_run (rngI (i64_rng e3 (by decide))) (cond_run (rngI (i64_rng e4 (by decide))) (callT (maybe_run _) (fin_one (L := reqF ⟨2, c, s, t, l, f, n, y, x, q, b, m⟩) (by simp only [elems9]; rfl) hb.1 hb.2))))))))
theorem Request_k3 (c s t l : Int) (f : Bool) (n y : S8) (x : Exch) (q : Spc) (b : Bnd) (m : Msg) (h1 : b.mtch.length ≤ maxLen) (h2 : m.props.length ≤ maxLen) : RR none 19 [reqA ⟨3, c, s, t, l, f, n, y, x, q, b, m⟩] [] = some (.ret (reqRes ⟨3, c, s, t, l, f, n, y, x, q, b, m⟩), []) := by
  refine run_of_body ((eq_RequestK3 RR LL c s t l f n y x.name x.kind x.alt q.name q.max q.ttl q.att q.dead b.exch b.queue b.key b.all b.mtch m.topic m.payload m.level m.retain m.prio m.expires m.sender m.seq m.props).trans (bind_run (Check_run ⟨3, c, s, t, l, f, n, y, x, q, b, m⟩ h1 h2) (cond_run rfl (cond_run (okN _) ?_))))
  rw [valN]
  unfold reqRes
  cases hc : checkE ⟨3, c, s, t, l, f, n, y, x, q, b, m⟩ == 0 with
  | false => exact cond_run rfl rfl
  | true =>
    have hc0 := eq_of_beq hc
    have hf := check_ok hc0
    have hb := reqF_le3 hf
    rw [hc0]
    obtain ⟨e1, e2, e3, e4⟩ := bd_ok (x := b) hf.inner
    exact cond_not rfl (callT (word_run 3 rfl) (cond_run (rngI (i64_rng hf.conn (by decide))) (cond_run (rngI (i64_rng hf.serial (by decide))) (callT (Quote_run (by have := (key_ok e3).1; omega)) (callT (truth_run _) (bind_run (properties_run _ (mild_of e4)) (cond_run rfl (cond_run (okL _) (fin_two (P := b.mtch.map prpS) (L := reqF ⟨3, c, s, t, l, f, n, y, x, q, b, m⟩) (by simp only [elems9]; show _ = List.map E.str ([_, _, _] ++ ([_, _, _, _] ++ _)); rw [List.map_append, List.map_append]; rfl) hb.1 hb.2)))))))))
theorem Request_k4 (c s t l : Int) (f : Bool) (n y : S8) (x : Exch) (q : Spc) (b : Bnd) (m : Msg) (h1 : b.mtch.length ≤ maxLen) (h2 : m.props.length ≤ maxLen) : RR none 19 [reqA ⟨4, c, s, t, l, f, n, y, x, q, b, m⟩] [] = some (.ret (reqRes ⟨4, c, s, t, l, f, n, y, x, q, b, m⟩), []) := by
  refine run_of_body ((eq_RequestK4 RR LL c s t l f n y x.name x.kind x.alt q.name q.max q.ttl q.att q.dead b.exch b.queue b.key b.all b.mtch m.topic m.payload m.level m.retain m.prio m.expires m.sender m.seq m.props).trans (bind_run (Check_run ⟨4, c, s, t, l, f, n, y, x, q, b, m⟩ h1 h2) (cond_run rfl (cond_run (okN _) ?_))))
  rw [valN]
  unfold reqRes
  cases hc : checkE ⟨4, c, s, t, l, f, n, y, x, q, b, m⟩ == 0 with
  | false => exact cond_run rfl rfl
  | true =>
    have hc0 := eq_of_beq hc
    have hf := check_ok hc0
    have hb := reqF_le4 hf
    rw [hc0]
    obtain ⟨e1, e2, e3, e4⟩ := bd_ok (x := b) hf.inner
    exact cond_not rfl (callT (word_run 4 rfl) (cond_run (rngI (i64_rng hf.conn (by decide))) (cond_run (rngI (i64_rng hf.serial (by decide))) (callT (Quote_run (by have := (key_ok e3).1; omega)) (callT (truth_run _) (bind_run (properties_run _ (mild_of e4)) (cond_run rfl (cond_run (okL _) (fin_two (P := b.mtch.map prpS) (L := reqF ⟨4, c, s, t, l, f, n, y, x, q, b, m⟩) (by simp only [elems9]; show _ = List.map E.str ([_, _, _] ++ ([_, _, _, _] ++ _)); rw [List.map_append, List.map_append]; rfl) hb.1 hb.2)))))))))
theorem Request_k5 (c s t l : Int) (f : Bool) (n y : S8) (x : Exch) (q : Spc) (b : Bnd) (m : Msg) (h1 : b.mtch.length ≤ maxLen) (h2 : m.props.length ≤ maxLen) : RR none 19 [reqA ⟨5, c, s, t, l, f, n, y, x, q, b, m⟩] [] = some (.ret (reqRes ⟨5, c, s, t, l, f, n, y, x, q, b, m⟩), []) := by
  refine run_of_body ((eq_RequestK5 RR LL c s t l f n y x.name x.kind x.alt q.name q.max q.ttl q.att q.dead b.exch b.queue b.key b.all b.mtch m.topic m.payload m.level m.retain m.prio m.expires m.sender m.seq m.props).trans (bind_run (Check_run ⟨5, c, s, t, l, f, n, y, x, q, b, m⟩ h1 h2) (cond_run rfl (cond_run (okN _) ?_))))
  rw [valN]
  unfold reqRes
  cases hc : checkE ⟨5, c, s, t, l, f, n, y, x, q, b, m⟩ == 0 with
  | false => exact cond_run rfl rfl
  | true =>
    have hc0 := eq_of_beq hc
    have hf := check_ok hc0
    have hb := reqF_le5 hf
    rw [hc0]
    obtain ⟨e1, e2, e3⟩ := pub_ok (r := ⟨5, c, s, t, l, f, n, y, x, q, b, m⟩) hf.inner
    exact cond_not rfl (callT (word_run 5 rfl) (cond_run (rngI (i64_rng hf.conn (by decide))) (cond_run (rngI (i64_rng hf.serial (by decide))) (callT (maybe_run _) (callT (Quote_run (by have := (key_ok e2).1; change y.length ≤ 64 at this; omega)) (bind_run (mfields_run m (mildM_of e3)) (cond_run rfl (cond_run (okL _) (fin_two (P := mfS m) (L := reqF ⟨5, c, s, t, l, f, n, y, x, q, b, m⟩) (by simp only [elems9]; show _ = List.map E.str ([_, _, _] ++ ([_, _] ++ _)); rw [List.map_append, List.map_append]; rfl) hb.1 hb.2)))))))))
theorem Request_k6 (c s t l : Int) (f : Bool) (n y : S8) (x : Exch) (q : Spc) (b : Bnd) (m : Msg) (h1 : b.mtch.length ≤ maxLen) (h2 : m.props.length ≤ maxLen) : RR none 19 [reqA ⟨6, c, s, t, l, f, n, y, x, q, b, m⟩] [] = some (.ret (reqRes ⟨6, c, s, t, l, f, n, y, x, q, b, m⟩), []) := by
  refine run_of_body ((eq_RequestK6 RR LL c s t l f n y x.name x.kind x.alt q.name q.max q.ttl q.att q.dead b.exch b.queue b.key b.all b.mtch m.topic m.payload m.level m.retain m.prio m.expires m.sender m.seq m.props).trans (bind_run (Check_run ⟨6, c, s, t, l, f, n, y, x, q, b, m⟩ h1 h2) (cond_run rfl (cond_run (okN _) ?_))))
  rw [valN]
  unfold reqRes
  cases hc : checkE ⟨6, c, s, t, l, f, n, y, x, q, b, m⟩ == 0 with
  | false => exact cond_run rfl rfl
  | true =>
    have hc0 := eq_of_beq hc
    have hf := check_ok hc0
    have hb := reqF_le6 hf
    rw [hc0]
    have e1 := nm_ok (r := ⟨6, c, s, t, l, f, n, y, x, q, b, m⟩) hf.inner
    exact cond_not rfl (callT (word_run 6 rfl) (cond_run (rngI (i64_rng hf.conn (by decide))) (cond_run (rngI (i64_rng hf.serial (by decide))) (cond_run (rngI (i64_rng hf.tag (by decide))) (cond_run (rngI (i64_rng hf.limit (by decide))) (fin_one (L := reqF ⟨6, c, s, t, l, f, n, y, x, q, b, m⟩) (by simp only [elems9]; rfl) hb.1 hb.2))))))
theorem Request_k7 (c s t l : Int) (f : Bool) (n y : S8) (x : Exch) (q : Spc) (b : Bnd) (m : Msg) (h1 : b.mtch.length ≤ maxLen) (h2 : m.props.length ≤ maxLen) : RR none 19 [reqA ⟨7, c, s, t, l, f, n, y, x, q, b, m⟩] [] = some (.ret (reqRes ⟨7, c, s, t, l, f, n, y, x, q, b, m⟩), []) := by
  refine run_of_body ((eq_RequestK7 RR LL c s t l f n y x.name x.kind x.alt q.name q.max q.ttl q.att q.dead b.exch b.queue b.key b.all b.mtch m.topic m.payload m.level m.retain m.prio m.expires m.sender m.seq m.props).trans (bind_run (Check_run ⟨7, c, s, t, l, f, n, y, x, q, b, m⟩ h1 h2) (cond_run rfl (cond_run (okN _) ?_))))
  rw [valN]
  unfold reqRes
  cases hc : checkE ⟨7, c, s, t, l, f, n, y, x, q, b, m⟩ == 0 with
  | false => exact cond_run rfl rfl
  | true =>
    have hc0 := eq_of_beq hc
    have hf := check_ok hc0
    have hb := reqF_le7 hf
    rw [hc0]
    exact cond_not rfl (callT (word_run 7 rfl) (cond_run (rngI (i64_rng hf.conn (by decide))) (cond_run (rngI (i64_rng hf.serial (by decide))) (cond_run (rngI (i64_rng hf.tag (by decide))) (fin_one (L := reqF ⟨7, c, s, t, l, f, n, y, x, q, b, m⟩) (by simp only [elems9]; rfl) hb.1 hb.2)))))
theorem Request_k8 (c s t l : Int) (f : Bool) (n y : S8) (x : Exch) (q : Spc) (b : Bnd) (m : Msg) (h1 : b.mtch.length ≤ maxLen) (h2 : m.props.length ≤ maxLen) : RR none 19 [reqA ⟨8, c, s, t, l, f, n, y, x, q, b, m⟩] [] = some (.ret (reqRes ⟨8, c, s, t, l, f, n, y, x, q, b, m⟩), []) := by
  refine run_of_body ((eq_RequestK8 RR LL c s t l f n y x.name x.kind x.alt q.name q.max q.ttl q.att q.dead b.exch b.queue b.key b.all b.mtch m.topic m.payload m.level m.retain m.prio m.expires m.sender m.seq m.props).trans (bind_run (Check_run ⟨8, c, s, t, l, f, n, y, x, q, b, m⟩ h1 h2) (cond_run rfl (cond_run (okN _) ?_))))
  rw [valN]
  unfold reqRes
  cases hc : checkE ⟨8, c, s, t, l, f, n, y, x, q, b, m⟩ == 0 with
  | false => exact cond_run rfl rfl
  | true =>
    have hc0 := eq_of_beq hc
    have hf := check_ok hc0
    have hb := reqF_le8 hf
    rw [hc0]
    exact cond_not rfl (callT (word_run 8 rfl) (cond_run (rngI (i64_rng hf.conn (by decide))) (cond_run (rngI (i64_rng hf.serial (by decide))) (cond_run (rngI (i64_rng hf.tag (by decide))) (callT (truth_run _) (fin_one (L := reqF ⟨8, c, s, t, l, f, n, y, x, q, b, m⟩) (by simp only [elems9]; rfl) hb.1 hb.2))))))
theorem Request_k9 (c s t l : Int) (f : Bool) (n y : S8) (x : Exch) (q : Spc) (b : Bnd) (m : Msg) (h1 : b.mtch.length ≤ maxLen) (h2 : m.props.length ≤ maxLen) : RR none 19 [reqA ⟨9, c, s, t, l, f, n, y, x, q, b, m⟩] [] = some (.ret (reqRes ⟨9, c, s, t, l, f, n, y, x, q, b, m⟩), []) := by
  refine run_of_body ((eq_RequestK9 RR LL c s t l f n y x.name x.kind x.alt q.name q.max q.ttl q.att q.dead b.exch b.queue b.key b.all b.mtch m.topic m.payload m.level m.retain m.prio m.expires m.sender m.seq m.props).trans (bind_run (Check_run ⟨9, c, s, t, l, f, n, y, x, q, b, m⟩ h1 h2) (cond_run rfl (cond_run (okN _) ?_))))
  rw [valN]
  unfold reqRes
  cases hc : checkE ⟨9, c, s, t, l, f, n, y, x, q, b, m⟩ == 0 with
  | false => exact cond_run rfl rfl
  | true =>
    have hc0 := eq_of_beq hc
    have hf := check_ok hc0
    have hb := reqF_le9 hf
    rw [hc0]
    exact cond_not rfl (callT (word_run 9 rfl) (cond_run (rngI (i64_rng hf.conn (by decide))) (cond_run (rngI (i64_rng hf.serial (by decide))) (cond_run (rngI (i64_rng hf.tag (by decide))) (callT (truth_run _) (fin_one (L := reqF ⟨9, c, s, t, l, f, n, y, x, q, b, m⟩) (by simp only [elems9]; rfl) hb.1 hb.2))))))
theorem Request_k10 (c s t l : Int) (f : Bool) (n y : S8) (x : Exch) (q : Spc) (b : Bnd) (m : Msg) (h1 : b.mtch.length ≤ maxLen) (h2 : m.props.length ≤ maxLen) : RR none 19 [reqA ⟨10, c, s, t, l, f, n, y, x, q, b, m⟩] [] = some (.ret (reqRes ⟨10, c, s, t, l, f, n, y, x, q, b, m⟩), []) := by
  refine run_of_body ((eq_RequestK10 RR LL c s t l f n y x.name x.kind x.alt q.name q.max q.ttl q.att q.dead b.exch b.queue b.key b.all b.mtch m.topic m.payload m.level m.retain m.prio m.expires m.sender m.seq m.props).trans (bind_run (Check_run ⟨10, c, s, t, l, f, n, y, x, q, b, m⟩ h1 h2) (cond_run rfl (cond_run (okN _) ?_))))
  rw [valN]
  unfold reqRes
  cases hc : checkE ⟨10, c, s, t, l, f, n, y, x, q, b, m⟩ == 0 with
  | false => exact cond_run rfl rfl
  | true =>
    have hc0 := eq_of_beq hc
    have hf := check_ok hc0
    have hb := reqF_le10 hf
    rw [hc0]
    exact cond_not rfl (callT (word_run 10 rfl) (cond_run (rngI (i64_rng hf.conn (by decide))) (cond_run (rngI (i64_rng hf.serial (by decide))) (fin_one (L := reqF ⟨10, c, s, t, l, f, n, y, x, q, b, m⟩) (by simp only [elems9]; rfl) hb.1 hb.2))))
theorem Request_k11 (c s t l : Int) (f : Bool) (n y : S8) (x : Exch) (q : Spc) (b : Bnd) (m : Msg) (h1 : b.mtch.length ≤ maxLen) (h2 : m.props.length ≤ maxLen) : RR none 19 [reqA ⟨11, c, s, t, l, f, n, y, x, q, b, m⟩] [] = some (.ret (reqRes ⟨11, c, s, t, l, f, n, y, x, q, b, m⟩), []) := by
  refine run_of_body ((eq_RequestK11 RR LL c s t l f n y x.name x.kind x.alt q.name q.max q.ttl q.att q.dead b.exch b.queue b.key b.all b.mtch m.topic m.payload m.level m.retain m.prio m.expires m.sender m.seq m.props).trans (bind_run (Check_run ⟨11, c, s, t, l, f, n, y, x, q, b, m⟩ h1 h2) (cond_run rfl (cond_run (okN _) ?_))))
  rw [valN]
  unfold reqRes
  cases hc : checkE ⟨11, c, s, t, l, f, n, y, x, q, b, m⟩ == 0 with
  | false => exact cond_run rfl rfl
  | true =>
    have hc0 := eq_of_beq hc
    have hf := check_ok hc0
    have hb := reqF_le11 hf
    rw [hc0]
    exact cond_not rfl (callT (word_run 11 rfl) (cond_run (rngI (i64_rng hf.conn (by decide))) (cond_run (rngI (i64_rng hf.serial (by decide))) (fin_one (L := reqF ⟨11, c, s, t, l, f, n, y, x, q, b, m⟩) (by simp only [elems9]; rfl) hb.1 hb.2))))
theorem Request_k12 (c s t l : Int) (f : Bool) (n y : S8) (x : Exch) (q : Spc) (b : Bnd) (m : Msg) (h1 : b.mtch.length ≤ maxLen) (h2 : m.props.length ≤ maxLen) : RR none 19 [reqA ⟨12, c, s, t, l, f, n, y, x, q, b, m⟩] [] = some (.ret (reqRes ⟨12, c, s, t, l, f, n, y, x, q, b, m⟩), []) := by
  refine run_of_body ((eq_RequestK12 RR LL c s t l f n y x.name x.kind x.alt q.name q.max q.ttl q.att q.dead b.exch b.queue b.key b.all b.mtch m.topic m.payload m.level m.retain m.prio m.expires m.sender m.seq m.props).trans (bind_run (Check_run ⟨12, c, s, t, l, f, n, y, x, q, b, m⟩ h1 h2) (cond_run rfl (cond_run (okN _) ?_))))
  rw [valN]
  unfold reqRes
  cases hc : checkE ⟨12, c, s, t, l, f, n, y, x, q, b, m⟩ == 0 with
  | false => exact cond_run rfl rfl
  | true =>
    have hc0 := eq_of_beq hc
    have hf := check_ok hc0
    have hb := reqF_le12 hf
    rw [hc0]
    exact cond_not rfl (callT (word_run 12 rfl) (cond_run (rngI (i64_rng hf.conn (by decide))) (cond_run (rngI (i64_rng hf.serial (by decide))) (fin_one (L := reqF ⟨12, c, s, t, l, f, n, y, x, q, b, m⟩) (by simp only [elems9]; rfl) hb.1 hb.2))))
theorem Request_k13 (c s t l : Int) (f : Bool) (n y : S8) (x : Exch) (q : Spc) (b : Bnd) (m : Msg) (h1 : b.mtch.length ≤ maxLen) (h2 : m.props.length ≤ maxLen) : RR none 19 [reqA ⟨13, c, s, t, l, f, n, y, x, q, b, m⟩] [] = some (.ret (reqRes ⟨13, c, s, t, l, f, n, y, x, q, b, m⟩), []) := by
  refine run_of_body ((eq_RequestK13 RR LL c s t l f n y x.name x.kind x.alt q.name q.max q.ttl q.att q.dead b.exch b.queue b.key b.all b.mtch m.topic m.payload m.level m.retain m.prio m.expires m.sender m.seq m.props).trans (bind_run (Check_run ⟨13, c, s, t, l, f, n, y, x, q, b, m⟩ h1 h2) (cond_run rfl (cond_run (okN _) ?_))))
  rw [valN]
  unfold reqRes
  cases hc : checkE ⟨13, c, s, t, l, f, n, y, x, q, b, m⟩ == 0 with
  | false => exact cond_run rfl rfl
  | true =>
    have hc0 := eq_of_beq hc
    have hf := check_ok hc0
    have hb := reqF_le13 hf
    rw [hc0]
    have e1 := nm_ok (r := ⟨13, c, s, t, l, f, n, y, x, q, b, m⟩) hf.inner
    exact cond_not rfl (callT (word_run 13 rfl) (cond_run (rngI (i64_rng hf.conn (by decide))) (cond_run (rngI (i64_rng hf.serial (by decide))) (fin_one (L := reqF ⟨13, c, s, t, l, f, n, y, x, q, b, m⟩) (by simp only [elems9]; rfl) hb.1 hb.2))))
theorem Request_k14 (c s t l : Int) (f : Bool) (n y : S8) (x : Exch) (q : Spc) (b : Bnd) (m : Msg) (h1 : b.mtch.length ≤ maxLen) (h2 : m.props.length ≤ maxLen) : RR none 19 [reqA ⟨14, c, s, t, l, f, n, y, x, q, b, m⟩] [] = some (.ret (reqRes ⟨14, c, s, t, l, f, n, y, x, q, b, m⟩), []) := by
  refine run_of_body ((eq_RequestK14 RR LL c s t l f n y x.name x.kind x.alt q.name q.max q.ttl q.att q.dead b.exch b.queue b.key b.all b.mtch m.topic m.payload m.level m.retain m.prio m.expires m.sender m.seq m.props).trans (bind_run (Check_run ⟨14, c, s, t, l, f, n, y, x, q, b, m⟩ h1 h2) (cond_run rfl (cond_run (okN _) ?_))))
  rw [valN]
  unfold reqRes
  cases hc : checkE ⟨14, c, s, t, l, f, n, y, x, q, b, m⟩ == 0 with
  | false => exact cond_run rfl rfl
  | true =>
    have hc0 := eq_of_beq hc
    have hf := check_ok hc0
    have hb := reqF_le14 hf
    rw [hc0]
    have e1 := nm_ok (r := ⟨14, c, s, t, l, f, n, y, x, q, b, m⟩) hf.inner
    exact cond_not rfl (callT (word_run 14 rfl) (cond_run (rngI (i64_rng hf.conn (by decide))) (cond_run (rngI (i64_rng hf.serial (by decide))) (fin_one (L := reqF ⟨14, c, s, t, l, f, n, y, x, q, b, m⟩) (by simp only [elems9]; rfl) hb.1 hb.2))))
theorem Request_k15 (c s t l : Int) (f : Bool) (n y : S8) (x : Exch) (q : Spc) (b : Bnd) (m : Msg) (h1 : b.mtch.length ≤ maxLen) (h2 : m.props.length ≤ maxLen) : RR none 19 [reqA ⟨15, c, s, t, l, f, n, y, x, q, b, m⟩] [] = some (.ret (reqRes ⟨15, c, s, t, l, f, n, y, x, q, b, m⟩), []) := by
  refine run_of_body ((eq_RequestK15 RR LL c s t l f n y x.name x.kind x.alt q.name q.max q.ttl q.att q.dead b.exch b.queue b.key b.all b.mtch m.topic m.payload m.level m.retain m.prio m.expires m.sender m.seq m.props).trans (bind_run (Check_run ⟨15, c, s, t, l, f, n, y, x, q, b, m⟩ h1 h2) (cond_run rfl (cond_run (okN _) ?_))))
  rw [valN]
  unfold reqRes
  cases hc : checkE ⟨15, c, s, t, l, f, n, y, x, q, b, m⟩ == 0 with
  | false => exact cond_run rfl rfl
  | true =>
    have hc0 := eq_of_beq hc
    have hf := check_ok hc0
    have hb := reqF_le15 hf
    rw [hc0]
    have e1 := nm_ok (r := ⟨15, c, s, t, l, f, n, y, x, q, b, m⟩) hf.inner
    exact cond_not rfl (callT (word_run 15 rfl) (cond_run (rngI (i64_rng hf.conn (by decide))) (cond_run (rngI (i64_rng hf.serial (by decide))) (fin_one (L := reqF ⟨15, c, s, t, l, f, n, y, x, q, b, m⟩) (by simp only [elems9]; rfl) hb.1 hb.2))))
theorem Request_run (r : Req) (h1 : r.bd.mtch.length ≤ maxLen) (h2 : r.msg.props.length ≤ maxLen) : RR none 19 [reqA r] [] = some (.ret (reqRes r), []) := by
  cases hk : btw r.kind 1 15 with
  | true =>
    obtain ⟨k, c, s, t, l, f, n, y, x, q, b, m⟩ := r
    rcases kinds hk with rfl | rfl | rfl | rfl | rfl | rfl | rfl | rfl | rfl | rfl | rfl | rfl | rfl | rfl | rfl
    · exact Request_k1 c s t l f n y x q b m h1 h2
    · exact Request_k2 c s t l f n y x q b m h1 h2
    · exact Request_k3 c s t l f n y x q b m h1 h2
    · exact Request_k4 c s t l f n y x q b m h1 h2
    · exact Request_k5 c s t l f n y x q b m h1 h2
    · exact Request_k6 c s t l f n y x q b m h1 h2
    · exact Request_k7 c s t l f n y x q b m h1 h2
    · exact Request_k8 c s t l f n y x q b m h1 h2
    · exact Request_k9 c s t l f n y x q b m h1 h2
    · exact Request_k10 c s t l f n y x q b m h1 h2
    · exact Request_k11 c s t l f n y x q b m h1 h2
    · exact Request_k12 c s t l f n y x q b m h1 h2
    · exact Request_k13 c s t l f n y x q b m h1 h2
    · exact Request_k14 c s t l f n y x q b m h1 h2
    · exact Request_k15 c s t l f n y x q b m h1 h2
  | false =>
    have hc : checkE r = 10 := by unfold checkE; rw [hk]; rfl
    have h3 := Check_run r h1 h2
    rw [hc] at h3
    unfold reqRes
    rw [hc]
    exact run_first (g := 17) (by kernel_rfl) h3 (by kernel_rfl)
end Go.Proofs.YtmocefjnplmibaaGreatDoor
