/- A valid request is recovered from its line. -/
import Derived.Test.YtmocefjnplmibaaGreatDoorBa
namespace Go.Proofs.YtmocefjnplmibaaGreatDoor
open Go Go.Den
set_option maxRecDepth 100000

theorem word8 (k : Int) (h : btw k 1 15 = true) : (wordS k).length ≤ 8 := by
  rcases kinds h with rfl | rfl | rfl | rfl | rfl | rfl | rfl | rfl | rfl | rfl | rfl | rfl | rfl | rfl | rfl <;> decide
theorem exw8 (k : Int) (h : btw k 1 4 = true) : (exwS k).length ≤ 8 := by
  have := btw_iff.1 h
  rcases (by omega : k = 1 ∨ k = 2 ∨ k = 3 ∨ k = 4) with rfl | rfl | rfl | rfl <;> decide
theorem itoa21 {n : Int} (h : I64 n) : (Lib.itoa n).length ≤ 21 := Lib.itoa_length_le n h.1 h.2
theorem tru3 (b : Bool) : (truS b).length ≤ 3 := by cases b <;> decide
theorem may16 {s : S8} (h : optS s = true) : (mayS s).length ≤ 16 := by
  have := optS_len h
  unfold mayS
  cases strEq s [] with
  | true => show [45].length ≤ 16; decide
  | false => exact this
theorem quo4 {s : S8} {n : Nat} (h : s.length ≤ n) : (quoS s).length ≤ 4 * n + 2 := by
  have := quoB_len s
  rw [quoS_len]; omega
theorem prp_tot {l : List E} (h : propsE l = 0) : tot (l.map prpS) ≤ 5280 := by
  obtain ⟨h1, h2⟩ := props_ok h
  have := tot_le 659 (l.map prpS) (by
    intro z hz
    obtain ⟨x, hx, rfl⟩ := List.mem_map.1 hz
    obtain ⟨i, hi, rfl⟩ := List.mem_iff_getElem.1 hx
    have := h2 i hi
    rw [getD_at hi] at this
    have hk := keyS_iff this.1
    have hv := quo4 this.2
    unfold prpS
    rw [List.length_append, List.length_append, List.length_singleton]
    omega)
  rw [List.length_map] at this
  have h3 := Nat.mul_le_mul_right 660 h1
  omega
theorem msgR_back {m : Msg} (hm : MsgFine m) (hp : PropsOk m.props) (a b c d e : S8) : msgR ([a, b, c, d, e] ++ mfS m) 5 = .ok m := by
  have r := mildM_of hm
  unfold msgR
  show (txtR (quoS m.topic)).bind _ = _
  rw [txtR_quo]
  show (txtR (quoS m.payload)).bind _ = _
  rw [txtR_quo]
  show (numR (Lib.itoa m.level)).bind _ = _
  rw [numR_itoa r.level]
  show (truR (truS m.retain)).bind _ = _
  rw [truR_tru]
  show (numR (Lib.itoa m.prio)).bind _ = _
  rw [numR_itoa r.prio]
  show (numR (Lib.itoa m.expires)).bind _ = _
  rw [numR_itoa r.expires]
  show (optR (mayS m.sender)).bind _ = _
  rw [optR_may hm.sender]
  show (numR (Lib.itoa m.seq)).bind _ = _
  rw [numR_itoa r.seq]
  show (prpsR (m.props.map prpS)).bind _ = _
  rw [props_back hp hm.props]
  rfl

structure Back (r : Req) : Prop where
  nosp : ∀ z ∈ reqF r, (32 : UInt8) ∉ z
  body : bodyR r.kind (reqF r) = .ok r
  fits : fitsC r.kind (reqF r).length = true
  size : tot (reqF r) ≤ 9000
theorem back_k1 {c s t l : Int} {f : Bool} {n y : S8} {x : Exch} {q : Spc} {b : Bnd} {m : Msg} (hf : ReqFine ⟨1, c, s, t, l, f, n, y, x, q, b, m⟩) (hr : ReqOk ⟨1, c, s, t, l, f, n, y, x, q, b, m⟩) (hu : usedR ⟨1, c, s, t, l, f, n, y, x, q, b, m⟩ = ⟨1, c, s, t, l, f, n, y, x, q, b, m⟩) : Back ⟨1, c, s, t, l, f, n, y, x, q, b, m⟩ := by
  obtain ⟨e1, e2, e3⟩ := ex_ok (x := x) hf.inner
  have hL : reqF ⟨1, c, s, t, l, f, n, y, x, q, b, m⟩ = [wordS 1, Lib.itoa c, Lib.itoa s, x.name, exwS x.kind, mayS x.alt] := rfl
  refine ⟨?_, ?_, ?_, ?_⟩
  · rw [hL]
    intro z hz
    simp only [List.mem_cons, List.not_mem_nil, or_false] at hz
    rcases hz with rfl | rfl | rfl | rfl | rfl | rfl
    · exact nosp_word 1 rfl
    · exact nosp_itoa _
    · exact nosp_itoa _
    · exact nosp_name e1
    · exact nosp_exw _ e2
    · exact nosp_may e3
  · unfold bodyR
    show (numR (Lib.itoa c)).bind _ = _
    rw [numR_itoa (i64_rng hf.conn (by decide))]
    show (numR (Lib.itoa s)).bind _ = _
    rw [numR_itoa (i64_rng hf.serial (by decide))]
    show (kndR (exwS x.kind)).bind _ = _
    rw [kndR_exw e2]
    show (optR (mayS x.alt)).bind _ = _
    rw [optR_may e3]
    exact congrArg Except.ok hu
  · rfl
  · rw [hL]
    have b0 : (wordS 1).length ≤ _ := word8 1 rfl
    have b1 : (Lib.itoa c).length ≤ _ := itoa21 (i64_rng hf.conn (by decide))
    have b2 : (Lib.itoa s).length ≤ _ := itoa21 (i64_rng hf.serial (by decide))
    have b3 : (x.name).length ≤ _ := (name_iff e1).2.1
    have b4 : (exwS x.kind).length ≤ _ := exw8 _ e2
    have b5 : (mayS x.alt).length ≤ _ := may16 e3
    show ((wordS 1).length + 1 + ((Lib.itoa c).length + 1 + ((Lib.itoa s).length + 1 + ((x.name).length + 1 + ((exwS x.kind).length + 1 + ((mayS x.alt).length + 1 + 0)))))) ≤ 9000
    omega
theorem back_k2 {c s t l : Int} {f : Bool} {n y : S8} {x : Exch} {q : Spc} {b : Bnd} {m : Msg} (hf : ReqFine ⟨2, c, s, t, l, f, n, y, x, q, b, m⟩) (hr : ReqOk ⟨2, c, s, t, l, f, n, y, x, q, b, m⟩) (hu : usedR ⟨2, c, s, t, l, f, n, y, x, q, b, m⟩ = ⟨2, c, s, t, l, f, n, y, x, q, b, m⟩) : Back ⟨2, c, s, t, l, f, n, y, x, q, b, m⟩ := by
  obtain ⟨e1, e2, e3, e4, e5⟩ := sp_ok (x := q) hf.inner
  have hL : reqF ⟨2, c, s, t, l, f, n, y, x, q, b, m⟩ = [wordS 2, Lib.itoa c, Lib.itoa s, q.name, Lib.itoa q.max, Lib.itoa q.ttl, Lib.itoa q.att, mayS q.dead] := rfl
  refine ⟨?_, ?_, ?_, ?_⟩
  · rw [hL]
    intro z hz
    simp only [List.mem_cons, List.not_mem_nil, or_false] at hz
    rcases hz with rfl | rfl | rfl | rfl | rfl | rfl | rfl | rfl
    · exact nosp_word 2 rfl
    · exact nosp_itoa _
    · exact nosp_itoa _
    · exact nosp_name e1
    · exact nosp_itoa _
    · exact nosp_itoa _
    · exact nosp_itoa _
    · exact nosp_may e5
  · unfold bodyR
    show (numR (Lib.itoa c)).bind _ = _
    rw [numR_itoa (i64_rng hf.conn (by decide))]
    show (numR (Lib.itoa s)).bind _ = _
    rw [numR_itoa (i64_rng hf.serial (by decide))]
    show (numR (Lib.itoa q.max)).bind _ = _
    rw [numR_itoa (i64_btw e2 (by decide) (by decide))]
    show (numR (Lib.itoa q.ttl)).bind _ = _
    rw [numR_itoa (i64_rng e3 (by decide))]
    show (numR (Lib.itoa q.att)).bind _ = _
    rw [numR_itoa (i64_rng e4 (by decide))]
    show (optR (mayS q.dead)).bind _ = _
    rw [optR_may e5]
    exact congrArg Except.ok hu
  · rfl
  · rw [hL]
    have b0 : (wordS 2).length ≤ _ := word8 2 rfl
    have b1 : (Lib.itoa c).length ≤ _ := itoa21 (i64_rng hf.conn (by decide))
    have b2 : (Lib.itoa s).length ≤ _ := itoa21 (i64_rng hf.serial (by decide))
    have b3 : (q.name).length ≤ _ := (name_iff e1).2.1
    have b4 : (Lib.itoa q.max).length ≤ _ := itoa21 (i64_btw e2 (by decide) (by decide))
    have b5 : (Lib.itoa q.ttl).length ≤ _ := itoa21 (i64_rng e3 (by decide))
    have b6 : (Lib.itoa q.att).length ≤ _ := itoa21 (i64_rng e4 (by decide))
    have b7 : (mayS q.dead).length ≤ _ := may16 e5
    show ((wordS 2).length + 1 + ((Lib.itoa c).length + 1 + ((Lib.itoa s).length + 1 + ((q.name).length + 1 + ((Lib.itoa q.max).length + 1 + ((Lib.itoa q.ttl).length + 1 + ((Lib.itoa q.att).length + 1 + ((mayS q.dead).length + 1 + 0)))))))) ≤ 9000
    omega
theorem back_k3 {c s t l : Int} {f : Bool} {n y : S8} {x : Exch} {q : Spc} {b : Bnd} {m : Msg} (hf : ReqFine ⟨3, c, s, t, l, f, n, y, x, q, b, m⟩) (hr : ReqOk ⟨3, c, s, t, l, f, n, y, x, q, b, m⟩) (hu : usedR ⟨3, c, s, t, l, f, n, y, x, q, b, m⟩ = ⟨3, c, s, t, l, f, n, y, x, q, b, m⟩) : Back ⟨3, c, s, t, l, f, n, y, x, q, b, m⟩ := by
  obtain ⟨e1, e2, e3, e4⟩ := bd_ok (x := b) hf.inner
  have hL : reqF ⟨3, c, s, t, l, f, n, y, x, q, b, m⟩ = [wordS 3, Lib.itoa c, Lib.itoa s, b.exch, b.queue, quoS b.key, truS b.all] ++ b.mtch.map prpS := rfl
  refine ⟨?_, ?_, ?_, ?_⟩
  · rw [hL]
    intro z hz
    rcases List.mem_append.1 hz with hz | hz
    · simp only [List.mem_cons, List.not_mem_nil, or_false] at hz
      rcases hz with rfl | rfl | rfl | rfl | rfl | rfl | rfl
      · exact nosp_word 3 rfl
      · exact nosp_itoa _
      · exact nosp_itoa _
      · exact nosp_name e1
      · exact nosp_name e2
      · exact nosp_quo _
      · exact nosp_tru _
    · exact nosp_prp e4 z hz
  · unfold bodyR
    show (numR (Lib.itoa c)).bind _ = _
    rw [numR_itoa (i64_rng hf.conn (by decide))]
    show (numR (Lib.itoa s)).bind _ = _
    rw [numR_itoa (i64_rng hf.serial (by decide))]
    show (txtR (quoS b.key)).bind _ = _
    rw [txtR_quo]
    show (truR (truS b.all)).bind _ = _
    rw [truR_tru]
    show (prpsR (b.mtch.map prpS)).bind _ = _
    rw [props_back hr.mtch e4]
    exact congrArg Except.ok hu
  · rw [hL, List.length_append]
    show fitsC 3 (7 + (b.mtch.map prpS).length) = true
    unfold fitsC
    rw [show cntS 3 = 7 from rfl, dec_no (by omega)]
    rfl
  · rw [hL, tot_append]
    have b0 : (wordS 3).length ≤ _ := word8 3 rfl
    have b1 : (Lib.itoa c).length ≤ _ := itoa21 (i64_rng hf.conn (by decide))
    have b2 : (Lib.itoa s).length ≤ _ := itoa21 (i64_rng hf.serial (by decide))
    have b3 : (b.exch).length ≤ _ := (name_iff e1).2.1
    have b4 : (b.queue).length ≤ _ := (name_iff e2).2.1
    have b5 : (quoS b.key).length ≤ _ := quo4 (key_ok e3).1
    have b6 : (truS b.all).length ≤ _ := tru3 _
    have bp : tot (b.mtch.map prpS) ≤ 5280 := prp_tot e4
    show ((wordS 3).length + 1 + ((Lib.itoa c).length + 1 + ((Lib.itoa s).length + 1 + ((b.exch).length + 1 + ((b.queue).length + 1 + ((quoS b.key).length + 1 + ((truS b.all).length + 1 + 0))))))) + tot (b.mtch.map prpS) ≤ 9000
    omega
theorem back_k4 {c s t l : Int} {f : Bool} {n y : S8} {x : Exch} {q : Spc} {b : Bnd} {m : Msg} (hf : ReqFine ⟨4, c, s, t, l, f, n, y, x, q, b, m⟩) (hr : ReqOk ⟨4, c, s, t, l, f, n, y, x, q, b, m⟩) (hu : usedR ⟨4, c, s, t, l, f, n, y, x, q, b, m⟩ = ⟨4, c, s, t, l, f, n, y, x, q, b, m⟩) : Back ⟨4, c, s, t, l, f, n, y, x, q, b, m⟩ := by
  obtain ⟨e1, e2, e3, e4⟩ := bd_ok (x := b) hf.inner
  have hL : reqF ⟨4, c, s, t, l, f, n, y, x, q, b, m⟩ = [wordS 4, Lib.itoa c, Lib.itoa s, b.exch, b.queue, quoS b.key, truS b.all] ++ b.mtch.map prpS := rfl
  refine ⟨?_, ?_, ?_, ?_⟩
  · rw [hL]
    intro z hz
    rcases List.mem_append.1 hz with hz | hz
    · simp only [List.mem_cons, List.not_mem_nil, or_false] at hz
      rcases hz with rfl | rfl | rfl | rfl | rfl | rfl | rfl
      · exact nosp_word 4 rfl
      · exact nosp_itoa _
      · exact nosp_itoa _
      · exact nosp_name e1
      · exact nosp_name e2
      · exact nosp_quo _
      · exact nosp_tru _
    · exact nosp_prp e4 z hz
  · unfold bodyR
    show (numR (Lib.itoa c)).bind _ = _
    rw [numR_itoa (i64_rng hf.conn (by decide))]
    show (numR (Lib.itoa s)).bind _ = _
    rw [numR_itoa (i64_rng hf.serial (by decide))]
    show (txtR (quoS b.key)).bind _ = _
    rw [txtR_quo]
    show (truR (truS b.all)).bind _ = _
    rw [truR_tru]
    show (prpsR (b.mtch.map prpS)).bind _ = _
    rw [props_back hr.mtch e4]
    exact congrArg Except.ok hu
  · rw [hL, List.length_append]
    show fitsC 4 (7 + (b.mtch.map prpS).length) = true
    unfold fitsC
    rw [show cntS 4 = 7 from rfl, dec_no (by omega)]
    rfl
  · rw [hL, tot_append]
    have b0 : (wordS 4).length ≤ _ := word8 4 rfl
    have b1 : (Lib.itoa c).length ≤ _ := itoa21 (i64_rng hf.conn (by decide))
    have b2 : (Lib.itoa s).length ≤ _ := itoa21 (i64_rng hf.serial (by decide))
    have b3 : (b.exch).length ≤ _ := (name_iff e1).2.1
    have b4 : (b.queue).length ≤ _ := (name_iff e2).2.1
    have b5 : (quoS b.key).length ≤ _ := quo4 (key_ok e3).1
    have b6 : (truS b.all).length ≤ _ := tru3 _
    have bp : tot (b.mtch.map prpS) ≤ 5280 := prp_tot e4
    show ((wordS 4).length + 1 + ((Lib.itoa c).length + 1 + ((Lib.itoa s).length + 1 + ((b.exch).length + 1 + ((b.queue).length + 1 + ((quoS b.key).length + 1 + ((truS b.all).length + 1 + 0))))))) + tot (b.mtch.map prpS) ≤ 9000
    omega
theorem back_k5 {c s t l : Int} {f : Bool} {n y : S8} {x : Exch} {q : Spc} {b : Bnd} {m : Msg} (hf : ReqFine ⟨5, c, s, t, l, f, n, y, x, q, b, m⟩) (hr : ReqOk ⟨5, c, s, t, l, f, n, y, x, q, b, m⟩) (hu : usedR ⟨5, c, s, t, l, f, n, y, x, q, b, m⟩ = ⟨5, c, s, t, l, f, n, y, x, q, b, m⟩) : Back ⟨5, c, s, t, l, f, n, y, x, q, b, m⟩ := by
  obtain ⟨e1, e2, e3⟩ := pub_ok (r := ⟨5, c, s, t, l, f, n, y, x, q, b, m⟩) hf.inner
  have mm := mildM_of e3
  have hL : reqF ⟨5, c, s, t, l, f, n, y, x, q, b, m⟩ = [wordS 5, Lib.itoa c, Lib.itoa s, mayS n, quoS y, quoS m.topic, quoS m.payload, Lib.itoa m.level, truS m.retain, Lib.itoa m.prio, Lib.itoa m.expires, mayS m.sender, Lib.itoa m.seq] ++ m.props.map prpS := rfl
  refine ⟨?_, ?_, ?_, ?_⟩
  · rw [hL]
    intro z hz
    rcases List.mem_append.1 hz with hz | hz
    · simp only [List.mem_cons, List.not_mem_nil, or_false] at hz
      rcases hz with rfl | rfl | rfl | rfl | rfl | rfl | rfl | rfl | rfl | rfl | rfl | rfl | rfl
      · exact nosp_word 5 rfl
      · exact nosp_itoa _
      · exact nosp_itoa _
      · exact nosp_may e1
      · exact nosp_quo _
      · exact nosp_quo _
      · exact nosp_quo _
      · exact nosp_itoa _
      · exact nosp_tru _
      · exact nosp_itoa _
      · exact nosp_itoa _
      · exact nosp_may e3.sender
      · exact nosp_itoa _
    · exact nosp_prp e3.props z hz
  · unfold bodyR
    show (numR (Lib.itoa c)).bind _ = _
    rw [numR_itoa (i64_rng hf.conn (by decide))]
    show (numR (Lib.itoa s)).bind _ = _
    rw [numR_itoa (i64_rng hf.serial (by decide))]
    show (optR (mayS n)).bind _ = _
    rw [optR_may e1]
    show (txtR (quoS y)).bind _ = _
    rw [txtR_quo]
    show (msgR ([wordS 5, Lib.itoa c, Lib.itoa s, mayS n, quoS y] ++ mfS m) 5).bind _ = _
    rw [msgR_back e3 hr.props]
    exact congrArg Except.ok hu
  · rw [hL, List.length_append]
    show fitsC 5 (13 + (m.props.map prpS).length) = true
    unfold fitsC
    rw [show cntS 5 = 13 from rfl, dec_no (by omega)]
    rfl
  · rw [hL, tot_append]
    have b0 : (wordS 5).length ≤ _ := word8 5 rfl
    have b1 : (Lib.itoa c).length ≤ _ := itoa21 (i64_rng hf.conn (by decide))
    have b2 : (Lib.itoa s).length ≤ _ := itoa21 (i64_rng hf.serial (by decide))
    have b3 : (mayS n).length ≤ _ := may16 e1
    have b4 : (quoS y).length ≤ _ := quo4 (key_ok e2).1
    have b5 : (quoS m.topic).length ≤ _ := quo4 (valid_iff e3.topic)
    have b6 : (quoS m.payload).length ≤ _ := quo4 e3.payload
    have b7 : (Lib.itoa m.level).length ≤ _ := itoa21 mm.level
    have b8 : (truS m.retain).length ≤ _ := tru3 _
    have b9 : (Lib.itoa m.prio).length ≤ _ := itoa21 mm.prio
    have b10 : (Lib.itoa m.expires).length ≤ _ := itoa21 mm.expires
    have b11 : (mayS m.sender).length ≤ _ := may16 e3.sender
    have b12 : (Lib.itoa m.seq).length ≤ _ := itoa21 mm.seq
    have bp : tot (m.props.map prpS) ≤ 5280 := prp_tot e3.props
    show ((wordS 5).length + 1 + ((Lib.itoa c).length + 1 + ((Lib.itoa s).length + 1 + ((mayS n).length + 1 + ((quoS y).length + 1 + ((quoS m.topic).length + 1 + ((quoS m.payload).length + 1 + ((Lib.itoa m.level).length + 1 + ((truS m.retain).length + 1 + ((Lib.itoa m.prio).length + 1 + ((Lib.itoa m.expires).length + 1 + ((mayS m.sender).length + 1 + ((Lib.itoa m.seq).length + 1 + 0))))))))))))) + tot (m.props.map prpS) ≤ 9000
    omega
theorem back_k6 {c s t l : Int} {f : Bool} {n y : S8} {x : Exch} {q : Spc} {b : Bnd} {m : Msg} (hf : ReqFine ⟨6, c, s, t, l, f, n, y, x, q, b, m⟩) (hr : ReqOk ⟨6, c, s, t, l, f, n, y, x, q, b, m⟩) (hu : usedR ⟨6, c, s, t, l, f, n, y, x, q, b, m⟩ = ⟨6, c, s, t, l, f, n, y, x, q, b, m⟩) : Back ⟨6, c, s, t, l, f, n, y, x, q, b, m⟩ := by
  have e1 := nm_ok (r := ⟨6, c, s, t, l, f, n, y, x, q, b, m⟩) hf.inner
  have hL : reqF ⟨6, c, s, t, l, f, n, y, x, q, b, m⟩ = [wordS 6, Lib.itoa c, Lib.itoa s, Lib.itoa t, n, Lib.itoa l] := rfl
  refine ⟨?_, ?_, ?_, ?_⟩
  · rw [hL]
    intro z hz
    simp only [List.mem_cons, List.not_mem_nil, or_false] at hz
    rcases hz with rfl | rfl | rfl | rfl | rfl | rfl
    · exact nosp_word 6 rfl
    · exact nosp_itoa _
    · exact nosp_itoa _
    · exact nosp_itoa _
    · exact nosp_name e1
    · exact nosp_itoa _
  · unfold bodyR
    show (numR (Lib.itoa c)).bind _ = _
    rw [numR_itoa (i64_rng hf.conn (by decide))]
    show (numR (Lib.itoa s)).bind _ = _
    rw [numR_itoa (i64_rng hf.serial (by decide))]
    show (numR (Lib.itoa t)).bind _ = _
    rw [numR_itoa (i64_rng hf.tag (by decide))]
    show (numR (Lib.itoa l)).bind _ = _
    rw [numR_itoa (i64_rng hf.limit (by decide))]
    exact congrArg Except.ok hu
  · rfl
  · rw [hL]
    have b0 : (wordS 6).length ≤ _ := word8 6 rfl
    have b1 : (Lib.itoa c).length ≤ _ := itoa21 (i64_rng hf.conn (by decide))
    have b2 : (Lib.itoa s).length ≤ _ := itoa21 (i64_rng hf.serial (by decide))
    have b3 : (Lib.itoa t).length ≤ _ := itoa21 (i64_rng hf.tag (by decide))
    have b4 : (n).length ≤ _ := (name_iff e1).2.1
    have b5 : (Lib.itoa l).length ≤ _ := itoa21 (i64_rng hf.limit (by decide))
    show ((wordS 6).length + 1 + ((Lib.itoa c).length + 1 + ((Lib.itoa s).length + 1 + ((Lib.itoa t).length + 1 + ((n).length + 1 + ((Lib.itoa l).length + 1 + 0)))))) ≤ 9000
    omega
theorem back_k7 {c s t l : Int} {f : Bool} {n y : S8} {x : Exch} {q : Spc} {b : Bnd} {m : Msg} (hf : ReqFine ⟨7, c, s, t, l, f, n, y, x, q, b, m⟩) (hr : ReqOk ⟨7, c, s, t, l, f, n, y, x, q, b, m⟩) (hu : usedR ⟨7, c, s, t, l, f, n, y, x, q, b, m⟩ = ⟨7, c, s, t, l, f, n, y, x, q, b, m⟩) : Back ⟨7, c, s, t, l, f, n, y, x, q, b, m⟩ := by
  have hL : reqF ⟨7, c, s, t, l, f, n, y, x, q, b, m⟩ = [wordS 7, Lib.itoa c, Lib.itoa s, Lib.itoa t] := rfl
  refine ⟨?_, ?_, ?_, ?_⟩
  · rw [hL]
    intro z hz
    simp only [List.mem_cons, List.not_mem_nil, or_false] at hz
    rcases hz with rfl | rfl | rfl | rfl
    · exact nosp_word 7 rfl
    · exact nosp_itoa _
    · exact nosp_itoa _
    · exact nosp_itoa _
  · unfold bodyR
    show (numR (Lib.itoa c)).bind _ = _
    rw [numR_itoa (i64_rng hf.conn (by decide))]
    show (numR (Lib.itoa s)).bind _ = _
    rw [numR_itoa (i64_rng hf.serial (by decide))]
    show (numR (Lib.itoa t)).bind _ = _
    rw [numR_itoa (i64_rng hf.tag (by decide))]
    exact congrArg Except.ok hu
  · rfl
  · rw [hL]
    have b0 : (wordS 7).length ≤ _ := word8 7 rfl
    have b1 : (Lib.itoa c).length ≤ _ := itoa21 (i64_rng hf.conn (by decide))
    have b2 : (Lib.itoa s).length ≤ _ := itoa21 (i64_rng hf.serial (by decide))
    have b3 : (Lib.itoa t).length ≤ _ := itoa21 (i64_rng hf.tag (by decide))
    show ((wordS 7).length + 1 + ((Lib.itoa c).length + 1 + ((Lib.itoa s).length + 1 + ((Lib.itoa t).length + 1 + 0)))) ≤ 9000
    omega
theorem back_k8 {c s t l : Int} {f : Bool} {n y : S8} {x : Exch} {q : Spc} {b : Bnd} {m : Msg} (hf : ReqFine ⟨8, c, s, t, l, f, n, y, x, q, b, m⟩) (hr : ReqOk ⟨8, c, s, t, l, f, n, y, x, q, b, m⟩) (hu : usedR ⟨8, c, s, t, l, f, n, y, x, q, b, m⟩ = ⟨8, c, s, t, l, f, n, y, x, q, b, m⟩) : Back ⟨8, c, s, t, l, f, n, y, x, q, b, m⟩ := by
  have hL : reqF ⟨8, c, s, t, l, f, n, y, x, q, b, m⟩ = [wordS 8, Lib.itoa c, Lib.itoa s, Lib.itoa t, truS f] := rfl
  refine ⟨?_, ?_, ?_, ?_⟩
  · rw [hL]
    intro z hz
    simp only [List.mem_cons, List.not_mem_nil, or_false] at hz
    rcases hz with rfl | rfl | rfl | rfl | rfl
    · exact nosp_word 8 rfl
    · exact nosp_itoa _
    · exact nosp_itoa _
    · exact nosp_itoa _
    · exact nosp_tru _
  · unfold bodyR
    show (numR (Lib.itoa c)).bind _ = _
    rw [numR_itoa (i64_rng hf.conn (by decide))]
    show (numR (Lib.itoa s)).bind _ = _
    rw [numR_itoa (i64_rng hf.serial (by decide))]
    show (numR (Lib.itoa t)).bind _ = _
    rw [numR_itoa (i64_rng hf.tag (by decide))]
    show (truR (truS f)).bind _ = _
    rw [truR_tru]
    exact congrArg Except.ok hu
  · rfl
  · rw [hL]
    have b0 : (wordS 8).length ≤ _ := word8 8 rfl
    have b1 : (Lib.itoa c).length ≤ _ := itoa21 (i64_rng hf.conn (by decide))
    have b2 : (Lib.itoa s).length ≤ _ := itoa21 (i64_rng hf.serial (by decide))
    have b3 : (Lib.itoa t).length ≤ _ := itoa21 (i64_rng hf.tag (by decide))
    have b4 : (truS f).length ≤ _ := tru3 _
    show ((wordS 8).length + 1 + ((Lib.itoa c).length + 1 + ((Lib.itoa s).length + 1 + ((Lib.itoa t).length + 1 + ((truS f).length + 1 + 0))))) ≤ 9000
    omega
theorem back_k9 {c s t l : Int} {f : Bool} {n y : S8} {x : Exch} {q : Spc} {b : Bnd} {m : Msg} (hf : ReqFine ⟨9, c, s, t, l, f, n, y, x, q, b, m⟩) (hr : ReqOk ⟨9, c, s, t, l, f, n, y, x, q, b, m⟩) (hu : usedR ⟨9, c, s, t, l, f, n, y, x, q, b, m⟩ = ⟨9, c, s, t, l, f, n, y, x, q, b, m⟩) : Back ⟨9, c, s, t, l, f, n, y, x, q, b, m⟩ := by
  have hL : reqF ⟨9, c, s, t, l, f, n, y, x, q, b, m⟩ = [wordS 9, Lib.itoa c, Lib.itoa s, Lib.itoa t, truS f] := rfl
  refine ⟨?_, ?_, ?_, ?_⟩
  · rw [hL]
    intro z hz
    simp only [List.mem_cons, List.not_mem_nil, or_false] at hz
    rcases hz with rfl | rfl | rfl | rfl | rfl
    · exact nosp_word 9 rfl
    · exact nosp_itoa _
    · exact nosp_itoa _
    · exact nosp_itoa _
    · exact nosp_tru _
  · unfold bodyR
    show (numR (Lib.itoa c)).bind _ = _
    rw [numR_itoa (i64_rng hf.conn (by decide))]
    show (numR (Lib.itoa s)).bind _ = _
    rw [numR_itoa (i64_rng hf.serial (by decide))]
    show (numR (Lib.itoa t)).bind _ = _
    rw [numR_itoa (i64_rng hf.tag (by decide))]
    show (truR (truS f)).bind _ = _
    rw [truR_tru]
    exact congrArg Except.ok hu
  · rfl
  · rw [hL]
    have b0 : (wordS 9).length ≤ _ := word8 9 rfl
    have b1 : (Lib.itoa c).length ≤ _ := itoa21 (i64_rng hf.conn (by decide))
    have b2 : (Lib.itoa s).length ≤ _ := itoa21 (i64_rng hf.serial (by decide))
    have b3 : (Lib.itoa t).length ≤ _ := itoa21 (i64_rng hf.tag (by decide))
    have b4 : (truS f).length ≤ _ := tru3 _
    show ((wordS 9).length + 1 + ((Lib.itoa c).length + 1 + ((Lib.itoa s).length + 1 + ((Lib.itoa t).length + 1 + ((truS f).length + 1 + 0))))) ≤ 9000
    omega
theorem back_k10 {c s t l : Int} {f : Bool} {n y : S8} {x : Exch} {q : Spc} {b : Bnd} {m : Msg} (hf : ReqFine ⟨10, c, s, t, l, f, n, y, x, q, b, m⟩) (hr : ReqOk ⟨10, c, s, t, l, f, n, y, x, q, b, m⟩) (hu : usedR ⟨10, c, s, t, l, f, n, y, x, q, b, m⟩ = ⟨10, c, s, t, l, f, n, y, x, q, b, m⟩) : Back ⟨10, c, s, t, l, f, n, y, x, q, b, m⟩ := by
  have hL : reqF ⟨10, c, s, t, l, f, n, y, x, q, b, m⟩ = [wordS 10, Lib.itoa c, Lib.itoa s] := rfl
  refine ⟨?_, ?_, ?_, ?_⟩
  · rw [hL]
    intro z hz
    simp only [List.mem_cons, List.not_mem_nil, or_false] at hz
    rcases hz with rfl | rfl | rfl
    · exact nosp_word 10 rfl
    · exact nosp_itoa _
    · exact nosp_itoa _
  · unfold bodyR
    show (numR (Lib.itoa c)).bind _ = _
    rw [numR_itoa (i64_rng hf.conn (by decide))]
    show (numR (Lib.itoa s)).bind _ = _
    rw [numR_itoa (i64_rng hf.serial (by decide))]
    exact congrArg Except.ok hu
  · rfl
  · rw [hL]
    have b0 : (wordS 10).length ≤ _ := word8 10 rfl
    have b1 : (Lib.itoa c).length ≤ _ := itoa21 (i64_rng hf.conn (by decide))
    have b2 : (Lib.itoa s).length ≤ _ := itoa21 (i64_rng hf.serial (by decide))
    show ((wordS 10).length + 1 + ((Lib.itoa c).length + 1 + ((Lib.itoa s).length + 1 + 0))) ≤ 9000
    omega
theorem back_k11 {c s t l : Int} {f : Bool} {n y : S8} {x : Exch} {q : Spc} {b : Bnd} {m : Msg} (hf : ReqFine ⟨11, c, s, t, l, f, n, y, x, q, b, m⟩) (hr : ReqOk ⟨11, c, s, t, l, f, n, y, x, q, b, m⟩) (hu : usedR ⟨11, c, s, t, l, f, n, y, x, q, b, m⟩ = ⟨11, c, s, t, l, f, n, y, x, q, b, m⟩) : Back ⟨11, c, s, t, l, f, n, y, x, q, b, m⟩ := by
  have hL : reqF ⟨11, c, s, t, l, f, n, y, x, q, b, m⟩ = [wordS 11, Lib.itoa c, Lib.itoa s] := rfl
  refine ⟨?_, ?_, ?_, ?_⟩
  · rw [hL]
    intro z hz
    simp only [List.mem_cons, List.not_mem_nil, or_false] at hz
    rcases hz with rfl | rfl | rfl
    · exact nosp_word 11 rfl
    · exact nosp_itoa _
    · exact nosp_itoa _
  · unfold bodyR
    show (numR (Lib.itoa c)).bind _ = _
    rw [numR_itoa (i64_rng hf.conn (by decide))]
    show (numR (Lib.itoa s)).bind _ = _
    rw [numR_itoa (i64_rng hf.serial (by decide))]
    exact congrArg Except.ok hu
  · rfl
  · rw [hL]
    have b0 : (wordS 11).length ≤ _ := word8 11 rfl
    have b1 : (Lib.itoa c).length ≤ _ := itoa21 (i64_rng hf.conn (by decide))
    have b2 : (Lib.itoa s).length ≤ _ := itoa21 (i64_rng hf.serial (by decide))
    show ((wordS 11).length + 1 + ((Lib.itoa c).length + 1 + ((Lib.itoa s).length + 1 + 0))) ≤ 9000
    omega
theorem back_k12 {c s t l : Int} {f : Bool} {n y : S8} {x : Exch} {q : Spc} {b : Bnd} {m : Msg} (hf : ReqFine ⟨12, c, s, t, l, f, n, y, x, q, b, m⟩) (hr : ReqOk ⟨12, c, s, t, l, f, n, y, x, q, b, m⟩) (hu : usedR ⟨12, c, s, t, l, f, n, y, x, q, b, m⟩ = ⟨12, c, s, t, l, f, n, y, x, q, b, m⟩) : Back ⟨12, c, s, t, l, f, n, y, x, q, b, m⟩ := by
  have hL : reqF ⟨12, c, s, t, l, f, n, y, x, q, b, m⟩ = [wordS 12, Lib.itoa c, Lib.itoa s] := rfl
  refine ⟨?_, ?_, ?_, ?_⟩
  · rw [hL]
    intro z hz
    simp only [List.mem_cons, List.not_mem_nil, or_false] at hz
    rcases hz with rfl | rfl | rfl
    · exact nosp_word 12 rfl
    · exact nosp_itoa _
    · exact nosp_itoa _
  · unfold bodyR
    show (numR (Lib.itoa c)).bind _ = _
    rw [numR_itoa (i64_rng hf.conn (by decide))]
    show (numR (Lib.itoa s)).bind _ = _
    rw [numR_itoa (i64_rng hf.serial (by decide))]
    exact congrArg Except.ok hu
  · rfl
  · rw [hL]
    have b0 : (wordS 12).length ≤ _ := word8 12 rfl
    have b1 : (Lib.itoa c).length ≤ _ := itoa21 (i64_rng hf.conn (by decide))
    have b2 : (Lib.itoa s).length ≤ _ := itoa21 (i64_rng hf.serial (by decide))
    show ((wordS 12).length + 1 + ((Lib.itoa c).length + 1 + ((Lib.itoa s).length + 1 + 0))) ≤ 9000
    omega
theorem back_k13 {c s t l : Int} {f : Bool} {n y : S8} {x : Exch} {q : Spc} {b : Bnd} {m : Msg} (hf : ReqFine ⟨13, c, s, t, l, f, n, y, x, q, b, m⟩) (hr : ReqOk ⟨13, c, s, t, l, f, n, y, x, q, b, m⟩) (hu : usedR ⟨13, c, s, t, l, f, n, y, x, q, b, m⟩ = ⟨13, c, s, t, l, f, n, y, x, q, b, m⟩) : Back ⟨13, c, s, t, l, f, n, y, x, q, b, m⟩ := by
  have e1 := nm_ok (r := ⟨13, c, s, t, l, f, n, y, x, q, b, m⟩) hf.inner
  have hL : reqF ⟨13, c, s, t, l, f, n, y, x, q, b, m⟩ = [wordS 13, Lib.itoa c, Lib.itoa s, n] := rfl
  refine ⟨?_, ?_, ?_, ?_⟩
  · rw [hL]
    intro z hz
    simp only [List.mem_cons, List.not_mem_nil, or_false] at hz
    rcases hz with rfl | rfl | rfl | rfl
    · exact nosp_word 13 rfl
    · exact nosp_itoa _
    · exact nosp_itoa _
    · exact nosp_name e1
  · unfold bodyR
    show (numR (Lib.itoa c)).bind _ = _
    rw [numR_itoa (i64_rng hf.conn (by decide))]
    show (numR (Lib.itoa s)).bind _ = _
    rw [numR_itoa (i64_rng hf.serial (by decide))]
    exact congrArg Except.ok hu
  · rfl
  · rw [hL]
    have b0 : (wordS 13).length ≤ _ := word8 13 rfl
    have b1 : (Lib.itoa c).length ≤ _ := itoa21 (i64_rng hf.conn (by decide))
    have b2 : (Lib.itoa s).length ≤ _ := itoa21 (i64_rng hf.serial (by decide))
    have b3 : (n).length ≤ _ := (name_iff e1).2.1
    show ((wordS 13).length + 1 + ((Lib.itoa c).length + 1 + ((Lib.itoa s).length + 1 + ((n).length + 1 + 0)))) ≤ 9000
    omega
theorem back_k14 {c s t l : Int} {f : Bool} {n y : S8} {x : Exch} {q : Spc} {b : Bnd} {m : Msg} (hf : ReqFine ⟨14, c, s, t, l, f, n, y, x, q, b, m⟩) (hr : ReqOk ⟨14, c, s, t, l, f, n, y, x, q, b, m⟩) (hu : usedR ⟨14, c, s, t, l, f, n, y, x, q, b, m⟩ = ⟨14, c, s, t, l, f, n, y, x, q, b, m⟩) : Back ⟨14, c, s, t, l, f, n, y, x, q, b, m⟩ := by
  have e1 := nm_ok (r := ⟨14, c, s, t, l, f, n, y, x, q, b, m⟩) hf.inner
  have hL : reqF ⟨14, c, s, t, l, f, n, y, x, q, b, m⟩ = [wordS 14, Lib.itoa c, Lib.itoa s, n] := rfl
  refine ⟨?_, ?_, ?_, ?_⟩
  · rw [hL]
    intro z hz
    simp only [List.mem_cons, List.not_mem_nil, or_false] at hz
    rcases hz with rfl | rfl | rfl | rfl
    · exact nosp_word 14 rfl
    · exact nosp_itoa _
    · exact nosp_itoa _
    · exact nosp_name e1
  · unfold bodyR
    show (numR (Lib.itoa c)).bind _ = _
    rw [numR_itoa (i64_rng hf.conn (by decide))]
    show (numR (Lib.itoa s)).bind _ = _
    rw [numR_itoa (i64_rng hf.serial (by decide))]
    exact congrArg Except.ok hu
  · rfl
  · rw [hL]
    have b0 : (wordS 14).length ≤ _ := word8 14 rfl
    have b1 : (Lib.itoa c).length ≤ _ := itoa21 (i64_rng hf.conn (by decide))
    have b2 : (Lib.itoa s).length ≤ _ := itoa21 (i64_rng hf.serial (by decide))
    have b3 : (n).length ≤ _ := (name_iff e1).2.1
    show ((wordS 14).length + 1 + ((Lib.itoa c).length + 1 + ((Lib.itoa s).length + 1 + ((n).length + 1 + 0)))) ≤ 9000
    omega
theorem back_k15 {c s t l : Int} {f : Bool} {n y : S8} {x : Exch} {q : Spc} {b : Bnd} {m : Msg} (hf : ReqFine ⟨15, c, s, t, l, f, n, y, x, q, b, m⟩) (hr : ReqOk ⟨15, c, s, t, l, f, n, y, x, q, b, m⟩) (hu : usedR ⟨15, c, s, t, l, f, n, y, x, q, b, m⟩ = ⟨15, c, s, t, l, f, n, y, x, q, b, m⟩) : Back ⟨15, c, s, t, l, f, n, y, x, q, b, m⟩ := by
  have e1 := nm_ok (r := ⟨15, c, s, t, l, f, n, y, x, q, b, m⟩) hf.inner
  have hL : reqF ⟨15, c, s, t, l, f, n, y, x, q, b, m⟩ = [wordS 15, Lib.itoa c, Lib.itoa s, n] := rfl
  refine ⟨?_, ?_, ?_, ?_⟩
  · rw [hL]
    intro z hz
    simp only [List.mem_cons, List.not_mem_nil, or_false] at hz
    rcases hz with rfl | rfl | rfl | rfl
    · exact nosp_word 15 rfl
    · exact nosp_itoa _
    · exact nosp_itoa _
    · exact nosp_name e1
  · unfold bodyR
    show (numR (Lib.itoa c)).bind _ = _
    rw [numR_itoa (i64_rng hf.conn (by decide))]
    show (numR (Lib.itoa s)).bind _ = _
    rw [numR_itoa (i64_rng hf.serial (by decide))]
    exact congrArg Except.ok hu
  · rfl
  · rw [hL]
    have b0 : (wordS 15).length ≤ _ := word8 15 rfl
    have b1 : (Lib.itoa c).length ≤ _ := itoa21 (i64_rng hf.conn (by decide))
    have b2 : (Lib.itoa s).length ≤ _ := itoa21 (i64_rng hf.serial (by decide))
    have b3 : (n).length ≤ _ := (name_iff e1).2.1
    show ((wordS 15).length + 1 + ((Lib.itoa c).length + 1 + ((Lib.itoa s).length + 1 + ((n).length + 1 + 0)))) ≤ 9000
    omega
theorem back_all {r : Req} (hf : ReqFine r) (hr : ReqOk r) (hu : usedR r = r) : Back r := by
  obtain ⟨k, c, s, t, l, f, n, y, x, q, b, m⟩ := r
  rcases kinds hf.kind with rfl | rfl | rfl | rfl | rfl | rfl | rfl | rfl | rfl | rfl | rfl | rfl | rfl | rfl | rfl
  · exact back_k1 hf hr hu
  · exact back_k2 hf hr hu
  · exact back_k3 hf hr hu
  · exact back_k4 hf hr hu
  · exact back_k5 hf hr hu
  · exact back_k6 hf hr hu
  · exact back_k7 hf hr hu
  · exact back_k8 hf hr hu
  · exact back_k9 hf hr hu
  · exact back_k10 hf hr hu
  · exact back_k11 hf hr hu
  · exact back_k12 hf hr hu
  · exact back_k13 hf hr hu
  · exact back_k14 hf hr hu
  · exact back_k15 hf hr hu

theorem sameR_refl (r : Req) : sameR r r = true := by
  unfold sameR sameX sameS sameB sameM
  simp only [strEq_self, eqProps_refl, beq_self_eq_true, Bool.and_true]
theorem ok43 (r : Req) (e : Int) : okRes PP 43 (.ret (.tup [reqA r, num e])) = true := by kernel_rfl
theorem LBack_run (r : Req) (hr : ReqOk r) : RR none 9 [reqA r] [] = some (.ret (yes true), []) := by
  refine run_of_body ((eq_LBack RR LL r.kind r.conn r.serial r.tag r.limit r.flag r.name r.key r.ex.name r.ex.kind r.ex.alt r.sp.name r.sp.max r.sp.ttl r.sp.att r.sp.dead r.bd.exch r.bd.queue r.bd.key r.bd.all r.bd.mtch r.msg.topic r.msg.payload r.msg.level r.msg.retain r.msg.prio r.msg.expires r.msg.sender r.msg.seq r.msg.props).trans (bind_run (RCheck_run r hr.mtch.1 hr.props.1) (cond_run rfl (cond_run (okN _) ?_))))
  rw [valN]
  cases hc : checkE r == 0 with
  | false => rfl
  | true =>
    have hc0 := eq_of_beq hc
    have hf := check_ok hc0
    have hu := used_eq hr hf.same
    have hb := back_all hf hr hu
    have hne : reqF r ≠ [] := by unfold reqF; simp
    have hsp := split_join hne hb.nosp
    have hlen : (joinS (reqF r)).length ≤ 9000 := Nat.le_trans (join_tot _) hb.size
    have hq := Request_run r hr.mtch.1 hr.props.1
    unfold reqRes at hq
    rw [hc0] at hq
    have hk : kOf ((reqF r).getD 0 []) = r.kind := kOf_word r.kind hf.kind
    have hx : ∀ (l : List S8) (i : Nat), tot l ≤ 9000 → (l.getD i []).length ≤ 10000 := by
      intro l
      induction l with
      | nil => intro i _; exact Nat.zero_le _
      | cons z l ih =>
        intro i h
        have e : tot (z :: l) = z.length + 1 + tot l := rfl
        rw [e] at h
        cases i with
        | zero => show z.length ≤ _; omega
        | succ i => exact ih i (by omega)
    have hn : ∀ l : List S8, l.length ≤ tot l := by
      intro l
      induction l with
      | nil => exact Nat.le_refl _
      | cons z l ih =>
        have e : tot (z :: l) = z.length + 1 + tot l := rfl
        rw [e, List.length_cons]; omega
    have hp : RR none 21 [str (joinS (reqF r))] [] = some (.ret (.tup [reqA r, num 0]), []) := by
      have hn := hn (reqF r)
      have hs := hb.size
      refine Parse_good (by omega) ?_ ?_ ?_ ?_ ?_ hr.mtch.1 hr.props.1 hc0 <;> rw [hsp]
      · rw [hk]; exact hf.kind
      · rw [hk]; exact hb.fits
      · omega
      · exact fun i => hx _ i hs
      · rw [hk]; exact hb.body
    refine cond_not rfl (bind_run hq (cond_run rfl (cond_run (ok24 _ _) (bind_run hp (cond_run rfl (cond_run (ok43 _ _) (cond_run rfl (bind_run (RSame_run r r hr.mtch.1 hr.props.1) (cond_run rfl (cond_run (okB _) ?_))))))))))
    rw [valB, sameR_refl]
    refine cond_run ?_ rfl
    show ((bif true then decide (((joinS (reqF r)).length : Int) ≤ 9000) else false) == true) = true
    rw [dec_yes (by omega)]; rfl

end Go.Proofs.YtmocefjnplmibaaGreatDoor
