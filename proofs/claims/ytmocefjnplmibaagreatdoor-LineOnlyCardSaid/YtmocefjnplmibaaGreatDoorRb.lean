/- Fields of properties and messages; the line of fields. -/
import Derived.Test.YtmocefjnplmibaaGreatDoorRa
namespace Go.Proofs.YtmocefjnplmibaaGreatDoor
open Go Go.Den
set_option maxRecDepth 100000

theorem elems9 (n : Nat) (l : List E) : elems PP 9 1 n l = l := by
  unfold elems
  rw [show isAggB PP 9 = false from aggS]; rfl
abbrev strs (l : List S8) : List E := l.map E.str
theorem strs_get (l : List S8) (i : Nat) (h : i < l.length) : ((((strs l).getD i .nili).cell 0).toStr) = l.getD i [] := by
  rw [List.getD_eq_getElem?_getD, List.getElem?_map, List.getElem?_eq_getElem h, List.getD_eq_getElem?_getD, List.getElem?_eq_getElem h]
  rfl
theorem strs_back (l : List S8) : (strs l).map E.toStr = l := by
  rw [List.map_map]
  exact List.map_id l
theorem strs_all (l : List S8) : (strs l).all isStr = true := by rw [List.all_map]; simp [isStr]

/-! ### Lines -/

def lnX (s : S8) : Out := { ex := .exit 0, fr := [AV.undef, AV.undef, AV.undef, str s] ++ List.replicate 18 AV.undef, hp := [], df := [] }
/-! ### Properties -/

def prpS (x : E) : S8 := pK x ++ [61] ++ quoS (pV x)
def Mild (l : List E) : Prop := l.length ≤ 20 ∧ ∀ x ∈ l, (pK x).length ≤ 500 ∧ (pV x).length ≤ 500
theorem Mild.at {l : List E} (h : Mild l) {i : Nat} (hi : i < l.length) : (pK (l.getD i .nili)).length ≤ 500 ∧ (pV (l.getD i .nili)).length ≤ 500 := h.2 _ (getD_mem hi)
theorem Mild.prp {l : List E} (h : Mild l) : ∀ x ∈ l.map prpS, x.length ≤ 2600 := by
  intro x hx
  obtain ⟨y, hy, rfl⟩ := List.mem_map.1 hx
  have := h.2 y hy
  have hq := quoB_len (pV y)
  unfold prpS
  rw [List.length_append, List.length_append, quoS_len, List.length_singleton]
  omega
def ppX (l : List E) : Out := { ex := .exit 0, fr := [AV.undef, AV.undef, AV.undef, .own 0 9 l] ++ List.replicate 20 AV.undef, hp := [.vec 9 l.length], df := [] }
theorem properties_loop (l : List E) (h : Mild l) : LL 45 0 lc_45_3 (((((List.replicate 24 AV.undef).set 3 (.own 0 9 [])).set 6 (prp l)).set 7 (num (l.length : Int))).set 8 (num 0)) [.vec 9 0] = some (ppX (strs (l.map prpS))) := by
  refine scan_to (n := l.length) (G := fun i => LL 45 0 lc_45_3 (((((List.replicate 24 AV.undef).set 3 (.own 0 9 (strs ((l.take i).map prpS)))).set 6 (prp l)).set 7 (num (l.length : Int))).set 8 (num (i : Int))) [.vec 9 (strs ((l.take i).map prpS)).length]) ?_ ?_
  · intro i hi r hr
    obtain ⟨hk, hv⟩ := h.at hi
    have hl := h.1
    have hq := quoB_len (pV (l.getD i .nili))
    have body := eq_propertiesL3 RR LL (strs ((l.take i).map prpS)) l l.length i
    rw [nat_at, nat_wrap hi (by rw [maxLen_eq]; omega)] at body
    rw [take_snoc hi .nili] at hr
    simp only [List.map_append, List.map_cons, List.map_nil] at hr
    refine loop_of_body (body.trans (cond_run (nat_lt hi) (cond_run (nat_in hi) (cond_run (dec_yes (by show (pK _).length + 1 ≤ _; omega)) (callT (Quote_run (by show (pV _).length ≤ _; omega)) (cond_run ?_ (cond_run ?_ (bind_run hr rfl))))))))
    · rw [valS]
      show decide ((pK (l.getD i .nili) ++ [61]).length + (quoS (pV (l.getD i .nili))).length ≤ _) = true
      rw [List.length_append, quoS_len, List.length_singleton]
      exact dec_yes (by omega)
    · rw [dec_yes rfl]
      show decide (((strs ((l.take i).map prpS)).length + 1) * 16 ≤ _) = true
      rw [List.length_map, List.length_map, List.length_take]
      exact dec_yes (by omega)
  · have := eq_propertiesL3 RR LL (strs ((l.take l.length).map prpS)) l l.length l.length
    rw [List.take_length] at this ⊢
    exact loop_of_body (this.trans (cond_not (nat_end _) rfl))
theorem properties_run (l : List E) (h : Mild l) : RR none 45 [prp l] [] = some (.ret (.e (.sl 9 (strs (l.map prpS)))), []) :=
  run_of_body ((eq_properties RR LL l).trans (bind_run (properties_loop l h) rfl))
def rqX (l : List E) : Out := { ex := .exit 0, fr := [AV.undef, AV.undef, AV.undef, .own 0 9 l] ++ List.replicate 24 AV.undef, hp := [.vec 9 l.length], df := [] }
/-! ### Messages -/

/-- Texts of bounded size, numbers of the type. -/
structure MildM (m : Msg) : Prop where
  topic : m.topic.length ≤ 500
  payload : m.payload.length ≤ 500
  sender : m.sender.length ≤ 500
  level : I64 m.level
  prio : I64 m.prio
  expires : I64 m.expires
  seq : I64 m.seq
  props : Mild m.props
def mfS (m : Msg) : List S8 := [quoS m.topic, quoS m.payload, Lib.itoa m.level, truS m.retain, Lib.itoa m.prio, Lib.itoa m.expires, mayS m.sender, Lib.itoa m.seq] ++ m.props.map prpS
theorem quo_le {s : S8} (h : s.length ≤ 500) : (quoS s).length ≤ 2600 := by
  have := quoB_len s
  rw [quoS_len]; omega
theorem itoa_le {n : Int} (h : I64 n) : (Lib.itoa n).length ≤ 2600 := by
  have := Lib.itoa_length_le n h.1 h.2
  omega
theorem tru_le (b : Bool) : (truS b).length ≤ 2600 := by cases b <;> decide
theorem may_le {s : S8} (h : s.length ≤ 500) : (mayS s).length ≤ 2600 := by
  unfold mayS
  cases strEq s [] with
  | true => show [45].length ≤ 2600; decide
  | false => show s.length ≤ _; omega
theorem MildM.le {m : Msg} (h : MildM m) : ∀ x ∈ mfS m, x.length ≤ 2600 := by
  intro x hx
  rcases List.mem_append.1 hx with hx | hx
  · simp only [List.mem_cons, List.not_mem_nil, or_false] at hx
    rcases hx with rfl | rfl | rfl | rfl | rfl | rfl | rfl | rfl
    · exact quo_le h.topic
    · exact quo_le h.payload
    · exact itoa_le h.level
    · exact tru_le _
    · exact itoa_le h.prio
    · exact itoa_le h.expires
    · exact may_le h.sender
    · exact itoa_le h.seq
  · exact h.props.prp x hx
theorem MildM.len {m : Msg} (h : MildM m) : (mfS m).length ≤ 28 := by
  have := h.props.1
  unfold mfS
  rw [List.length_append, List.length_map]
  show 8 + _ ≤ _
  omega
theorem mf_strs (m : Msg) : [E.str (quoS m.topic), E.str (quoS m.payload), E.str (Lib.itoa m.level), E.str (truS m.retain), E.str (Lib.itoa m.prio), E.str (Lib.itoa m.expires), E.str (mayS m.sender), E.str (Lib.itoa m.seq)] ++ strs (m.props.map prpS) = strs (mfS m) := by
  unfold mfS
  show _ = List.map E.str (_ ++ _)
  rw [List.map_append]
  rfl
theorem mfields_run (m : Msg) (h : MildM m) : RR none 46 [msgA m] [] = some (.ret (.e (.sl 9 (strs (mfS m)))), []) := by
  have hl := h.props.1
  have h1 := h.topic
  have h2 := h.payload
  refine run_of_body ((eq_mfields RR LL m.topic m.payload m.level m.retain m.prio m.expires m.sender m.seq m.props).trans ?_)
  rw [rngI h.level, rngI h.prio, rngI h.expires, rngI h.seq]
  refine callT (Quote_run (by omega)) (callT (Quote_run (by omega)) (cond_run rfl (callT (truth_run _) (cond_run rfl (cond_run rfl (callT (maybe_run _) (cond_run rfl (bind_run (properties_run _ h.props) (cond_run rfl (cond_run (okL _) (cond_run ?_ ?_)))))))))))
  · rw [elems9]
    show decide ((8 + (strs (m.props.map prpS)).length) * 16 ≤ _) = true
    rw [List.length_map, List.length_map]
    exact dec_yes (by omega)
  · rw [elems9, ← mf_strs]; rfl
end Go.Proofs.YtmocefjnplmibaaGreatDoor
