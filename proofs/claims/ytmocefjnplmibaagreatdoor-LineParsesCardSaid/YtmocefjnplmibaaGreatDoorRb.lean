/- Fields of properties and messages; the line of fields. -/
import Derived.Test.YtmocefjnplmibaaGreatDoorRa
namespace Go.Proofs.YtmocefjnplmibaaGreatDoor
open Go Go.Den
set_option maxRecDepth 100000

abbrev strs (l : List S8) : List E := l.map E.str
theorem strs_get (l : List S8) (i : Nat) (h : i < l.length) : ((((strs l).getD i .nili).cell 0).toStr) = l.getD i [] := by
  rw [List.getD_eq_getElem?_getD, List.getElem?_map, List.getElem?_eq_getElem h, List.getD_eq_getElem?_getD, List.getElem?_eq_getElem h]
  rfl
/-! ### Lines -/

def lnX (s : S8) : Out := { ex := .exit 0, fr := [AV.undef, AV.undef, AV.undef, str s] ++ List.replicate 18 AV.undef, hp := [], df := [] }
/-! ### Properties -/

def prpS (x : E) : S8 := pK x ++ [61] ++ quoS (pV x)
def Mild (l : List E) : Prop := l.length ≤ 20 ∧ ∀ x ∈ l, (pK x).length ≤ 500 ∧ (pV x).length ≤ 500
theorem Mild.at {l : List E} (h : Mild l) {i : Nat} (hi : i < l.length) : (pK (l.getD i .nili)).length ≤ 500 ∧ (pV (l.getD i .nili)).length ≤ 500 := h.2 _ (getD_mem hi)
theorem Mild.prp {l : List E} (h : Mild l) : ∀ x ∈ l.map prpS, x.length ≤ 2600 := by
  intro x hx
  obtain ⟨y, hy, rfl⟩ := List.mem_map.1 hx
  have := h.2 y hy
  have hq := quoB_len (pV y)
  unfold prpS
  rw [List.length_append, List.length_append, quoS_len, List.length_singleton]
  omega
def ppX (l : List E) : Out := { ex := .exit 0, fr := [AV.undef, AV.undef, AV.undef, .own 0 9 l] ++ List.replicate 20 AV.undef, hp := [.vec 9 l.length], df := [] }
def rqX (l : List E) : Out := { ex := .exit 0, fr := [AV.undef, AV.undef, AV.undef, .own 0 9 l] ++ List.replicate 24 AV.undef, hp := [.vec 9 l.length], df := [] }
/-! ### Messages -/

/-- Texts of bounded size, numbers of the type. -/
structure MildM (m : Msg) : Prop where
  topic : m.topic.length ≤ 500
  payload : m.payload.length ≤ 500
  sender : m.sender.length ≤ 500
  level : I64 m.level
  prio : I64 m.prio
  expires : I64 m.expires
  seq : I64 m.seq
  props : Mild m.props
def mfS (m : Msg) : List S8 := [quoS m.topic, quoS m.payload, Lib.itoa m.level, truS m.retain, Lib.itoa m.prio, Lib.itoa m.expires, mayS m.sender, Lib.itoa m.seq] ++ m.props.map prpS
theorem MildM.len {m : Msg} (h : MildM m) : (mfS m).length ≤ 28 := by
  have := h.props.1
  unfold mfS
  rw [List.length_append, List.length_map]
  show 8 + _ ≤ _
  omega
end Go.Proofs.YtmocefjnplmibaaGreatDoor
