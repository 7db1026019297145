/- The line of a valid request, read back: field by field. -/
import Derived.Test.YtmocefjnplmibaaGreatDoorPd
import Derived.Test.YtmocefjnplmibaaGreatDoorRc
namespace Go.Proofs.YtmocefjnplmibaaGreatDoor
open Go Go.Den
set_option maxRecDepth 100000

/-! ### A line, cut -/

theorem split_tail : ∀ (r : List S8) (x : S8), 32 ∉ x → (∀ y ∈ r, (32 : UInt8) ∉ y) → splitAt 32 (x ++ Lib.joinTail [32] r) = x :: r := by
  intro r
  induction r with
  | nil => intro x hx _; rw [show Lib.joinTail [32] ([] : List S8) = [] from rfl, List.append_nil, split_none hx]
  | cons y r ih =>
    intro x hx hr
    have e : Lib.joinTail [32] (y :: r) = 32 :: (y ++ Lib.joinTail [32] r) := by simp [Lib.joinTail]
    rw [e, split_cons hx, ih y (hr y (by simp)) (fun z hz => hr z (by simp [hz]))]
theorem split_join {l : List S8} (h0 : l ≠ []) (h : ∀ y ∈ l, (32 : UInt8) ∉ y) : splitAt 32 (joinS l) = l := by
  cases l with
  | nil => exact absurd rfl h0
  | cons x r =>
    show splitAt 32 (Lib.join (x :: r) [32]) = _
    rw [Lib.join_cons]
    exact split_tail r x (h x (by simp)) (fun y hy => h y (by simp [hy]))
def tot (l : List S8) : Nat := (l.map fun x => x.length + 1).sum
theorem tot_tail (l : List S8) : (Lib.joinTail [32] l).length = tot l := by
  induction l with
  | nil => rfl
  | cons x l ih =>
    have e : Lib.joinTail [32] (x :: l) = [32] ++ x ++ Lib.joinTail [32] l := by simp [Lib.joinTail]
    rw [e]
    unfold tot at ih ⊢
    rw [List.map_cons, List.sum_cons, ← ih]
    simp only [List.length_append, List.length_singleton]
    omega
theorem join_tot (l : List S8) : (joinS l).length ≤ tot l := by
  cases l with
  | nil => exact Nat.zero_le _
  | cons x l =>
    show (Lib.join (x :: l) [32]).length ≤ _
    rw [Lib.join_cons, List.length_append, tot_tail]
    unfold tot
    rw [List.map_cons, List.sum_cons]
    omega
theorem tot_append (a b : List S8) : tot (a ++ b) = tot a + tot b := by unfold tot; rw [List.map_append, List.sum_append]
theorem tot_le (B : Nat) : ∀ (l : List S8), (∀ x ∈ l, x.length ≤ B) → tot l ≤ l.length * (B + 1) := by
  intro l
  induction l with
  | nil => intro _; exact Nat.zero_le _
  | cons x l ih =>
    intro h
    have hx := h x (by simp)
    have hl := ih (fun y hy => h y (by simp [hy]))
    unfold tot at hl ⊢
    rw [List.map_cons, List.sum_cons, List.length_cons, Nat.add_mul]
    omega

/-! ### No spaces -/

theorem nosp_all {s : S8} {p : UInt8 → Bool} (hp : p 32 = false) (h : s.all p = true) : (32 : UInt8) ∉ s := fun hm => by
  have := List.all_eq_true.1 h _ hm
  rw [hp] at this; cases this
theorem nosp_name {s : S8} (h : nameS s = true) : (32 : UInt8) ∉ s := nosp_all (by decide) (name_iff h).2.2
theorem nosp_quo (s : S8) : (32 : UInt8) ∉ quoS s := nosp_all (by decide) (fine_quo s)
theorem nosp_dec (u : Nat) : (32 : UInt8) ∉ Lib.decDigits u := nosp_all (by decide) (dec_val u).2.1
theorem nosp_itoa (n : Int) : (32 : UInt8) ∉ Lib.itoa n := by
  unfold Lib.itoa
  split
  · rw [List.mem_cons, not_or]
    exact ⟨by decide, nosp_dec _⟩
  · exact nosp_dec _
theorem nosp_may {s : S8} (h : optS s = true) : (32 : UInt8) ∉ mayS s := by
  unfold mayS
  cases he : strEq s [] with
  | true => show (32 : UInt8) ∉ [45]; decide
  | false =>
    rcases optS_iff h with rfl | h
    · cases he
    · exact nosp_name h
theorem nosp_tru (b : Bool) : (32 : UInt8) ∉ truS b := by cases b <;> decide
theorem nosp_word (k : Int) (h : btw k 1 15 = true) : (32 : UInt8) ∉ wordS k := by
  rcases kinds h with rfl | rfl | rfl | rfl | rfl | rfl | rfl | rfl | rfl | rfl | rfl | rfl | rfl | rfl | rfl <;> decide
theorem nosp_exw (k : Int) (h : btw k 1 4 = true) : (32 : UInt8) ∉ exwS k := by
  have := btw_iff.1 h
  rcases (by omega : k = 1 ∨ k = 2 ∨ k = 3 ∨ k = 4) with rfl | rfl | rfl | rfl <;> decide
theorem nosp_prp {l : List E} (h : propsE l = 0) : ∀ z ∈ l.map prpS, (32 : UInt8) ∉ z := by
  intro z hz
  obtain ⟨x, hx, rfl⟩ := List.mem_map.1 hz
  obtain ⟨i, hi, rfl⟩ := List.mem_iff_getElem.1 hx
  have := (props_ok h).2 i hi
  rw [getD_at hi] at this
  have hk := nosp_all (p := nameC) (by decide) (keyS_iff this.1).2.2
  unfold prpS
  simp only [List.mem_append, not_or]
  exact ⟨⟨hk, by decide⟩, nosp_quo _⟩

/-! ### Read back -/

theorem numR_itoa {n : Int} (h : I64 n) : numR (Lib.itoa n) = .ok n := by
  obtain ⟨h1, h2⟩ := itoa_num n
  rw [numR_yes h1 (by rw [h2]; exact inI64_iff.2 h), h2]
theorem kndR_exw {k : Int} (h : btw k 1 4 = true) : kndR (exwS k) = .ok k := by
  have := btw_iff.1 h
  rcases (by omega : k = 1 ∨ k = 2 ∨ k = 3 ∨ k = 4) with rfl | rfl | rfl | rfl <;> rfl
theorem optR_may {s : S8} (h : optS s = true) : optR (mayS s) = .ok s := by
  unfold mayS
  rw [strEq_dec]
  by_cases e : s = []
  · rw [dec_yes e, e]; rfl
  · rw [dec_no e]
    show optR s = _
    have hn := (optS_iff h).resolve_left e
    unfold optR
    rw [if_neg e, if_neg]
    rintro rfl
    revert hn; decide
theorem txtR_quo (s : S8) : txtR (quoS s) = .ok s := by unfold txtR; rw [unqS_quo]
theorem truR_tru (b : Bool) : truR (truS b) = .ok b := by cases b <;> rfl
theorem ib_app {k : S8} (hk : (61 : UInt8) ∉ k) (v : S8) : Lib.indexByte (k ++ 61 :: v) 61 = (k.length : Int) := by
  induction k with
  | nil => show Lib.indexByte (61 :: v) 61 = 0; rw [Lib.indexByte]; rfl
  | cons c k ih =>
    rw [List.mem_cons, not_or] at hk
    show Lib.indexByte (c :: (k ++ 61 :: v)) 61 = _
    rw [Lib.indexByte, if_neg (by simpa using fun e => hk.1 e.symm), ih hk.2, if_neg (by simp)]
    rw [List.length_cons]; omega
theorem nosp61 {s : S8} (h : s.all nameC = true) : (61 : UInt8) ∉ s := fun hm => by
  have := List.all_eq_true.1 h _ hm
  rw [show nameC 61 = false from by decide] at this
  cases this
theorem prpR1_back {x : E} (hp : IsProp x) (hk : keyS (pK x) = true) : prpR1 (prpS x) = .ok x := by
  obtain ⟨k, v, rfl, _, _⟩ := hp
  have hk : keyS k = true := hk
  have h61 := nosp61 (keyS_iff hk).2.2
  have e : prpS (.agg [.str k, .str v]) = k ++ 61 :: quoS v := by
    show k ++ [61] ++ quoS v = _
    rw [List.append_assoc]; rfl
  unfold prpR1 cutP
  rw [e, ib_app h61, if_pos (by omega), nat_at, List.take_left' rfl]
  have hd : List.drop (k.length + 1) (k ++ 61 :: quoS v) = quoS v := by
    rw [show k ++ 61 :: quoS v = (k ++ [61]) ++ quoS v by simp, List.drop_left' (by simp)]
  rw [hd]
  show (txtR (quoS v)).map _ = _
  rw [txtR_quo]; rfl
theorem prpsR_back : ∀ {l : List E}, (∀ x ∈ l, IsProp x ∧ keyS (pK x) = true) → prpsR (l.map prpS) = .ok l := by
  intro l
  induction l with
  | nil => intro _; rfl
  | cons x l ih =>
    intro h
    show (prpR1 (prpS x)).bind _ = _
    have hx := h x (by simp)
    rw [prpR1_back hx.1 hx.2]
    show (prpsR (l.map prpS)).bind _ = _
    rw [ih (fun y hy => h y (by simp [hy]))]; rfl
theorem props_back {l : List E} (hp : PropsOk l) (h : propsE l = 0) : prpsR (l.map prpS) = .ok l := by
  refine prpsR_back fun x hx => ⟨hp.2 x hx, ?_⟩
  obtain ⟨i, hi, rfl⟩ := List.mem_iff_getElem.1 hx
  have := (props_ok h).2 i hi
  rw [getD_at hi] at this
  exact this.1

/-! ### A valid request uses all that it bears -/

theorem eqP_eq {x y : E} (hx : IsProp x) (hy : IsProp y) (h : eqP x y = true) : x = y := by
  obtain ⟨k, v, rfl, _, _⟩ := hx
  obtain ⟨k', v', rfl, _, _⟩ := hy
  have h : (strEq k k' && (strEq v v' && true)) = true := h
  rw [strEq_dec, strEq_dec, Bool.and_true, Bool.and_eq_true, decide_eq_true_eq, decide_eq_true_eq] at h
  rw [h.1, h.2]
theorem eqProps_eq {a b : List E} (ha : PropsOk a) (hb : PropsOk b) (h : eqProps a b = true) : a = b := by
  unfold eqProps at h
  rw [Bool.and_eq_true] at h
  have hl : a.length = b.length := by have := eq_of_beq h.1; omega
  have h2 := allFrom_iff.1 h.2
  refine List.ext_getElem hl fun i h1 h3 => ?_
  have := h2 i (Nat.zero_le _) (by omega)
  rw [getD_at h1, getD_at h3] at this
  exact eqP_eq (ha.2 _ (List.getElem_mem h1)) (hb.2 _ (List.getElem_mem h3)) this
theorem propsOk_nil : PropsOk [] := ⟨Nat.zero_le _, fun x hx => by cases hx⟩
theorem seq_eq {a b : S8} (h : strEq a b = true) : a = b := by rw [strEq_dec] at h; exact of_decide_eq_true h
theorem used_eq {r : Req} (hr : ReqOk r) (h : sameR r (usedR r) = true) : usedR r = r := by
  have hm : PropsOk (usedR r).bd.mtch := by
    show PropsOk (bif r.kind == 3 || r.kind == 4 then r.bd else .zero).mtch
    cases (r.kind == 3 || r.kind == 4)
    · exact propsOk_nil
    · exact hr.mtch
  have hp : PropsOk (usedR r).msg.props := by
    show PropsOk (bif r.kind == 5 then r.msg else .zero).props
    cases (r.kind == 5)
    · exact propsOk_nil
    · exact hr.props
  generalize usedR r = q at h hm hp
  unfold sameR sameX sameS sameB sameM at h
  simp only [Bool.and_eq_true, Bool.and_true, beq_iff_eq] at h
  obtain ⟨⟨⟨⟨⟨⟨⟨⟨⟨⟨⟨a1, a2⟩, a3⟩, a4⟩, a5⟩, a6⟩, a7⟩, a8⟩, ⟨b1, b2, b3⟩⟩, ⟨c1, c2, c3, c4, c5⟩⟩, ⟨⟨⟨⟨d1, d2⟩, d3⟩, d4⟩, d5⟩⟩, ⟨⟨⟨⟨⟨⟨⟨⟨e1, e2⟩, e3⟩, e4⟩, e5⟩, e6⟩, e7⟩, e8⟩, e9⟩⟩ := h
  have d5 := eqProps_eq hr.mtch hm d5
  have e9 := eqProps_eq hr.props hp e9
  obtain ⟨k, c, s, t, l, f, n, y, ⟨x0, x1, x2⟩, ⟨s0, s1, s2, s3, s4⟩, ⟨u0, u1, u2, u3, u4⟩, ⟨m0, m1, m2, m3, m4, m5, m6, m7, m8⟩⟩ := r
  obtain ⟨k', c', s', t', l', f', n', y', ⟨x0', x1', x2'⟩, ⟨s0', s1', s2', s3', s4'⟩, ⟨u0', u1', u2', u3', u4'⟩, ⟨m0', m1', m2', m3', m4', m5', m6', m7', m8'⟩⟩ := q
  simp only at a1 a2 a3 a4 a5 a6 a7 a8 b1 b2 b3 c1 c2 c3 c4 c5 d1 d2 d3 d4 d5 e1 e2 e3 e4 e5 e6 e7 e8 e9
  rw [a1, a2, a3, a4, a5, a6, seq_eq a7, seq_eq a8, seq_eq b1, b2, seq_eq b3, seq_eq c1, c2, c3, c4, seq_eq c5, seq_eq d1, seq_eq d2, seq_eq d3, d4, d5, seq_eq e1, seq_eq e2, e3, e4, e5, e6, seq_eq e7, e8, e9]

end Go.Proofs.YtmocefjnplmibaaGreatDoor
