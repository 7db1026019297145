/- Regions that draw their order. -/
import Derived.Test.YtdlfldeacoiokaaDn20
import Derived.Test.YtdlfldeacoiokaaDn18
import Derived.Orders
namespace Go.Den
open Go

/-! ### What comes ahead of what -/

theorem ancs_keep : ∀ (l : List Oper) (acc : List Nat) (j : Nat), j < acc.length → (ancs l acc)[j]? = acc[j]?
  | [], _, _, _ => rfl
  | o :: l, acc, j, h => by
    unfold ancs
    rw [ancs_keep l _ j (by simp; omega), List.getElem?_append_left h]

theorem fold_bits {acc : List Nat} {t : Nat} : ∀ (es : List Edge) (s : Nat), (es.foldl (fun s e => if Region.binds .any e then s ||| 2 ^ e.on ||| acc.getD e.on 0 else s) s).testBit t = true →
    s.testBit t = true ∨ ∃ e ∈ es, Region.binds .any e = true ∧ (e.on = t ∨ (acc.getD e.on 0).testBit t = true)
  | [], s, h => .inl h
  | e :: es, s, h => by
    simp only [List.foldl_cons] at h
    rcases fold_bits es _ h with h | ⟨e', h1, h2⟩
    · split at h
      · rename_i hb
        rw [Nat.testBit_or, Nat.testBit_or, Nat.testBit_two_pow] at h
        simp only [Bool.or_eq_true, decide_eq_true_eq] at h
        rcases h with (h | h) | h
        · exact .inl h
        · exact .inr ⟨e, by simp, hb, .inl h⟩
        · exact .inr ⟨e, by simp, hb, .inr h⟩
      · exact .inl h
    · exact .inr ⟨e', by simp [h1], h2⟩

theorem ancs_spec' : ∀ (l : List Oper) (acc : List Nat) (i : Nat) (o : Oper) (t : Nat), l[i]? = some o → ((ancs l acc).getD (acc.length + i) 0).testBit t = true →
    ∃ e ∈ o.after.toList, Region.binds .any e = true ∧ (e.on = t ∨ ((ancs l acc).getD e.on 0).testBit t = true)
  | [], _, _, _, _, h, _ => by simp at h
  | o :: l, acc, 0, o', t, h, hb => by
    simp at h; subst h
    unfold ancs at hb ⊢
    rw [List.getD_eq_getElem?_getD, ancs_keep _ _ _ (by simp), Nat.add_zero, List.getElem?_append_right (Nat.le_refl _), Nat.sub_self] at hb
    simp only [List.getElem?_cons_zero, Option.getD_some] at hb
    rcases fold_bits _ _ hb with hb | ⟨e, h1, h2, h3⟩
    · simp at hb
    · refine ⟨e, h1, h2, h3.imp (fun h => h) fun h3 => ?_⟩
      have hl : e.on < acc.length := by
        rcases Nat.lt_or_ge e.on acc.length with h | h
        · exact h
        · rw [List.getD_eq_getElem?_getD, List.getElem?_eq_none h] at h3; simp at h3
      rw [List.getD_eq_getElem?_getD, ancs_keep _ _ _ (by simp; omega), List.getElem?_append_left hl, ← List.getD_eq_getElem?_getD]
      exact h3
  | o :: l, acc, i + 1, o', t, h, hb => by
    unfold ancs at hb ⊢
    refine ancs_spec' l _ i o' t (by simpa using h) ?_
    rw [List.length_append, List.length_singleton, show acc.length + 1 + i = acc.length + (i + 1) from by omega]
    exact hb

abbrev Item.op (q : Item) : Oper := q.1
abbrev Item.at (q : Item) : Nat := q.2.1
abbrev Item.an (q : Item) : Nat := q.2.2.1
abbrev Item.new (q : Item) : Nat := q.2.2.2

/-- Of two operations the second comes once more, and the first does not wait for it. -/
def Ahead (p q : Item) : Prop := p.at ≠ q.at ∧ ∀ e ∈ p.op.after, Region.binds .any e = true → e.on ≠ q.at

theorem orderOk_not : ∀ (l : List Item) (d : Nat), orderOk l d = true → ∀ q ∈ l, d.testBit q.at = false
  | [], _, _, _, h => by cases h
  | (o, i, an, k) :: l, d, h, q, hq => by
    simp only [orderOk, Bool.and_eq_true, Bool.not_eq_true'] at h
    rcases List.mem_cons.1 hq with rfl | hq
    · exact h.1.1
    · have := orderOk_not l _ h.2 q hq
      rw [Nat.testBit_or] at this
      simp only [Bool.or_eq_false_iff] at this
      exact this.1

theorem orderOk_spec : ∀ (l : List Item) (d : Nat), orderOk l d = true → l.Pairwise Ahead ∧ ∀ q ∈ l, ∀ e ∈ q.op.after, Region.binds .any e = true → e.on ≠ q.at ∧ (d.testBit e.on = true ∨ ∃ p ∈ l, p.at = e.on)
  | [], _, _ => ⟨.nil, fun q h => by cases h⟩
  | (o, i, an, k) :: l, d, h => by
    have hno := orderOk_not _ _ h
    simp only [orderOk, Bool.and_eq_true, Bool.not_eq_true', List.all_eq_true, Bool.or_eq_true] at h
    obtain ⟨⟨h1, h2⟩, h3⟩ := h
    have hno' := orderOk_not _ _ h3
    obtain ⟨ih1, ih2⟩ := orderOk_spec l _ h3
    have hd : ∀ e ∈ o.after, Region.binds .any e = true → d.testBit e.on = true := fun e he hb => (h2 e (by simpa using he)).resolve_left (by simp [hb])
    refine ⟨List.pairwise_cons.2 ⟨fun q hq => ⟨?_, fun e he hb heq => ?_⟩, ih1⟩, fun q hq => ?_⟩
    · intro heq
      have := hno' q hq
      rw [← show i = q.at from heq, Nat.testBit_or, Nat.testBit_two_pow] at this
      simp at this
    · have h4 := hd e he hb
      have h5 := hno q (by simp [hq])
      rw [heq] at h4; rw [h4] at h5; cases h5
    · rcases List.mem_cons.1 hq with rfl | hq
      · intro e he hb
        refine ⟨fun heq => ?_, .inl (hd e he hb)⟩
        have h4 := hd e he hb
        rw [heq] at h4
        exact absurd h4 (by simp only [Item.at]; rw [h1]; simp)
      · intro e he hb
        obtain ⟨h4, h5⟩ := ih2 q hq e he hb
        refine ⟨h4, ?_⟩
        rcases h5 with h5 | ⟨p, h5, h6⟩
        · rw [Nat.testBit_or, Nat.testBit_two_pow] at h5
          simp only [Bool.or_eq_true, decide_eq_true_eq] at h5
          rcases h5 with h5 | h5
          · exact .inl h5
          · exact .inr ⟨(o, i, an, k), by simp, h5⟩
        · exact .inr ⟨p, by simp [h5], h6⟩

theorem laid_spec {P : Program} {ops : List Oper} {as : List Nat} : ∀ (l : List Nat) (n : Nat) (r : List Item), laid P ops as l n = some r → ∀ q ∈ r, ops[q.at]? = some q.op ∧ q.an = as.getD q.at 0
  | [], _, _, h, q, hq => by injection h with h; subst h; cases hq
  | i :: l, n, r, h, q, hq => by
    unfold laid at h
    split at h
    · rename_i o ho
      obtain ⟨r', hr', rfl⟩ := Option.map_eq_some_iff.1 h
      rcases List.mem_cons.1 hq with rfl | hq
      · exact ⟨ho, rfl⟩
      · exact laid_spec l _ r' hr' q hq
    · cases h

theorem apartOk_spec {arr : Array Oper} : ∀ (l : List Item), apartOk arr l = true → l.Pairwise fun p q => q.an.testBit p.at = true ∨ p.op.apart arr q.op = true
  | [], _ => .nil
  | (o, i, an, k) :: l, h => by
    simp only [apartOk, Bool.and_eq_true, List.all_eq_true, Bool.or_eq_true] at h
    exact List.pairwise_cons.2 ⟨fun q hq => h.1 q hq, apartOk_spec l h.2⟩

/-- What is still to come, and what has come. -/
structure Left (arr : Array Oper) (anc : Nat → Nat) (listed : Array Bool) (rem : List Item) : Prop where
  size : listed.size = arr.size
  mem : ∀ j, listed.getD j true = false ↔ ∃ q ∈ rem, q.at = j
  op : ∀ q ∈ rem, arr[q.at]? = some q.op ∧ q.an = anc q.at
  order : rem.Pairwise Ahead
  self : ∀ q ∈ rem, ∀ e ∈ q.op.after, Region.binds .any e = true → e.on ≠ q.at ∧ e.on < arr.size
  down : ∀ j, listed.getD j false = true → ∀ t, (anc j).testBit t = true → listed.getD t false = true
  anc : ∀ q ∈ rem, ∀ t, (anc q.at).testBit t = true → ∃ e ∈ q.op.after, Region.binds .any e = true ∧ (e.on = t ∨ (anc e.on).testBit t = true)

section
variable {arr : Array Oper} {anc : Nat → Nat} {listed : Array Bool} {rem : List Item}

theorem getD_tf {listed : Array Bool} {j : Nat} (h : j < listed.size) : listed.getD j false = !(!listed.getD j true) := by simp [h]

theorem Left.come (h : Left arr anc listed rem) {j : Nat} (hj : j < arr.size) (hn : ∀ q ∈ rem, q.at ≠ j) : listed.getD j false = true := by
  have hj' : j < listed.size := by rw [h.size]; exact hj
  cases hb : listed.getD j true with
  | false => obtain ⟨q, h1, h2⟩ := (h.mem j).1 hb; exact absurd h2 (hn q h1)
  | true => simp [hj'] at hb ⊢; exact hb

theorem Left.unlisted (h : Left arr anc listed rem) {q : Item} (hq : q ∈ rem) : listed.getD q.at false = false := by
  have h1 := (h.mem q.at).2 ⟨q, hq, rfl⟩
  have hj' : q.at < listed.size := by rw [h.size]; exact (Array.getElem?_eq_some_iff.1 (h.op q hq).1).1
  simp [hj'] at h1 ⊢; exact h1

/-- What is ready is among what is to come, and nothing of that comes ahead of it. -/
theorem Left.ready (h : Left arr anc listed rem) {j : Nat} (hj : j ∈ Region.ready .any arr listed) : ∃ q ∈ rem, q.at = j ∧ ∀ p ∈ rem, q.an.testBit p.at = false := by
  obtain ⟨h1, o, ho, h2⟩ := mem_ready.1 hj
  obtain ⟨q, hq, rfl⟩ := (h.mem j).1 h1
  refine ⟨q, hq, rfl, fun p hp => ?_⟩
  obtain ⟨h3, h4⟩ := h.op q hq
  rw [ho] at h3; injection h3 with h3; subst h3
  cases hb : q.an.testBit p.at with
  | false => rfl
  | true =>
    exfalso
    rw [h4] at hb
    obtain ⟨e, he, hbi, hor⟩ := h.anc q hq _ hb
    have h5 := h2 e he hbi
    have h6 := h.unlisted hp
    rcases hor with hor | hor
    · rw [hor, h6] at h5; cases h5
    · have := h.down _ h5 _ hor
      rw [h6] at this; cases this

theorem Left.first (h : Left arr anc listed rem) {q : Item} {l : List Item} (hr : rem = q :: l) : q.at ∈ Region.ready .any arr listed := by
  have hq : q ∈ rem := by rw [hr]; simp
  rw [mem_ready]
  refine ⟨(h.mem _).2 ⟨q, hq, rfl⟩, q.op, (h.op q hq).1, fun e he hb => ?_⟩
  obtain ⟨h1, h2⟩ := h.self q hq e he hb
  refine h.come h2 fun p hp heq => ?_
  have ho := h.order
  rw [hr] at ho hp
  rcases List.mem_cons.1 hp with rfl | hp
  · exact h1 heq.symm
  · exact ((List.pairwise_cons.1 ho).1 p hp).2 e he hb heq.symm

theorem Left.none (h : Left arr anc listed []) : Region.ready .any arr listed = [] := by
  cases hr : Region.ready .any arr listed with
  | nil => rfl
  | cons j js =>
    obtain ⟨q, hq, _⟩ := h.ready (j := j) (by rw [hr]; simp)
    cases hq

theorem Left.take {pre post : List Item} {q : Item} (h : Left arr anc listed (pre ++ q :: post)) (hr : q.at ∈ Region.ready .any arr listed) : Left arr anc (listed.setIfInBounds q.at true) (pre ++ post) := by
  have hsub : (pre ++ post).Sublist (pre ++ q :: post) := List.Sublist.append_left (List.sublist_cons_self q post) pre
  have hqm : q ∈ pre ++ q :: post := by simp
  have hqs : q.at < listed.size := by rw [h.size]; exact (Array.getElem?_eq_some_iff.1 (h.op q hqm).1).1
  have hne : ∀ p ∈ pre ++ post, p.at ≠ q.at := by
    intro p hp
    have ho := List.pairwise_append.1 h.order
    rcases List.mem_append.1 hp with hp | hp
    · exact (ho.2.2 p hp q (by simp)).1
    · exact fun e => ((List.pairwise_cons.1 ho.2.1).1 p hp).1 e.symm
  refine ⟨by simpa using h.size, fun j => ?_, fun p hp => h.op p (hsub.subset hp), h.order.sublist hsub, fun p hp => h.self p (hsub.subset hp), ?_, fun p hp => h.anc p (hsub.subset hp)⟩
  · by_cases hj : q.at = j
    · subst hj
      constructor
      · intro h1; simp [hqs] at h1
      · rintro ⟨p, hp, he⟩; exact absurd he (hne p hp)
    · rw [getD_set_ne true hj, h.mem j]
      constructor
      · rintro ⟨p, hp, rfl⟩
        refine ⟨p, ?_, rfl⟩
        rcases List.mem_append.1 hp with hp | hp
        · exact List.mem_append_left _ hp
        · rcases List.mem_cons.1 hp with rfl | hp
          · exact absurd rfl hj
          · exact List.mem_append_right _ hp
      · rintro ⟨p, hp, rfl⟩; exact ⟨p, hsub.subset hp, rfl⟩
  · intro j hj t ht
    by_cases hjq : q.at = j
    · subst hjq
      obtain ⟨e, he, hb, hor⟩ := h.anc q hqm t ht
      obtain ⟨_, o, ho, h2⟩ := mem_ready.1 hr
      rw [(h.op q hqm).1] at ho; injection ho with ho; subst ho
      have h5 := h2 e he hb
      rcases hor with rfl | hor
      · exact getD_set_true h5
      · exact getD_set_true (h.down _ h5 _ hor)
    · rw [getD_set_ne false hjq] at hj
      exact getD_set_true (h.down j hj t ht)

end

/-! ### The steps of a region, one behind the other -/

abbrev Ev := Item × AV × Foot

section
variable {P : Program} {H : Hints} {run : RunF} {arr : Array Oper} {fr fr2 : Fr} {σ σ2 : Heap}

inductive Trace (P : Program) (H : Hints) (run : RunF) (ops : List Oper) : List Ev → Fr → Heap → Fr → Heap → Prop
  | nil (fr : Fr) (σ : Heap) : Trace P H run ops [] fr σ fr σ
  | cons (q : Item) (v : AV) (ft : Foot) (l : List Ev) (fr : Fr) (σ σ1 : Heap) (fr2 : Fr) (σ2 : Heap) (h : Step P H run ops q.op q.new fr σ v σ1 ft) (hl : Trace P H run ops l (put fr q.op.dst v) σ1 fr2 σ2) :
      Trace P H run ops ((q, v, ft) :: l) fr σ fr2 σ2

/-- Two steps of which the first comes ahead of the second, or may change places with it. -/
def Free (arr : Array Oper) (p q : Ev) : Prop := q.1.an.testBit p.1.at = true ∨ (apartF p.2.2 q.2.2 = true ∧ p.1.op.apart arr q.1.op = true)

theorem Trace.bubble {q : Item} {v : AV} {ft : Foot} {post : List Ev} : ∀ (pre : List Ev) (fr : Fr) (σ : Heap), Trace P H run arr.toList (pre ++ (q, v, ft) :: post) fr σ fr2 σ2 →
    (∀ p ∈ pre, apartF p.2.2 ft = true ∧ p.1.op.apart arr q.op = true) → ∃ σ1, Step P H run arr.toList q.op q.new fr σ v σ1 ft ∧ Trace P H run arr.toList (pre ++ post) (put fr q.op.dst v) σ1 fr2 σ2
  | [], fr, σ, h, _ => by
    cases h with
    | cons q v ft l fr σ σ1 fr2 σ2 h hl => exact ⟨σ1, h, hl⟩
  | p :: pre, fr, σ, h, hf => by
    cases h with
    | cons q' v' ft' l fr σ σ1 fr2 σ2 h hl =>
      obtain ⟨σ3, h1, h2⟩ := Trace.bubble pre _ _ hl fun p' hp => hf p' (by simp [hp])
      obtain ⟨ha, hb⟩ := hf (q', v', ft') (by simp)
      obtain ⟨τ, h3, h4, h5⟩ := h.swap hb ha h1
      refine ⟨τ, h3, .cons q' v' ft' _ _ _ _ _ _ h4 ?_⟩
      rw [← h5]; exact h2

theorem put_put (fr : Fr) (d : Option Nat) (v u : AV) : put (put fr d v) d u = put fr d u := by
  cases d with
  | none => rfl
  | some d => simp [put]

theorem foldl_undef_put : ∀ (ops : List Oper) (fr : Fr) (d : Option Nat) (v : AV), (∃ o ∈ ops, o.dst = d) → ops.foldl (fun f q => put f q.dst .undef) (put fr d v) = ops.foldl (fun f q => put f q.dst .undef) fr
  | [], _, _, _, ⟨o, h, _⟩ => by cases h
  | q :: ops, fr, d, v, ⟨o, h, hd⟩ => by
    simp only [List.foldl_cons]
    by_cases hq : q.dst = d
    · subst hq; rw [put_put]
    · have ho : ∃ o ∈ ops, o.dst = d := by
        rcases List.mem_cons.1 h with rfl | h
        · exact absurd hd hq
        · exact ⟨o, h, hd⟩
      have : put (put fr d v) q.dst .undef = put (put fr q.dst .undef) d v := put_comm' fun x hx hy => hq (hx ▸ hy)
      rw [this]
      exact foldl_undef_put ops _ d v ho

theorem Trace.undef {ops : List Oper} {l : List Ev} (h : Trace P H run ops l fr σ fr2 σ2) (ho : ∀ e ∈ l, e.1.op ∈ ops) : ops.foldl (fun f q => put f q.dst .undef) fr2 = ops.foldl (fun f q => put f q.dst .undef) fr := by
  induction h with
  | nil fr σ => rfl
  | cons q v ft l fr σ σ1 fr2 σ2 h hl ih =>
    rw [ih fun e he => ho e (by simp [he])]
    exact foldl_undef_put _ _ _ _ ⟨q.op, ho (q, v, ft) (by simp), rfl⟩

theorem Step.idle {ops : List Oper} {o : Oper} {k : Nat} {v : AV} {ft : Foot} (h : Step P H run ops o k fr σ v σ2 ft) (hw : ft.wr = []) : σ2 = σ := by
  obtain ⟨pat, e, h1, h2, h3, h4, _⟩ := h.local
  have he : e = [] := by
    cases e with
    | nil => rfl
    | cons x e =>
      have := h3 σ.length (Nat.le_refl _) (by simp)
      rw [hw] at this; cases this
  subst he
  rw [h4]
  have : pat = nopat := by
    funext i
    cases hp : pat i with
    | none => rfl
    | some q =>
      have := h1 i (by rw [hp]; simp)
      rw [hw] at this; cases this
  rw [this, patch_nop]

theorem Trace.idle {ops : List Oper} {l : List Ev} (h : Trace P H run ops l fr σ fr2 σ2) (hw : ∀ e ∈ l, e.2.2.wr = []) : σ2 = σ := by
  induction h with
  | nil fr σ => rfl
  | cons q v ft l fr σ σ1 fr2 σ2 h hl ih =>
    rw [ih fun e he => hw e (by simp [he])]
    exact h.idle (hw (q, v, ft) (by simp))

theorem Trace.same {o : Oper} {l : List Ev} (h : Trace P H run arr.toList l fr σ fr2 σ2) (ha : ∀ e ∈ l, e.1.op.apart arr o = true) : SameAt arr o fr2 fr := by
  induction h with
  | nil fr σ => exact fun t _ => rfl
  | cons q v ft l fr σ σ1 fr2 σ2 h hl ih =>
    have h1 := ih fun e he => ha e (by simp [he])
    obtain ⟨a1, _, _⟩ := Oper.apart_spec (ha (q, v, ft) (by simp))
    have h2 : SameAt arr o fr (put fr q.op.dst v) := same_put a1
    exact fun t ht => (h2 t ht).symm.trans (h1 t ht)

theorem apartF_no (f : Foot) : apartF f .no = true := by simp [apartF, Foot.no]

end
end Go.Den
