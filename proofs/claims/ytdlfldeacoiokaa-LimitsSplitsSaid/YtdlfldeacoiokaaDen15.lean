/- Objects numbered anew: what a value says of them stays said, in both ways. -/
import Derived.Test.YtdlfldeacoiokaaDen14
namespace Go.Den
open Go

theorem addNew_prefix : ∀ (is acc : List Nat), ∃ t, addNew acc is = acc ++ t
  | [], acc => ⟨[], by simp [addNew]⟩
  | i :: is, acc => by
    unfold addNew
    obtain ⟨t, ht⟩ := addNew_prefix is (if acc.contains i then acc else acc ++ [i])
    split at ht
    · rename_i hc; rw [if_pos hc]; exact ⟨t, ht⟩
    · rename_i hc; rw [if_neg hc]; exact ⟨i :: t, by rw [ht]; simp⟩

theorem addNew_mem : ∀ (is acc : List Nat) (x : Nat), x ∈ is → x ∈ addNew acc is
  | i :: is, acc, x, h => by
    unfold addNew
    rcases List.mem_cons.1 h with h | h
    · subst h
      obtain ⟨t, ht⟩ := addNew_prefix is (if acc.contains x then acc else acc ++ [x])
      rw [ht]
      by_cases hc : acc.contains x = true
      · rw [if_pos hc]; simp at hc; simp [hc]
      · rw [if_neg hc]; simp
    · exact addNew_mem is _ x h

theorem addNew_nodup : ∀ (is acc : List Nat), acc.Nodup → (addNew acc is).Nodup
  | [], acc, h => by simpa [addNew] using h
  | i :: is, acc, h => by
    unfold addNew
    refine addNew_nodup is _ ?_
    split
    · exact h
    · rename_i hc
      simp at hc
      rw [List.nodup_append]
      exact ⟨h, by simp, fun a ha b hb => by simp at hb; subst hb; rintro rfl; exact hc ha⟩

theorem closure_prefix (σ : Heap) : ∀ (k : Nat) (ids : List Nat), ∃ t, closure σ k ids = ids ++ t
  | 0, ids => ⟨[], by simp [closure]⟩
  | k + 1, ids => by
    unfold closure
    obtain ⟨t, ht⟩ := addNew_prefix (ids.flatMap fun id => match σ[id]? with | some o => o.ids | none => []) ids
    obtain ⟨t', ht'⟩ := closure_prefix σ k (addNew ids (ids.flatMap fun id => match σ[id]? with | some o => o.ids | none => []))
    exact ⟨t ++ t', ht'.trans (by rw [ht, List.append_assoc])⟩

theorem closure_mem (σ : Heap) (k : Nat) (ids : List Nat) (x : Nat) (h : x ∈ ids) : x ∈ closure σ k ids := by
  obtain ⟨t, ht⟩ := closure_prefix σ k ids
  rw [ht]; simp [h]

theorem closure_nodup (σ : Heap) : ∀ (k : Nat) (ids : List Nat), ids.Nodup → (closure σ k ids).Nodup
  | 0, _, h => h
  | k + 1, _, h => closure_nodup σ k _ (addNew_nodup _ _ h)

theorem idx_spec {ids : List Nat} {id : Nat} (h : id ∈ ids) : ids[idx ids id]? = some id := by
  have h1 : ids.findIdx (· == id) < ids.length := List.findIdx_lt_length_of_exists ⟨id, h, by simp⟩
  have h2 := List.findIdx_getElem (w := h1)
  unfold idx
  rw [List.getElem?_eq_getElem h1]
  simpa using h2

theorem nodup_inj {ids : List Nat} (hn : ids.Nodup) {i j id : Nat} (h : ids[i]? = some id) (h' : ids[j]? = some id) : i = j := by
  have hi := (List.getElem?_eq_some_iff.1 h).1
  exact (List.getElem?_inj hi hn).1 (h.trans h'.symm)

theorem idx_at {ids : List Nat} (hn : ids.Nodup) {k id : Nat} (h : ids[k]? = some id) : idx ids id = k :=
  nodup_inj hn (idx_spec (List.mem_of_getElem? h)) h

theorem unidx_at {ids : List Nat} {k id : Nat} (h : ids[k]? = some id) : unidx ids k = id := by
  simp [unidx, List.getD_eq_getElem?_getD, h]

theorem subHeap_spec {σ σ1 : Heap} {ids : List Nat} (h : subHeap σ ids = some σ1) :
    σ1.length = ids.length ∧ ∀ (k id : Nat), ids[k]? = some id → ∃ o, σ[id]? = some o ∧ (∀ x ∈ o.ids, x ∈ ids) ∧ σ1[k]? = some (o.ren (idx ids)) := by
  obtain ⟨h1, h2⟩ := mapM_some_get h
  refine ⟨h1, fun k id hk => ?_⟩
  obtain ⟨y, hy, hy'⟩ := h2 k id hk
  cases ho : σ[id]? with
  | none => rw [ho] at hy; cases hy
  | some o =>
    simp only [ho] at hy
    by_cases hc : o.ids.all ids.contains = true
    · rw [if_pos hc] at hy
      injection hy with hy
      refine ⟨o, rfl, fun x hx => ?_, by rw [hy', hy]⟩
      have := List.all_eq_true.1 hc x hx
      simpa using this
    · rw [if_neg hc] at hy; cases hy

def subGr (ρ : Gr) (ids : List Nat) : Gr := ids.map fun id => ρ.getD id none

theorem subGr_get {ρ : Gr} {ids : List Nat} {k id : Nat} (h : ids[k]? = some id) (hl : id < ρ.length) : (subGr ρ ids)[k]? = ρ[id]? := by
  simp [subGr, List.getElem?_map, h, List.getD_eq_getElem?_getD, List.getElem?_eq_getElem hl]

theorem subGr_back {ρ : Gr} {ids : List Nat} {k : Nat} {g : Nat × Nat} (h : (subGr ρ ids)[k]? = some (some g)) : ∃ id, ids[k]? = some id ∧ ρ[id]? = some (some g) := by
  unfold subGr at h
  rw [List.getElem?_map] at h
  cases hk : ids[k]? with
  | none => rw [hk] at h; cases h
  | some id =>
    rw [hk] at h
    refine ⟨id, rfl, ?_⟩
    simp [List.getD_eq_getElem?_getD] at h
    cases hr : ρ[id]? with
    | none => rw [hr] at h; cases h
    | some x => rw [hr] at h; simp at h; rw [h]

section
variable {P : Program} {σ σ1 : Heap} {ρ : Gr} {S : Cells} {w : World} {ids : List Nat}

theorem VA1.sub (hl : ρ.length = σ.length) (hs : subHeap σ ids = some σ1) {v : AV} {cv : Value} (hv : VA1 P σ ρ S w v cv) (hi : ∀ x ∈ v.ids1, x ∈ ids) :
    VA1 P σ1 (subGr ρ ids) S w (v.ren1 (idx ids)) cv := by
  obtain ⟨h1, h2⟩ := subHeap_spec hs
  cases v with
  | own id et xs =>
    obtain ⟨h3, n, h4, h5, h6⟩ := hv
    have hk := idx_spec (hi id (by simp [AV.ids1]))
    obtain ⟨o, ho, _, ho'⟩ := h2 _ _ hk
    rw [h4] at ho; injection ho with ho; subst ho
    refine ⟨h3, n, ho', h5, fun he => ?_⟩
    have := h6 he
    unfold place at *
    rw [subGr_get hk (by rw [hl]; exact (List.getElem?_eq_some_iff.1 h4).1)]
    exact this
  | ptr id off =>
    obtain ⟨b, c, h3, ⟨cs, h4⟩, h5⟩ := hv
    have hk := idx_spec (hi id (by simp [AV.ids1]))
    obtain ⟨o, ho, _, ho'⟩ := h2 _ _ hk
    rw [h4] at ho; injection ho with ho; subst ho
    exact ⟨b, c, by rw [subGr_get hk (List.getElem?_eq_some_iff.1 h3).1]; exact h3, ⟨_, ho'⟩, h5⟩
  | e x => exact hv
  | nils et => exact hv
  | nilp => exact hv
  | pin et y off => exact hv
  | fn f => exact hv
  | undef => trivial
  | agg cs => exact hv.elim
  | tup vs => exact hv.elim

theorem ren1_one (r : Nat → Nat) {v : AV} (h : v.one = true) : (v.ren1 r).one = true := by
  cases v <;> first | exact h | rfl

theorem ren1_agg (r : Nat → Nat) {v : AV} (h : ∀ cs, v ≠ .agg cs) : v.ren2 r = v.ren1 r ∧ ∀ cs, v.ren1 r ≠ .agg cs := by
  cases v <;> first | exact absurd rfl (h _) | exact ⟨rfl, fun cs => by simp [AV.ren1]⟩
theorem ren2_tup (r : Nat → Nat) {v : AV} (h : ∀ cs, v ≠ .tup cs) : v.ren3 r = v.ren2 r ∧ ∀ cs, v.ren2 r ≠ .tup cs := by
  cases v <;> first | exact absurd rfl (h _) | exact ⟨rfl, fun cs => by simp [AV.ren2, AV.ren1]⟩
theorem ids2_one {v : AV} (h : ∀ cs, v ≠ .agg cs) : v.ids2 = v.ids1 := by
  cases v <;> first | rfl | exact absurd rfl (h _)
theorem ids3_two {v : AV} (h : ∀ cs, v ≠ .tup cs) : v.ids3 = v.ids2 := by
  cases v <;> first | rfl | exact absurd rfl (h _)

/-- From cells to values. -/
theorem lift2 {σ' : Heap} {ρ' : Gr} {S' : Cells} {w' : World} {r : Nat → Nat} {G : Nat → Prop}
    (h : ∀ (v : AV) (cv : Value), VA1 P σ ρ S w v cv → (∀ x ∈ v.ids1, G x) → VA1 P σ' ρ' S' w' (v.ren1 r) cv) {v : AV} {cv : Value} (hv : VA2 P σ ρ S w v cv)
    (hi : ∀ x ∈ v.ids2, G x) : VA2 P σ' ρ' S' w' (v.ren2 r) cv := by
  by_cases hh : ∃ cs, v = .agg cs
  · obtain ⟨cs, rfl⟩ := hh
    obtain ⟨arr, h1, h2, h3⟩ := hv
    refine ⟨arr, h1, by simpa using h2, fun j u hj => ?_⟩
    rw [List.getElem?_map] at hj
    obtain ⟨v, hv, rfl⟩ := Option.map_eq_some_iff.1 hj
    obtain ⟨ho, x, h4, h5⟩ := h3 j v hv
    exact ⟨ren1_one r ho, x, h4, h v x h5 fun y hy => hi y (List.mem_flatMap.2 ⟨v, List.mem_of_getElem? hv, hy⟩)⟩
  · have hn : ∀ cs, v ≠ .agg cs := fun cs e => hh ⟨cs, e⟩
    rw [VA2_eq hn] at hv
    rw [ids2_one hn] at hi
    rw [(ren1_agg r hn).1]
    exact (h v cv hv hi).to2

theorem lift3 {σ' : Heap} {ρ' : Gr} {S' : Cells} {w' : World} {r : Nat → Nat} {G : Nat → Prop}
    (h : ∀ (v : AV) (cv : Value), VA1 P σ ρ S w v cv → (∀ x ∈ v.ids1, G x) → VA1 P σ' ρ' S' w' (v.ren1 r) cv) {v : AV} {cv : Value} (hv : VA3 P σ ρ S w v cv)
    (hi : ∀ x ∈ v.ids3, G x) : VA3 P σ' ρ' S' w' (v.ren3 r) cv := by
  by_cases hh : ∃ cs, v = .tup cs
  · obtain ⟨cs, rfl⟩ := hh
    obtain ⟨arr, h1, h2, h3⟩ := hv
    refine ⟨arr, h1, by simpa using h2, fun j u hj => ?_⟩
    rw [List.getElem?_map] at hj
    obtain ⟨v, hv, rfl⟩ := Option.map_eq_some_iff.1 hj
    obtain ⟨x, h4, h5⟩ := h3 j v hv
    exact ⟨x, h4, lift2 h h5 fun y hy => hi y (List.mem_flatMap.2 ⟨v, List.mem_of_getElem? hv, hy⟩)⟩
  · have hn : ∀ cs, v ≠ .tup cs := fun cs e => hh ⟨cs, e⟩
    rw [VA3_eq hn] at hv
    rw [ids3_two hn] at hi
    rw [(ren2_tup r hn).1]
    exact (lift2 h hv hi).to3

theorem VA2.sub (hl : ρ.length = σ.length) (hs : subHeap σ ids = some σ1) {v : AV} {cv : Value} (hv : VA2 P σ ρ S w v cv) (hi : ∀ x ∈ v.ids2, x ∈ ids) :
    VA2 P σ1 (subGr ρ ids) S w (v.ren2 (idx ids)) cv := lift2 (fun _ _ h h' => VA1.sub hl hs h h') hv hi
theorem VA3.sub (hl : ρ.length = σ.length) (hs : subHeap σ ids = some σ1) {v : AV} {cv : Value} (hv : VA3 P σ ρ S w v cv) (hi : ∀ x ∈ v.ids3, x ∈ ids) :
    VA3 P σ1 (subGr ρ ids) S w (v.ren3 (idx ids)) cv := lift3 (fun _ _ h h' => VA1.sub hl hs h h') hv hi

theorem Rel.sub (hr : Rel P σ ρ S w) (hn : ids.Nodup) (hs : subHeap σ ids = some σ1) : Rel P σ1 (subGr ρ ids) S w := by
  obtain ⟨h1, h2⟩ := subHeap_spec hs
  refine ⟨by simp [subGr, h1], ?_, ?_, ?_, hr.cells⟩
  · intro k cs hk
    have hkl : k < ids.length := by rw [← h1]; exact (List.getElem?_eq_some_iff.1 hk).1
    obtain ⟨o, ho, hin, ho'⟩ := h2 k ids[k] (by simp [hkl])
    rw [hk] at ho'
    injection ho' with ho'
    cases o with
    | vec t n => simp [Ob.ren] at ho'
    | box ds =>
      simp [Ob.ren] at ho'
      subst ho'
      obtain ⟨b, c, arr, T, h3, h4, h5, h6, h7⟩ := hr.box _ _ ho
      refine ⟨b, c, arr, T, by rw [subGr_get (id := ids[k]) (by simp [hkl]) (List.getElem?_eq_some_iff.1 h3).1]; exact h3, h4, by simpa using h5, ?_, h7⟩
      intro j v hj
      rw [List.getElem?_map] at hj
      obtain ⟨u, hu, rfl⟩ := Option.map_eq_some_iff.1 hj
      obtain ⟨ho, x, h8, h9⟩ := h6 j u hu
      exact ⟨ren1_one _ ho, x, h8, VA1.sub hr.len hs h9 fun y hy => hin y (List.mem_flatMap.2 ⟨u, List.mem_of_getElem? hu, hy⟩)⟩
  · intro k et n b c hk hg
    have hkl : k < ids.length := by rw [← h1]; exact (List.getElem?_eq_some_iff.1 hk).1
    obtain ⟨o, ho, hin, ho'⟩ := h2 k ids[k] (by simp [hkl])
    rw [hk] at ho'
    injection ho' with ho'
    cases o with
    | box ds => simp [Ob.ren] at ho'
    | vec t m =>
      simp [Ob.ren] at ho'
      obtain ⟨rfl, rfl⟩ := ho'
      rw [subGr_get (id := ids[k]) (by simp [hkl]) (by rw [hr.len]; exact (List.getElem?_eq_some_iff.1 ho).1)] at hg
      exact hr.vec _ _ _ _ _ ho hg
  · intro i j b c c' hi hj
    obtain ⟨id, h3, h4⟩ := subGr_back hi
    obtain ⟨id', h3', h4'⟩ := subGr_back hj
    have := hr.inj _ _ _ _ _ h4 h4'
    subst this
    exact nodup_inj hn h3 h3'

/-! ### Back -/

theorem foldl_setAt {α : Type} (g : Nat → α) : ∀ (ids : List Nat) (n : Nat) (l : List α), ids.Nodup →
    ((ids.zipIdx n).foldl (fun acc p => acc.set p.1 (g p.2)) l).length = l.length ∧
    (∀ (k id : Nat), ids[k]? = some id → id < l.length → ((ids.zipIdx n).foldl (fun acc p => acc.set p.1 (g p.2)) l)[id]? = some (g (n + k))) ∧
    (∀ i, i ∉ ids → ((ids.zipIdx n).foldl (fun acc p => acc.set p.1 (g p.2)) l)[i]? = l[i]?)
  | [], n, l, _ => by simp
  | a :: ids, n, l, hn => by
    rw [List.nodup_cons] at hn
    obtain ⟨h1, h2, h3⟩ := foldl_setAt g ids (n + 1) (l.set a (g n)) hn.2
    simp only [List.zipIdx_cons, List.foldl_cons]
    refine ⟨by rw [h1]; simp, fun k id hk hl => ?_, fun i hi => ?_⟩
    · cases k with
      | zero =>
        simp at hk; subst hk
        rw [h3 _ hn.1]
        simp [hl]
      | succ k =>
        rw [h2 k id (by simpa using hk) (by simpa using hl)]
        congr 2; omega
    · simp at hi
      rw [h3 i hi.2, List.getElem?_set_ne (fun e => hi.1 e.symm)]

def backGr (ids : List Nat) (ρ1 ρ : Gr) : Gr := ids.zipIdx.foldl (fun acc p => acc.set p.1 (ρ1.getD p.2 none)) ρ

variable {σ1' : Heap} {ρ1' : Gr} {S' : Cells} {w' : World}

theorem back_get (hn : ids.Nodup) {k id : Nat} {o : Ob} (hk : ids[k]? = some id) (hl : id < σ.length) (ho : σ1'[k]? = some o) : (backTo ids σ1' σ)[id]? = some (o.ren (unidx ids)) := by
  have := (foldl_setAt (fun k => (Heap.ob σ1' k).ren (unidx ids)) ids 0 σ hn).2.1 k id hk hl
  unfold backTo
  rw [this]
  simp [Heap.ob, List.getD_eq_getElem?_getD, ho]
theorem back_other (hn : ids.Nodup) {id : Nat} (h : id ∉ ids) : (backTo ids σ1' σ)[id]? = σ[id]? :=
  (foldl_setAt (fun k => (Heap.ob σ1' k).ren (unidx ids)) ids 0 σ hn).2.2 id h
theorem backGr_get (hn : ids.Nodup) {k id : Nat} (hk : ids[k]? = some id) (hl : id < ρ.length) (hk1 : k < ρ1'.length) : (backGr ids ρ1' ρ)[id]? = ρ1'[k]? := by
  have := (foldl_setAt (fun k => ρ1'.getD k none) ids 0 ρ hn).2.1 k id hk hl
  unfold backGr
  rw [this]
  simp [List.getD_eq_getElem?_getD, List.getElem?_eq_getElem hk1]
theorem backGr_other (hn : ids.Nodup) {id : Nat} (h : id ∉ ids) : (backGr ids ρ1' ρ)[id]? = ρ[id]? :=
  (foldl_setAt (fun k => ρ1'.getD k none) ids 0 ρ hn).2.2 id h

/-- What the numbered objects came to, in the caller's numbers. -/
theorem back_ok (hr : Rel P σ ρ S w) (hn : ids.Nodup) (hs : subHeap σ ids = some σ1) (hr' : Rel P σ1' ρ1' S' w') (he : Ext σ1 (subGr ρ ids) S w σ1' ρ1' S' w')
    (hlen : σ1'.length = σ1.length) :
    Rel P (backTo ids σ1' σ) (backGr ids ρ1' ρ) S' w' ∧ Ext σ ρ S w (backTo ids σ1' σ) (backGr ids ρ1' ρ) S' w' ∧
    ∀ (v : AV) (cv : Value), VA1 P σ1' ρ1' S' w' v cv → VA1 P (backTo ids σ1' σ) (backGr ids ρ1' ρ) S' w' (v.ren1 (unidx ids)) cv := by
  obtain ⟨h1, h2⟩ := subHeap_spec hs
  have hl1 : ρ1'.length = ids.length := by rw [hr'.len, hlen, h1]
  have hkin : ∀ k, k < σ1'.length → ∃ id, ids[k]? = some id ∧ id < σ.length := fun k hk => by
    rw [hlen, h1] at hk
    obtain ⟨o, ho, _⟩ := h2 k ids[k] (by simp [hk])
    exact ⟨ids[k], by simp [hk], (List.getElem?_eq_some_iff.1 ho).1⟩
  have hblock : ∀ (id b c : Nat), ρ[id]? = some (some (b, c)) → b < w.heap.size := fun id b c h => by
    have hl : id < σ.length := by rw [← hr.len]; exact (List.getElem?_eq_some_iff.1 h).1
    cases ho : σ[id] with
    | box cs =>
      obtain ⟨b', c', arr, T, h3, h4, _⟩ := hr.box id cs (by rw [List.getElem?_eq_getElem hl, ho])
      rw [h] at h3; injection h3 with h3; injection h3 with h3; injection h3 with h3 _; subst h3
      exact (Array.getElem?_eq_some_iff.1 h4).1
    | vec t n =>
      obtain ⟨arr, T, fs, h4, _⟩ := hr.vec id t n b c (by rw [List.getElem?_eq_getElem hl, ho]) h
      exact (Array.getElem?_eq_some_iff.1 h4).1
  have hout : ∀ (id b c : Nat), ρ[id]? = some (some (b, c)) → id ∉ ids → ∀ k c', (subGr ρ ids)[k]? ≠ some (some (b, c')) := fun id b c h hni k c' hk => by
    obtain ⟨id', h3, h4⟩ := subGr_back hk
    have := hr.inj _ _ _ _ _ h h4
    subst this
    exact hni (List.mem_of_getElem? h3)
  have hnewS : ∀ (id b c : Nat), ρ[id]? = some (some (b, c)) → id ∉ ids → ∀ o, S' b o → S b o := fun id b c h hni o hs' => by
    rcases he.newS b o hs' with h3 | h3 | ⟨i, c', h3⟩
    · exact h3
    · have := hblock id b c h; omega
    · exact absurd h3 (hout id b c h hni i c')
  -- the growth
  have hext : Ext σ ρ S w (backTo ids σ1' σ) (backGr ids ρ1' ρ) S' w' := by
    refine ⟨he.cell, ?_, ?_, ?_, ?_, ?_, he.size, he.os, he.tape, he.output⟩
    · intro id cs hb
      by_cases hi : id ∈ ids
      · have hk := idx_spec hi
        obtain ⟨o, ho, _, ho'⟩ := h2 _ _ hk
        rw [hb] at ho; injection ho with ho; subst ho
        obtain ⟨⟨cs', h3⟩, h4⟩ := he.box _ _ ho'
        refine ⟨⟨_, back_get hn hk (List.getElem?_eq_some_iff.1 hb).1 h3⟩, ?_⟩
        rw [backGr_get hn hk (by rw [hr.len]; exact (List.getElem?_eq_some_iff.1 hb).1) (by rw [hr'.len]; exact (List.getElem?_eq_some_iff.1 h3).1), h4]
        exact subGr_get hk (by rw [hr.len]; exact (List.getElem?_eq_some_iff.1 hb).1)
      · exact ⟨⟨cs, by rw [back_other hn hi]; exact hb⟩, backGr_other hn hi⟩
    · intro id et n hb
      by_cases hi : id ∈ ids
      · have hk := idx_spec hi
        obtain ⟨o, ho, _, ho'⟩ := h2 _ _ hk
        rw [hb] at ho; injection ho with ho; subst ho
        obtain ⟨n', l, h3, h4⟩ := he.vec _ _ _ ho'
        refine ⟨n', l, back_get hn hk (List.getElem?_eq_some_iff.1 hb).1 h3, fun e => ?_⟩
        rw [backGr_get hn hk (by rw [hr.len]; exact (List.getElem?_eq_some_iff.1 hb).1) (by rw [hr'.len]; exact (List.getElem?_eq_some_iff.1 h3).1), h4 e]
        exact subGr_get hk (by rw [hr.len]; exact (List.getElem?_eq_some_iff.1 hb).1)
      · exact ⟨n, Nat.le_refl _, by rw [back_other hn hi]; exact hb, fun _ => backGr_other hn hi⟩
    · intro b hb hno
      refine he.old b hb fun k c hk => ?_
      obtain ⟨id, _, h4⟩ := subGr_back hk
      exact hno id c h4
    · intro id b c hg
      by_cases hi : id ∈ ids
      · have hk := idx_spec hi
        obtain ⟨o, ho, _, ho'⟩ := h2 _ _ hk
        rw [backGr_get hn hk (by rw [hr.len]; exact (List.getElem?_eq_some_iff.1 ho).1) (by rw [hl1]; exact (List.getElem?_eq_some_iff.1 hk).1)] at hg
        rcases he.fresh _ _ _ hg with h3 | ⟨i, c', h3⟩
        · exact .inl h3
        · obtain ⟨id', _, h4⟩ := subGr_back h3
          exact .inr ⟨id', c', h4⟩
      · rw [backGr_other hn hi] at hg; exact .inr ⟨id, c, hg⟩
    · intro b o hs'
      rcases he.newS b o hs' with h3 | h3 | ⟨i, c, h3⟩
      · exact .inl h3
      · exact .inr (.inl h3)
      · obtain ⟨id', _, h4⟩ := subGr_back h3
        exact .inr (.inr ⟨id', c, h4⟩)
  have hval : ∀ (v : AV) (cv : Value), VA1 P σ1' ρ1' S' w' v cv → VA1 P (backTo ids σ1' σ) (backGr ids ρ1' ρ) S' w' (v.ren1 (unidx ids)) cv := by
    intro v cv hv
    cases v with
    | own k et xs =>
      obtain ⟨h3, n, h4, h5, h6⟩ := hv
      obtain ⟨id, hk, hl⟩ := hkin k (List.getElem?_eq_some_iff.1 h4).1
      simp only [AV.ren1, unidx_at hk]
      refine ⟨h3, n, back_get hn hk hl h4, h5, fun e => ?_⟩
      have := h6 e
      unfold place at *
      rw [backGr_get hn hk (by rw [hr.len]; exact hl) (by rw [hr'.len]; exact (List.getElem?_eq_some_iff.1 h4).1)]
      exact this
    | ptr k off =>
      obtain ⟨b, c, h3, ⟨cs, h4⟩, h5⟩ := hv
      obtain ⟨id, hk, hl⟩ := hkin k (List.getElem?_eq_some_iff.1 h4).1
      simp only [AV.ren1, unidx_at hk]
      exact ⟨b, c, by rw [backGr_get hn hk (by rw [hr.len]; exact hl) (List.getElem?_eq_some_iff.1 h3).1]; exact h3, ⟨_, back_get hn hk hl h4⟩, h5⟩
    | e x => exact hv
    | nils et => exact hv
    | nilp => exact hv
    | pin et y off => exact hv
    | fn f => exact hv
    | undef => trivial
    | agg cs => exact hv.elim
    | tup vs => exact hv.elim
  refine ⟨⟨?_, ?_, ?_, ?_, hr'.cells⟩, hext, hval⟩
  · have e1 := (foldl_setAt (fun k => (Heap.ob σ1' k).ren (unidx ids)) ids 0 σ hn).1
    have e2 := (foldl_setAt (fun k => ρ1'.getD k none) ids 0 ρ hn).1
    unfold backTo backGr
    rw [e1, e2, hr.len]
  · intro id cs hb
    by_cases hi : id ∈ ids
    · have hk := idx_spec hi
      have hkl : idx ids id < σ1'.length := by rw [hlen, h1]; exact (List.getElem?_eq_some_iff.1 hk).1
      obtain ⟨o, ho, _, _⟩ := h2 _ _ hk
      have hl := (List.getElem?_eq_some_iff.1 ho).1
      rw [back_get hn hk hl (List.getElem?_eq_getElem hkl)] at hb
      injection hb with hb
      cases hc : σ1'[idx ids id] with
      | vec t n => rw [hc] at hb; simp [Ob.ren] at hb
      | box ds =>
        rw [hc] at hb
        simp [Ob.ren] at hb
        subst hb
        obtain ⟨b, c, arr, T, h3, h4, h5, h6, h7⟩ := hr'.box _ ds (by rw [List.getElem?_eq_getElem hkl, hc])
        refine ⟨b, c, arr, T, by rw [backGr_get hn hk (by rw [hr.len]; exact hl) (by rw [hr'.len]; exact hkl)]; exact h3, h4, by simpa using h5, ?_, h7⟩
        intro j v hj
        rw [List.getElem?_map] at hj
        obtain ⟨u, hu, rfl⟩ := Option.map_eq_some_iff.1 hj
        obtain ⟨ho, x, h8, h9⟩ := h6 j u hu
        exact ⟨ren1_one _ ho, x, h8, hval u x h9⟩
    · rw [back_other hn hi] at hb
      obtain ⟨b, c, arr, T, h3, h4, h5, h6, h7⟩ := hr.box _ _ hb
      refine ⟨b, c, arr, T, by rw [backGr_other hn hi]; exact h3, ?_, h5, ?_, fun o hs' => h7 o (hnewS id b c h3 hi o hs')⟩
      · rw [he.old b (hblock id b c h3) (hout id b c h3 hi)]; exact h4
      · intro j v hj
        obtain ⟨ho, x, h8, h9⟩ := h6 j v hj
        exact ⟨ho, x, h8, h9.mono hext⟩
  · intro id et n b c hb hg
    by_cases hi : id ∈ ids
    · have hk := idx_spec hi
      have hkl : idx ids id < σ1'.length := by rw [hlen, h1]; exact (List.getElem?_eq_some_iff.1 hk).1
      obtain ⟨o, ho, _, _⟩ := h2 _ _ hk
      have hl := (List.getElem?_eq_some_iff.1 ho).1
      rw [back_get hn hk hl (List.getElem?_eq_getElem hkl)] at hb
      rw [backGr_get hn hk (by rw [hr.len]; exact hl) (by rw [hr'.len]; exact hkl)] at hg
      injection hb with hb
      cases hc : σ1'[idx ids id] with
      | box ds => rw [hc] at hb; simp [Ob.ren] at hb
      | vec t m =>
        rw [hc] at hb
        simp [Ob.ren] at hb
        obtain ⟨rfl, rfl⟩ := hb
        exact hr'.vec _ _ _ _ _ (by rw [List.getElem?_eq_getElem hkl, hc]) hg
    · rw [back_other hn hi] at hb
      rw [backGr_other hn hi] at hg
      obtain ⟨arr, T, fs, h3, h4, h5, h6, h7⟩ := hr.vec _ _ _ _ _ hb hg
      refine ⟨arr, T, fs, ?_, h4, h5, h6, fun o hs' => h7 o (hnewS id b c hg hi o hs')⟩
      rw [he.old b (hblock id b c hg) (hout id b c hg hi)]; exact h3
  · have key : ∀ (i j b c c' : Nat), i ∈ ids → j ∉ ids → (backGr ids ρ1' ρ)[i]? = some (some (b, c)) → ρ[j]? = some (some (b, c')) → False := by
      intro i j b c c' hi hj hg hg'
      have hk := idx_spec hi
      obtain ⟨o, ho, _, _⟩ := h2 _ _ hk
      rw [backGr_get hn hk (by rw [hr.len]; exact (List.getElem?_eq_some_iff.1 ho).1) (by rw [hl1]; exact (List.getElem?_eq_some_iff.1 hk).1)] at hg
      rcases he.fresh _ _ _ hg with h3 | ⟨k, c2, h3⟩
      · have := hblock j b c' hg'; omega
      · exact hout j b c' hg' hj k c2 h3
    intro i j b c c' hi hj
    by_cases h3 : i ∈ ids <;> by_cases h4 : j ∈ ids
    · have hk := idx_spec h3
      have hk' := idx_spec h4
      obtain ⟨o, ho, _, _⟩ := h2 _ _ hk
      obtain ⟨o', ho', _, _⟩ := h2 _ _ hk'
      rw [backGr_get hn hk (by rw [hr.len]; exact (List.getElem?_eq_some_iff.1 ho).1) (by rw [hl1]; exact (List.getElem?_eq_some_iff.1 hk).1)] at hi
      rw [backGr_get hn hk' (by rw [hr.len]; exact (List.getElem?_eq_some_iff.1 ho').1) (by rw [hl1]; exact (List.getElem?_eq_some_iff.1 hk').1)] at hj
      have := hr'.inj _ _ _ _ _ hi hj
      rw [this, hk'] at hk
      injection hk with hk
      exact hk.symm
    · rw [backGr_other hn h4] at hj; exact (key i j b c c' h3 h4 hi hj).elim
    · rw [backGr_other hn h3] at hi; exact (key j i b c' c h4 h3 hj hi).elim
    · rw [backGr_other hn h3] at hi; rw [backGr_other hn h4] at hj; exact hr.inj _ _ _ _ _ hi hj

end
end Go.Den
