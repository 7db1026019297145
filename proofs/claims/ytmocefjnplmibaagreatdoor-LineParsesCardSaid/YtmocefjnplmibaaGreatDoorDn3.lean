/- Dn3: texts Zd15 .. Zd18 in one. -/
import Derived.Test.YtmocefjnplmibaaGreatDoorDn2
import Derived.Recover
/- Objects numbered anew: what a value says of them stays said, in both ways. -/
namespace Go.Den
open Go

theorem addNew_prefix : ∀ (is acc : List Nat), ∃ t, addNew acc is = acc ++ t
  | [], acc => ⟨[], by simp [addNew]⟩
  | i :: is, acc => by
    unfold addNew
    obtain ⟨t, ht⟩ := addNew_prefix is (if acc.contains i then acc else acc ++ [i])
    split at ht
    · rename_i hc; rw [if_pos hc]; exact ⟨t, ht⟩
    · rename_i hc; rw [if_neg hc]; exact ⟨i :: t, by rw [ht]; simp⟩

theorem addNew_mem : ∀ (is acc : List Nat) (x : Nat), x ∈ is → x ∈ addNew acc is
  | i :: is, acc, x, h => by
    unfold addNew
    rcases List.mem_cons.1 h with h | h
    · subst h
      obtain ⟨t, ht⟩ := addNew_prefix is (if acc.contains x then acc else acc ++ [x])
      rw [ht]
      by_cases hc : acc.contains x = true
      · rw [if_pos hc]; simp at hc; simp [hc]
      · rw [if_neg hc]; simp
    · exact addNew_mem is _ x h

theorem addNew_nodup : ∀ (is acc : List Nat), acc.Nodup → (addNew acc is).Nodup
  | [], acc, h => by simpa [addNew] using h
  | i :: is, acc, h => by
    unfold addNew
    refine addNew_nodup is _ ?_
    split
    · exact h
    · rename_i hc
      simp at hc
      rw [List.nodup_append]
      exact ⟨h, by simp, fun a ha b hb => by simp at hb; subst hb; rintro rfl; exact hc ha⟩

theorem closure_prefix (σ : Heap) : ∀ (k : Nat) (ids : List Nat), ∃ t, closure σ k ids = ids ++ t
  | 0, ids => ⟨[], by simp [closure]⟩
  | k + 1, ids => by
    unfold closure
    obtain ⟨t, ht⟩ := addNew_prefix (ids.flatMap (idsAt σ)) ids
    obtain ⟨t', ht'⟩ := closure_prefix σ k (addNew ids (ids.flatMap (idsAt σ)))
    exact ⟨t ++ t', ht'.trans (by rw [ht, List.append_assoc])⟩

theorem closure_mem (σ : Heap) (k : Nat) (ids : List Nat) (x : Nat) (h : x ∈ ids) : x ∈ closure σ k ids := by
  obtain ⟨t, ht⟩ := closure_prefix σ k ids
  rw [ht]; simp [h]

theorem closure_nodup (σ : Heap) : ∀ (k : Nat) (ids : List Nat), ids.Nodup → (closure σ k ids).Nodup
  | 0, _, h => h
  | k + 1, _, h => closure_nodup σ k _ (addNew_nodup _ _ h)

theorem idx_spec {ids : List Nat} {id : Nat} (h : id ∈ ids) : ids[idx ids id]? = some id := by
  have h1 : ids.findIdx (· == id) < ids.length := List.findIdx_lt_length_of_exists ⟨id, h, by simp⟩
  have h2 := List.findIdx_getElem (w := h1)
  unfold idx
  rw [List.getElem?_eq_getElem h1]
  simpa using h2

theorem nodup_inj {ids : List Nat} (hn : ids.Nodup) {i j id : Nat} (h : ids[i]? = some id) (h' : ids[j]? = some id) : i = j := by
  have hi := (List.getElem?_eq_some_iff.1 h).1
  exact (List.getElem?_inj hi hn).1 (h.trans h'.symm)

theorem idx_at {ids : List Nat} (hn : ids.Nodup) {k id : Nat} (h : ids[k]? = some id) : idx ids id = k :=
  nodup_inj hn (idx_spec (List.mem_of_getElem? h)) h

theorem subHeap_spec {σ σ1 : Heap} {ids : List Nat} (h : subHeap σ ids = some σ1) :
    σ1.length = ids.length ∧ ∀ (k id : Nat), ids[k]? = some id → ∃ o, σ[id]? = some o ∧ o ≠ .hole ∧ (∀ x ∈ o.ids, x ∈ ids) ∧ σ1[k]? = some (o.ren (idx ids)) := by
  obtain ⟨h1, h2⟩ := mapM_some_get h
  refine ⟨h1, fun k id hk => ?_⟩
  obtain ⟨y, hy, hy'⟩ := h2 k id hk
  split at hy
  · cases hy
  · rename_i o hno ho
    by_cases hc : o.ids.all ids.contains = true
    · rw [if_pos hc] at hy
      injection hy with hy
      refine ⟨o, ho, fun e => hno e, fun x hx => ?_, by rw [hy', hy]⟩
      have := List.all_eq_true.1 hc x hx
      simpa using this
    · rw [if_neg hc] at hy; cases hy
  · cases hy

def subGr (ρ : Gr) (ids : List Nat) : Gr := ids.map fun id => ρ.getD id none

theorem subGr_get {ρ : Gr} {ids : List Nat} {k id : Nat} (h : ids[k]? = some id) (hl : id < ρ.length) : (subGr ρ ids)[k]? = ρ[id]? := by
  simp [subGr, List.getElem?_map, h, List.getD_eq_getElem?_getD, List.getElem?_eq_getElem hl]

theorem subGr_back {ρ : Gr} {ids : List Nat} {k : Nat} {g : Nat × Nat} (h : (subGr ρ ids)[k]? = some (some g)) : ∃ id, ids[k]? = some id ∧ ρ[id]? = some (some g) := by
  unfold subGr at h
  rw [List.getElem?_map] at h
  cases hk : ids[k]? with
  | none => rw [hk] at h; cases h
  | some id =>
    rw [hk] at h
    refine ⟨id, rfl, ?_⟩
    simp [List.getD_eq_getElem?_getD] at h
    cases hr : ρ[id]? with
    | none => rw [hr] at h; cases h
    | some x => rw [hr] at h; simp at h; rw [h]

section
variable {P : Program} {σ σ1 : Heap} {ρ : Gr} {S : Cells} {w : World} {ids : List Nat}

theorem VA1.sub (hl : ρ.length = σ.length) (hs : subHeap σ ids = some σ1) {v : AV} {cv : Value} (hv : VA1 P σ ρ S w v cv) (hi : ∀ x ∈ v.ids1, x ∈ ids) :
    VA1 P σ1 (subGr ρ ids) S w (v.ren1 (idx ids)) cv := by
  obtain ⟨h1, h2⟩ := subHeap_spec hs
  cases v with
  | own id et xs =>
    have hk := idx_spec (hi id (by simp [AV.ids1]))
    obtain ⟨o, ho, _, _, ho'⟩ := h2 _ _ hk
    obtain ⟨h3, ⟨n, h4, h5, h6⟩ | h4⟩ := hv
    · rw [h4] at ho; injection ho with ho; subst ho
      refine ⟨h3, .inl ⟨n, ho', h5, fun he => ?_⟩⟩
      have := h6 he
      unfold place at *
      rw [subGr_get hk (by rw [hl]; exact (List.getElem?_eq_some_iff.1 h4).1)]
      exact this
    · rw [h4] at ho; injection ho with ho; subst ho
      exact ⟨h3, .inr ho'⟩
  | ptr id off =>
    obtain ⟨b, c, h3, ⟨cs, h4⟩, h5⟩ := hv
    have hk := idx_spec (hi id (by simp [AV.ids1]))
    obtain ⟨o, ho, _, _, ho'⟩ := h2 _ _ hk
    rw [h4] at ho; injection ho with ho; subst ho
    exact ⟨b, c, by rw [subGr_get hk (List.getElem?_eq_some_iff.1 h3).1]; exact h3, ⟨_, ho'⟩, h5⟩
  | clo f ps =>
    obtain ⟨cap, h3, h4, h5⟩ := hv
    refine ⟨cap, h3, by simpa using h4, fun j p hj => ?_⟩
    rw [List.getElem?_map] at hj
    obtain ⟨q, hq, rfl⟩ := Option.map_eq_some_iff.1 hj
    obtain ⟨b, c, h6, ⟨cs, h7⟩, h8⟩ := h5 j q hq
    have hk := idx_spec (hi q.1 (List.mem_map.2 ⟨q, List.mem_of_getElem? hq, rfl⟩))
    obtain ⟨o, ho, _, _, ho'⟩ := h2 _ _ hk
    rw [h7] at ho; injection ho with ho; subst ho
    exact ⟨b, c, by rw [subGr_get hk (List.getElem?_eq_some_iff.1 h6).1]; exact h6, ⟨_, ho'⟩, h8⟩
  | itr id =>
    obtain ⟨b, c, h3, ⟨r, h4⟩, h5⟩ := hv
    have hk := idx_spec (hi id (by simp [AV.ids1]))
    obtain ⟨o, ho, _, _, ho'⟩ := h2 _ _ hk
    rw [h4] at ho; injection ho with ho; subst ho
    exact ⟨b, c, by rw [subGr_get hk (List.getElem?_eq_some_iff.1 h3).1]; exact h3, ⟨_, ho'⟩, h5⟩
  | nsp id t =>
    obtain ⟨⟨cs, h4⟩, b, h6, h7⟩ := hv
    have hk := idx_spec (hi id (by simp [AV.ids1]))
    obtain ⟨o, ho, _, _, ho'⟩ := h2 _ _ hk
    rw [h4] at ho; injection ho with ho; subst ho
    exact ⟨⟨_, ho'⟩, b, by rw [subGr_get hk (List.getElem?_eq_some_iff.1 h6).1]; exact h6, h7⟩
  | e x => exact hv
  | nils et => exact hv
  | nilp => exact hv
  | pin et y off => exact hv
  | fn f => exact hv
  | ni => exact hv
  | undef => trivial
  | agg cs => exact hv.elim
  | tup vs => exact hv.elim

theorem ren1_one (r : Nat → Nat) {v : AV} (h : v.one = true) : (v.ren1 r).one = true := by
  cases v <;> first | exact h | rfl

theorem ren1_agg (r : Nat → Nat) {v : AV} (h : ∀ cs, v ≠ .agg cs) : v.ren2 r = v.ren1 r ∧ ∀ cs, v.ren1 r ≠ .agg cs := by
  cases v <;> first | exact absurd rfl (h _) | exact ⟨rfl, fun cs => by simp [AV.ren1]⟩
theorem ren2_tup (r : Nat → Nat) {v : AV} (h : ∀ cs, v ≠ .tup cs) : v.ren3 r = v.ren2 r ∧ ∀ cs, v.ren2 r ≠ .tup cs := by
  cases v <;> first | exact absurd rfl (h _) | exact ⟨rfl, fun cs => by simp [AV.ren2, AV.ren1]⟩
theorem ids2_one {v : AV} (h : ∀ cs, v ≠ .agg cs) : v.ids2 = v.ids1 := by
  cases v <;> first | rfl | exact absurd rfl (h _)
theorem ids3_two {v : AV} (h : ∀ cs, v ≠ .tup cs) : v.ids3 = v.ids2 := by
  cases v <;> first | rfl | exact absurd rfl (h _)

/-- From cells to values. -/
theorem lift2 {σ' : Heap} {ρ' : Gr} {S' : Cells} {w' : World} {r : Nat → Nat} {G : Nat → Prop}
    (h : ∀ (v : AV) (cv : Value), VA1 P σ ρ S w v cv → (∀ x ∈ v.ids1, G x) → VA1 P σ' ρ' S' w' (v.ren1 r) cv) {v : AV} {cv : Value} (hv : VA2 P σ ρ S w v cv)
    (hi : ∀ x ∈ v.ids2, G x) : VA2 P σ' ρ' S' w' (v.ren2 r) cv := by
  by_cases hh : ∃ cs, v = .agg cs
  · obtain ⟨cs, rfl⟩ := hh
    obtain ⟨arr, h1, h2, h3⟩ := hv
    refine ⟨arr, h1, by simpa using h2, fun j u hj => ?_⟩
    rw [List.getElem?_map] at hj
    obtain ⟨v, hv, rfl⟩ := Option.map_eq_some_iff.1 hj
    obtain ⟨ho, x, h4, h5⟩ := h3 j v hv
    exact ⟨ren1_one r ho, x, h4, h v x h5 fun y hy => hi y (List.mem_flatMap.2 ⟨v, List.mem_of_getElem? hv, hy⟩)⟩
  · have hn : ∀ cs, v ≠ .agg cs := fun cs e => hh ⟨cs, e⟩
    rw [VA2_eq hn] at hv
    rw [ids2_one hn] at hi
    rw [(ren1_agg r hn).1]
    exact (h v cv hv hi).to2

theorem lift3 {σ' : Heap} {ρ' : Gr} {S' : Cells} {w' : World} {r : Nat → Nat} {G : Nat → Prop}
    (h : ∀ (v : AV) (cv : Value), VA1 P σ ρ S w v cv → (∀ x ∈ v.ids1, G x) → VA1 P σ' ρ' S' w' (v.ren1 r) cv) {v : AV} {cv : Value} (hv : VA3 P σ ρ S w v cv)
    (hi : ∀ x ∈ v.ids3, G x) : VA3 P σ' ρ' S' w' (v.ren3 r) cv := by
  by_cases hh : ∃ cs, v = .tup cs
  · obtain ⟨cs, rfl⟩ := hh
    obtain ⟨arr, h1, h2, h3⟩ := hv
    refine ⟨arr, h1, by simpa using h2, fun j u hj => ?_⟩
    rw [List.getElem?_map] at hj
    obtain ⟨v, hv, rfl⟩ := Option.map_eq_some_iff.1 hj
    obtain ⟨x, h4, h5⟩ := h3 j v hv
    exact ⟨x, h4, lift2 h h5 fun y hy => hi y (List.mem_flatMap.2 ⟨v, List.mem_of_getElem? hv, hy⟩)⟩
  · have hn : ∀ cs, v ≠ .tup cs := fun cs e => hh ⟨cs, e⟩
    rw [VA3_eq hn] at hv
    rw [ids3_two hn] at hi
    rw [(ren2_tup r hn).1]
    exact (lift2 h hv hi).to3

theorem VA2.sub (hl : ρ.length = σ.length) (hs : subHeap σ ids = some σ1) {v : AV} {cv : Value} (hv : VA2 P σ ρ S w v cv) (hi : ∀ x ∈ v.ids2, x ∈ ids) :
    VA2 P σ1 (subGr ρ ids) S w (v.ren2 (idx ids)) cv := lift2 (fun _ _ h h' => VA1.sub hl hs h h') hv hi
theorem VA3.sub (hl : ρ.length = σ.length) (hs : subHeap σ ids = some σ1) {v : AV} {cv : Value} (hv : VA3 P σ ρ S w v cv) (hi : ∀ x ∈ v.ids3, x ∈ ids) :
    VA3 P σ1 (subGr ρ ids) S w (v.ren3 (idx ids)) cv := lift3 (fun _ _ h h' => VA1.sub hl hs h h') hv hi

theorem subHeap_back {σ σ1 : Heap} {ids : List Nat} (h : subHeap σ ids = some σ1) {k : Nat} {q : Ob} (hk : σ1[k]? = some q) :
    ∃ id o, ids[k]? = some id ∧ σ[id]? = some o ∧ o ≠ .hole ∧ (∀ x ∈ o.ids, x ∈ ids) ∧ q = o.ren (idx ids) := by
  obtain ⟨h1, h2⟩ := subHeap_spec h
  have hkl : k < ids.length := by rw [← h1]; exact (List.getElem?_eq_some_iff.1 hk).1
  obtain ⟨o, ho, hno, hin, ho'⟩ := h2 k ids[k] (by simp [hkl])
  rw [hk] at ho'; injection ho' with ho'
  exact ⟨ids[k], o, by simp [hkl], ho, hno, hin, ho'⟩

theorem ren_box {r : Nat → Nat} {o : Ob} {cs : List AV} (h : Ob.box cs = o.ren r) : ∃ ds, o = .box ds ∧ cs = ds.map (AV.ren1 r) := by
  cases o <;> simp [Ob.ren] at h; exact ⟨_, rfl, h⟩
theorem ren_vec {r : Nat → Nat} {o : Ob} {t n} (h : Ob.vec t n = o.ren r) : o = .vec t n := by
  cases o <;> simp [Ob.ren] at h; obtain ⟨rfl, rfl⟩ := h; rfl
theorem ren_raw {r : Nat → Nat} {o : Ob} {q : Raw} (h : Ob.raw q = o.ren r) : o = .raw q := by
  cases o <;> simp [Ob.ren] at h; subst h; rfl
theorem ren_hole {r : Nat → Nat} {o : Ob} (h : Ob.hole = o.ren r) : o = .hole := by
  cases o <;> simp [Ob.ren] at h; rfl

theorem Rel.sub (hr : Rel P σ ρ S w) (hn : ids.Nodup) (hs : subHeap σ ids = some σ1) : Rel P σ1 (subGr ρ ids) S w := by
  have hgl : ∀ {id : Nat} {o : Ob}, σ[id]? = some o → id < ρ.length := fun h => by rw [hr.len]; exact (List.getElem?_eq_some_iff.1 h).1
  refine ⟨by simp [subGr, (subHeap_spec hs).1], ?_, ?_, ?_, ?_, ?_, ?_, hr.cells, hr.glob.mono' fun id b c h => (subGr_back h).imp fun _ h => h.2⟩
  · intro k cs hk
    obtain ⟨id, o, hid, ho, _, hin, hq⟩ := subHeap_back hs hk
    obtain ⟨ds, rfl, rfl⟩ := ren_box hq
    obtain ⟨b, c, arr, T, h3, h4, h5, h6, h7⟩ := hr.box _ _ ho
    refine ⟨b, c, arr, T, by rw [subGr_get hid (hgl ho)]; exact h3, h4, by simpa using h5, ?_, h7⟩
    intro j v hj
    rw [List.getElem?_map] at hj
    obtain ⟨u, hu, rfl⟩ := Option.map_eq_some_iff.1 hj
    obtain ⟨ho, x, h8, h9⟩ := h6 j u hu
    exact ⟨ren1_one _ ho, x, h8, VA1.sub hr.len hs h9 fun y hy => hin y (List.mem_flatMap.2 ⟨u, List.mem_of_getElem? hu, hy⟩)⟩
  · intro k et n b c hk hg
    obtain ⟨id, o, hid, ho, _, hin, hq⟩ := subHeap_back hs hk
    have := ren_vec hq; subst this
    rw [subGr_get hid (hgl ho)] at hg
    exact hr.vec _ _ _ _ _ ho hg
  · intro k r hk
    obtain ⟨id, o, hid, ho, _, hin, hq⟩ := subHeap_back hs hk
    have := ren_raw hq; subst this
    obtain ⟨b, c, ob, h3, h4⟩ := hr.raw _ _ ho
    exact ⟨b, c, ob, by rw [subGr_get hid (hgl ho)]; exact h3, h4⟩
  · intro k hk
    obtain ⟨id, o, hid, ho, hno, hin, hq⟩ := subHeap_back hs hk
    exact absurd (ren_hole hq) hno
  · intro k b c h
    obtain ⟨id, _, h4⟩ := subGr_back h
    exact hr.lt _ _ _ h4
  · intro i j b c c' hi hj
    obtain ⟨id, h3, h4⟩ := subGr_back hi
    obtain ⟨id', h3', h4'⟩ := subGr_back hj
    have := hr.inj _ _ _ _ _ h4 h4'
    subst this
    exact nodup_inj hn h3 h3'

/-! ### Back -/

def backGr (ids : List Nat) (ρ1 ρ : Gr) : Gr := (ρ.zipIdx.map fun p => if ids.contains p.2 then ρ1.getD (idx ids p.2) none else p.1) ++ ρ1.drop ids.length

variable {σ1' : Heap} {ρ1' : Gr} {S' : Cells} {w' : World}

theorem renum_at {n k id : Nat} (h : ids[k]? = some id) : renum ids n k = id := by
  unfold renum
  rw [if_pos (List.getElem?_eq_some_iff.1 h).1]
  simp [List.getD_eq_getElem?_getD, h]
theorem renum_new {n k : Nat} (h : ids.length ≤ k) : renum ids n k = n + (k - ids.length) := by
  unfold renum
  rw [if_neg (by omega)]

theorem zipIdx_map_get {α β : Type} (f : α × Nat → β) (l : List α) (i : Nat) : (l.zipIdx.map f)[i]? = (l[i]?).map fun x => f (x, i) := by
  rw [List.getElem?_map, List.getElem?_zipIdx]
  cases l[i]? <;> simp

theorem back_at (hn : ids.Nodup) (hb : ∀ id ∈ ids, id < σ.length) (hl : ρ.length = σ.length) (hl' : ρ1'.length = σ1'.length) {k : Nat} {o : Ob} (ho : σ1'[k]? = some o) :
    (backTo ids σ1' σ)[renum ids σ.length k]? = some (o.ren (renum ids σ.length)) ∧ (backGr ids ρ1' ρ)[renum ids σ.length k]? = ρ1'[k]? := by
  have hk1 : k < ρ1'.length := by rw [hl']; exact (List.getElem?_eq_some_iff.1 ho).1
  rcases Nat.lt_or_ge k ids.length with hk | hk
  · have hid : ids[k]? = some ids[k] := List.getElem?_eq_getElem hk
    have hlt := hb ids[k] (List.getElem_mem hk)
    rw [renum_at hid]
    have hc : ids.contains ids[k] = true := by simp
    constructor
    · unfold backTo
      rw [List.getElem?_append_left (by simpa using hlt), zipIdx_map_get, List.getElem?_eq_getElem hlt]
      simp only [Option.map_some, hc, if_true, idx_at hn hid, Heap.ob, List.getD_eq_getElem?_getD, ho, Option.getD_some]
    · unfold backGr
      rw [List.getElem?_append_left (by simp [hl]; exact hlt), zipIdx_map_get, List.getElem?_eq_getElem (by rw [hl]; exact hlt)]
      simp only [Option.map_some, hc, if_true, idx_at hn hid, List.getD_eq_getElem?_getD, List.getElem?_eq_getElem hk1, Option.getD_some]
  · rw [renum_new hk]
    constructor
    · unfold backTo
      rw [List.getElem?_append_right (by simp), List.getElem?_map, List.getElem?_drop]
      simp only [List.length_map, List.length_zipIdx]
      rw [show ids.length + (σ.length + (k - ids.length) - σ.length) = k by omega, ho]
      rfl
    · unfold backGr
      rw [List.getElem?_append_right (by simp [hl]), List.getElem?_drop]
      simp only [List.length_map, List.length_zipIdx, hl]
      rw [show ids.length + (σ.length + (k - ids.length) - σ.length) = k by omega]

theorem back_other (hl : ρ.length = σ.length) {id : Nat} (h : id ∉ ids) (hlt : id < σ.length) : (backTo ids σ1' σ)[id]? = σ[id]? ∧ (backGr ids ρ1' ρ)[id]? = ρ[id]? := by
  have hc : ids.contains id = false := by simpa using h
  constructor
  · unfold backTo
    rw [List.getElem?_append_left (by simpa using hlt), zipIdx_map_get, List.getElem?_eq_getElem hlt]
    simp only [Option.map_some, hc]; rfl
  · unfold backGr
    rw [List.getElem?_append_left (by simp [hl]; exact hlt), zipIdx_map_get, List.getElem?_eq_getElem (by rw [hl]; exact hlt)]
    simp only [Option.map_some, hc]; rfl

theorem back_len : (backTo ids σ1' σ).length = σ.length + (σ1'.length - ids.length) := by simp [backTo]
theorem backGr_len : (backGr ids ρ1' ρ).length = ρ.length + (ρ1'.length - ids.length) := by simp [backGr]

/-- Where an object behind the call comes from. -/
theorem back_from (hl : ids.length ≤ σ1'.length) {i : Nat} (hi : i < (backTo ids σ1' σ).length) : (∃ k, k < σ1'.length ∧ i = renum ids σ.length k) ∨ (i ∉ ids ∧ i < σ.length) := by
  rw [back_len] at hi
  rcases Nat.lt_or_ge i σ.length with h | h
  · by_cases hm : i ∈ ids
    · have hs := idx_spec hm
      have := (List.getElem?_eq_some_iff.1 hs).1
      exact .inl ⟨idx ids i, by omega, (renum_at hs).symm⟩
    · exact .inr ⟨hm, h⟩
  · exact .inl ⟨ids.length + (i - σ.length), by omega, by rw [renum_new (by omega)]; omega⟩

theorem renum_inj (hn : ids.Nodup) (hb : ∀ id ∈ ids, id < σ.length) {i j : Nat} (h : renum ids σ.length i = renum ids σ.length j) : i = j := by
  rcases Nat.lt_or_ge i ids.length with hi | hi <;> rcases Nat.lt_or_ge j ids.length with hj | hj
  · have h1 : ids[i]? = some ids[i] := List.getElem?_eq_getElem hi
    have h2 : ids[j]? = some ids[j] := List.getElem?_eq_getElem hj
    rw [renum_at h1, renum_at h2] at h
    exact nodup_inj hn h1 (by rw [h]; exact h2)
  · have h1 : ids[i]? = some ids[i] := List.getElem?_eq_getElem hi
    rw [renum_at h1, renum_new hj] at h
    have := hb _ (List.getElem_mem hi)
    omega
  · have h2 : ids[j]? = some ids[j] := List.getElem?_eq_getElem hj
    rw [renum_at h2, renum_new hi] at h
    have := hb _ (List.getElem_mem hj)
    omega
  · rw [renum_new hi, renum_new hj] at h; omega

/-- What the numbered objects came to, in the caller's numbers. -/
theorem back_ok (hr : Rel P σ ρ S w) (hn : ids.Nodup) (hs : subHeap σ ids = some σ1) (hr' : Rel P σ1' ρ1' S' w') (he : Ext σ1 (subGr ρ ids) S w σ1' ρ1' S' w')
    (hlen : σ1.length ≤ σ1'.length) :
    Rel P (backTo ids σ1' σ) (backGr ids ρ1' ρ) S' w' ∧ Ext σ ρ S w (backTo ids σ1' σ) (backGr ids ρ1' ρ) S' w' ∧
    ∀ (v : AV) (cv : Value), VA1 P σ1' ρ1' S' w' v cv → VA1 P (backTo ids σ1' σ) (backGr ids ρ1' ρ) S' w' (v.ren1 (renum ids σ.length)) cv := by
  obtain ⟨h1, h2⟩ := subHeap_spec hs
  have hb : ∀ id ∈ ids, id < σ.length := fun id hid => by
    obtain ⟨k, hk⟩ := List.mem_iff_getElem?.1 hid
    obtain ⟨o, ho, _⟩ := h2 k id hk
    exact (List.getElem?_eq_some_iff.1 ho).1
  have at_ : ∀ {k : Nat} {o : Ob}, σ1'[k]? = some o → (backTo ids σ1' σ)[renum ids σ.length k]? = some (o.ren (renum ids σ.length)) ∧ (backGr ids ρ1' ρ)[renum ids σ.length k]? = ρ1'[k]? :=
    fun ho => back_at hn hb hr.len hr'.len ho
  have hout : ∀ (id b c : Nat), ρ[id]? = some (some (b, c)) → id ∉ ids → ∀ k c', (subGr ρ ids)[k]? ≠ some (some (b, c')) := fun id b c h hni k c' hk => by
    obtain ⟨id', h3, h4⟩ := subGr_back hk
    have := hr.inj _ _ _ _ _ h h4
    subst this
    exact hni (List.mem_of_getElem? h3)
  have hnewS : ∀ (id b c : Nat), ρ[id]? = some (some (b, c)) → id ∉ ids → ∀ o, S' b o → S b o := fun id b c h hni o hs' => by
    rcases he.newS b o hs' with h3 | h3 | ⟨i, c', h3⟩
    · exact h3
    · have := hr.lt id b c h; omega
    · exact absurd h3 (hout id b c h hni i c')
  -- an object that was there, behind the call
  have old_in : ∀ {id : Nat} {o : Ob}, σ[id]? = some o → id ∈ ids → ∃ k, ids[k]? = some id ∧ σ1[k]? = some (o.ren (idx ids)) ∧ (subGr ρ ids)[k]? = ρ[id]? ∧ renum ids σ.length k = id := fun {id o} ho hi => by
    have hk := idx_spec hi
    obtain ⟨o', ho', _, _, h3⟩ := h2 _ _ hk
    rw [ho] at ho'; injection ho' with ho'; subst ho'
    exact ⟨_, hk, h3, subGr_get hk (by rw [hr.len]; exact (List.getElem?_eq_some_iff.1 ho).1), renum_at hk⟩
  have hext : Ext σ ρ S w (backTo ids σ1' σ) (backGr ids ρ1' ρ) S' w' := by
    refine ⟨he.cell, ?_, ?_, ?_, ?_, ?_, ?_, ?_, he.size, he.os, he.tape, he.output⟩
    · intro id cs hbx
      by_cases hi : id ∈ ids
      · obtain ⟨k, hk, h3, h4, h5⟩ := old_in hbx hi
        obtain ⟨⟨cs', h6⟩, h7⟩ := he.box _ _ h3
        obtain ⟨h8, h9⟩ := at_ h6
        rw [h5] at h8 h9
        exact ⟨⟨_, h8⟩, h9.trans (h7.trans h4)⟩
      · obtain ⟨h3, h4⟩ := back_other (σ1' := σ1') (ρ1' := ρ1') hr.len hi (List.getElem?_eq_some_iff.1 hbx).1
        exact ⟨⟨cs, h3.trans hbx⟩, h4⟩
    · intro id et n hbx
      by_cases hi : id ∈ ids
      · obtain ⟨k, hk, h3, h4, h5⟩ := old_in hbx hi
        rcases he.vec _ _ _ h3 with ⟨n', l, h6, h7⟩ | h6
        · obtain ⟨h8, h9⟩ := at_ h6
          rw [h5] at h8 h9
          exact .inl ⟨n', l, h8, fun e => h9.trans ((h7 e).trans h4)⟩
        · obtain ⟨h8, _⟩ := at_ h6
          rw [h5] at h8
          exact .inr h8
      · obtain ⟨h3, h4⟩ := back_other (σ1' := σ1') (ρ1' := ρ1') hr.len hi (List.getElem?_eq_some_iff.1 hbx).1
        exact .inl ⟨n, Nat.le_refl _, h3.trans hbx, fun _ => h4⟩
    · intro id r hbx
      by_cases hi : id ∈ ids
      · obtain ⟨k, hk, h3, h4, h5⟩ := old_in hbx hi
        obtain ⟨⟨r', h6⟩, h7⟩ := he.raw _ _ h3
        obtain ⟨h8, h9⟩ := at_ h6
        rw [h5] at h8 h9
        exact ⟨⟨_, h8⟩, h9.trans (h7.trans h4)⟩
      · obtain ⟨h3, h4⟩ := back_other (σ1' := σ1') (ρ1' := ρ1') hr.len hi (List.getElem?_eq_some_iff.1 hbx).1
        exact ⟨⟨r, h3.trans hbx⟩, h4⟩
    · intro id hbx
      by_cases hi : id ∈ ids
      · obtain ⟨k, hk, h3, h4, h5⟩ := old_in hbx hi
        have h6 := he.dead _ h3
        obtain ⟨h8, _⟩ := at_ h6
        rw [h5] at h8
        exact h8
      · exact (back_other (σ1' := σ1') (ρ1' := ρ1') hr.len hi (List.getElem?_eq_some_iff.1 hbx).1).1.trans hbx
    · intro b hb hno
      refine he.old b hb fun k c hk => ?_
      obtain ⟨id, _, h4⟩ := subGr_back hk
      exact hno id c h4
    · intro id b c hg
      have hlt : id < (backTo ids σ1' σ).length := by
        have := (List.getElem?_eq_some_iff.1 hg).1
        rw [backGr_len] at this
        rw [back_len, ← hr'.len, ← hr.len]; exact this
      rcases back_from (by rw [← h1]; exact hlen) hlt with ⟨k, hk, rfl⟩ | ⟨hi, hlt⟩
      · rw [(at_ (List.getElem?_eq_getElem hk)).2] at hg
        rcases he.fresh _ _ _ hg with h3 | ⟨i, c', h3⟩
        · exact .inl h3
        · obtain ⟨id', _, h4⟩ := subGr_back h3
          exact .inr ⟨id', c', h4⟩
      · rw [(back_other (σ1' := σ1') (ρ1' := ρ1') hr.len hi hlt).2] at hg
        exact .inr ⟨id, c, hg⟩
    · intro b o hs'
      rcases he.newS b o hs' with h3 | h3 | ⟨i, c, h3⟩
      · exact .inl h3
      · exact .inr (.inl h3)
      · obtain ⟨id', _, h4⟩ := subGr_back h3
        exact .inr (.inr ⟨id', c, h4⟩)
  have hval : ∀ (v : AV) (cv : Value), VA1 P σ1' ρ1' S' w' v cv → VA1 P (backTo ids σ1' σ) (backGr ids ρ1' ρ) S' w' (v.ren1 (renum ids σ.length)) cv := by
    intro v cv hv
    cases v with
    | own k et xs =>
      obtain ⟨h3, ⟨n, h4, h5, h6⟩ | h4⟩ := hv
      · obtain ⟨h7, h8⟩ := at_ h4
        refine ⟨h3, .inl ⟨n, h7, h5, fun e => ?_⟩⟩
        have := h6 e
        unfold place at *
        rw [h8]
        exact this
      · exact ⟨h3, .inr (at_ h4).1⟩
    | ptr k off =>
      obtain ⟨b, c, h3, ⟨cs, h4⟩, h5⟩ := hv
      obtain ⟨h7, h8⟩ := at_ h4
      exact ⟨b, c, h8.trans h3, ⟨_, h7⟩, h5⟩
    | clo f ps =>
      obtain ⟨cap, h3, h4, h5⟩ := hv
      refine ⟨cap, h3, by simpa using h4, fun j p hj => ?_⟩
      rw [List.getElem?_map] at hj
      obtain ⟨q, hq, rfl⟩ := Option.map_eq_some_iff.1 hj
      obtain ⟨b, c, h6, ⟨cs, h7⟩, h8⟩ := h5 j q hq
      obtain ⟨h9, h10⟩ := at_ h7
      exact ⟨b, c, h10.trans h6, ⟨_, h9⟩, h8⟩
    | itr k =>
      obtain ⟨b, c, h3, ⟨r, h4⟩, h5⟩ := hv
      obtain ⟨h7, h8⟩ := at_ h4
      exact ⟨b, c, h8.trans h3, ⟨_, h7⟩, h5⟩
    | nsp k t =>
      obtain ⟨⟨cs, h4⟩, b, h6, h9⟩ := hv
      obtain ⟨h7, h8⟩ := at_ h4
      exact ⟨⟨_, h7⟩, b, h8.trans h6, h9⟩
    | e x => exact hv
    | nils et => exact hv
    | nilp => exact hv
    | pin et y off => exact hv
    | fn f => exact hv
    | ni => exact hv
    | undef => trivial
    | agg cs => exact hv.elim
    | tup vs => exact hv.elim
  -- where an object comes from
  have from_ : ∀ {i : Nat} {q : Ob}, (backTo ids σ1' σ)[i]? = some q → (∃ k o, i = renum ids σ.length k ∧ σ1'[k]? = some o ∧ q = o.ren (renum ids σ.length) ∧ (backGr ids ρ1' ρ)[i]? = ρ1'[k]?) ∨
      (i ∉ ids ∧ σ[i]? = some q ∧ (backGr ids ρ1' ρ)[i]? = ρ[i]?) := fun {i q} hq => by
    rcases back_from (by rw [← h1]; exact hlen) (List.getElem?_eq_some_iff.1 hq).1 with ⟨k, hk, rfl⟩ | ⟨hi, hlt⟩
    · obtain ⟨h3, h4⟩ := at_ (List.getElem?_eq_getElem hk)
      rw [hq] at h3; injection h3 with h3
      exact .inl ⟨k, _, rfl, List.getElem?_eq_getElem hk, h3, h4⟩
    · obtain ⟨h3, h4⟩ := back_other (σ1' := σ1') (ρ1' := ρ1') hr.len hi hlt
      exact .inr ⟨hi, h3.symm.trans hq, h4⟩
  have hother : ∀ {id b c : Nat}, ρ[id]? = some (some (b, c)) → id ∉ ids → w'.heap[b]? = w.heap[b]? := fun {id b c} h hi => he.old b (hr.lt id b c h) (hout id b c h hi)
  refine ⟨⟨by rw [back_len, backGr_len, hr.len, hr'.len], ?_, ?_, ?_, ?_, ?_, ?_, hr'.cells, hr.glob.mono hext⟩, hext, hval⟩
  · intro id cs hbx
    rcases from_ hbx with ⟨k, o, rfl, ho, hq, hg⟩ | ⟨hi, ho, hg⟩
    · obtain ⟨ds, rfl, rfl⟩ := ren_box hq
      obtain ⟨b, c, arr, T, h3, h4, h5, h6, h7⟩ := hr'.box _ ds ho
      refine ⟨b, c, arr, T, hg.trans h3, h4, by simpa using h5, ?_, h7⟩
      intro j v hj
      rw [List.getElem?_map] at hj
      obtain ⟨u, hu, rfl⟩ := Option.map_eq_some_iff.1 hj
      obtain ⟨ho, x, h8, h9⟩ := h6 j u hu
      exact ⟨ren1_one _ ho, x, h8, hval u x h9⟩
    · obtain ⟨b, c, arr, T, h3, h4, h5, h6, h7⟩ := hr.box _ _ ho
      refine ⟨b, c, arr, T, hg.trans h3, (hother h3 hi).trans h4, h5, ?_, ⟨fun o hs' => h7.1 o (hnewS id b c h3 hi o hs'), h7.2⟩⟩
      intro j v hj
      obtain ⟨ho, x, h8, h9⟩ := h6 j v hj
      exact ⟨ho, x, h8, h9.mono hext⟩
  · intro id et n b c hbx hgr
    rcases from_ hbx with ⟨k, o, rfl, ho, hq, hg⟩ | ⟨hi, ho, hg⟩
    · have := ren_vec hq; subst this
      exact hr'.vec _ _ _ _ _ ho (hg.symm.trans hgr)
    · have h3 := hg.symm.trans hgr
      obtain ⟨arr, T, fs, h4, h5, h6, h7, h8⟩ := hr.vec _ _ _ _ _ ho h3
      exact ⟨arr, T, fs, (hother h3 hi).trans h4, h5, h6, h7, fun o hs' => h8.1 o (hnewS id b c h3 hi o hs'), h8.2⟩
  · intro id r hbx
    rcases from_ hbx with ⟨k, o, rfl, ho, hq, hg⟩ | ⟨hi, ho, hg⟩
    · have := ren_raw hq; subst this
      obtain ⟨b, c, ob, h3, h4⟩ := hr'.raw _ _ ho
      exact ⟨b, c, ob, hg.trans h3, h4⟩
    · obtain ⟨b, c, ob, h3, h4, h5, h6⟩ := hr.raw _ _ ho
      exact ⟨b, c, ob, hg.trans h3, (hother h3 hi).trans h4, h5, fun o hs' => h6 o (hnewS id b c h3 hi o hs')⟩
  · intro id hbx
    rcases from_ hbx with ⟨k, o, rfl, ho, hq, hg⟩ | ⟨hi, ho, hg⟩
    · have := ren_hole hq; subst this
      exact hg.trans (hr'.hole _ ho)
    · exact hg.trans (hr.hole _ ho)
  · intro id b c hgr
    have hlt : id < (backTo ids σ1' σ).length := by
      have := (List.getElem?_eq_some_iff.1 hgr).1
      rw [backGr_len] at this
      rw [back_len, ← hr'.len, ← hr.len]; exact this
    rcases from_ (List.getElem?_eq_getElem hlt) with ⟨k, o, rfl, ho, hq, hg⟩ | ⟨hi, ho, hg⟩
    · exact hr'.lt _ _ _ (hg.symm.trans hgr)
    · exact Nat.lt_of_lt_of_le (hr.lt _ _ _ (hg.symm.trans hgr)) he.size
  · intro i j b c c' hi hj
    have hlt : ∀ {i : Nat} {g : Option (Nat × Nat)}, (backGr ids ρ1' ρ)[i]? = some g → i < (backTo ids σ1' σ).length := fun {i g} h => by
      have := (List.getElem?_eq_some_iff.1 h).1
      rw [backGr_len] at this
      rw [back_len, ← hr'.len, ← hr.len]; exact this
    have key : ∀ {k i b c c' : Nat}, ρ1'[k]? = some (some (b, c)) → i ∉ ids → ρ[i]? = some (some (b, c')) → False := fun {k i b c c'} h h3 h4 => by
      rcases he.fresh _ _ _ h with h5 | ⟨q, c2, h5⟩
      · have := hr.lt i b c' h4; omega
      · exact hout i b c' h4 h3 q c2 h5
    rcases from_ (List.getElem?_eq_getElem (hlt hi)) with ⟨k, o, rfl, ho, hq, hg⟩ | ⟨hi1, ho, hg⟩ <;> rcases from_ (List.getElem?_eq_getElem (hlt hj)) with ⟨k', o', rfl, ho', hq', hg'⟩ | ⟨hj1, ho', hg'⟩
    · have := hr'.inj _ _ _ _ _ (hg.symm.trans hi) (hg'.symm.trans hj)
      rw [this]
    · exact (key (hg.symm.trans hi) hj1 (hg'.symm.trans hj)).elim
    · exact (key (hg'.symm.trans hj) hi1 (hg.symm.trans hi)).elim
    · exact hr.inj _ _ _ _ _ (hg.symm.trans hi) (hg'.symm.trans hj)

end
end Go.Den

/- Calls: what a callee's results and objects are, is said by their types; and the caller goes on with them. -/
namespace Go.Den
open Go

section
variable {P : Program}

theorem okCells_spec {ft : List TypeId} {rs : List AV} (h : okCells P ft rs = true) : rs.length = ft.length ∧
    ∀ (j : Nat) (ct : TypeId) (v : AV), ft[j]? = some ct → rs[j]? = some v → ∃ x, v = .e x ∧ okCell P ct x = true := by
  unfold okCells at h
  rw [Bool.and_eq_true] at h
  refine ⟨by simpa using h.1, fun j ct v h1 h2 => ?_⟩
  have hz : (ft.zip rs)[j]? = some (ct, v) := by rw [List.getElem?_zip_eq_some]; exact ⟨h1, h2⟩
  have := List.all_eq_true.1 h.2 _ (List.mem_of_getElem? hz)
  cases v <;> simp at this
  exact ⟨_, rfl, this⟩

theorem seal1_e {x : E} : (AV.e x).seal1 = some x := rfl

theorem seal_cells : ∀ {rs : List AV}, (∀ (j : Nat) (v : AV), rs[j]? = some v → ∃ x, v = .e x) → ∃ xs : List E, rs = xs.map AV.e ∧ rs.mapM AV.seal1 = some xs
  | [], _ => ⟨[], rfl, rfl⟩
  | v :: rs, h => by
    obtain ⟨x, rfl⟩ := h 0 v rfl
    obtain ⟨xs, h1, h2⟩ := seal_cells (rs := rs) fun j v hj => h (j + 1) v (by simpa using hj)
    exact ⟨x :: xs, by simp [h1], by simp [List.mapM_cons, seal1_e, h2]⟩

theorem canonRes1_ok {t : TypeId} {r v : AV} (h : okRes1 P t r = true) (hc : canonRes1 P t r = some v) : v = r ∧ (∀ f, r.ren2 f = r) ∧ ∀ cs, r ≠ .tup cs := by
  unfold okRes1 at h
  unfold canonRes1 at hc
  by_cases ha : isAggB P t = true
  · rw [if_pos ha] at h hc
    cases hf : flat P depth t with
    | none => rw [hf] at h; cases h
    | some ft =>
      cases r with
      | agg rs =>
        simp only [hf] at h hc
        obtain ⟨h1, h2⟩ := okCells_spec h
        have he : ∀ (j : Nat) (v : AV), rs[j]? = some v → ∃ x, v = .e x := fun j v hj => by
          have hl : j < ft.length := by rw [← h1]; exact (List.getElem?_eq_some_iff.1 hj).1
          obtain ⟨x, hx, _⟩ := h2 j ft[j] v (by simp [hl]) hj
          exact ⟨x, hx⟩
        obtain ⟨xs, hx1, hx2⟩ := seal_cells he
        have hd : (AV.agg rs).data = .agg xs := by simp [AV.data, AV.dat, hx2]
        obtain ⟨cs, hcs, rfl⟩ := Option.map_eq_some_iff.1 hc
        obtain ⟨h3, h4⟩ := mapM_some_get hcs
        refine ⟨?_, fun f => ?_, fun cs e => by cases e⟩
        · congr 1
          apply List.ext_getElem?
          intro j
          by_cases hj : j < ft.length
          · obtain ⟨y, hy, hy'⟩ := h4 j (ft[j], j) (by simp [hj])
            rw [hy']
            obtain ⟨u, hu, rfl⟩ := Option.map_eq_some_iff.1 hy
            have hjr : j < rs.length := by omega
            obtain ⟨x, hx, hok⟩ := h2 j ft[j] rs[j] (by simp [hj]) (by simp [hjr])
            have hxs : xs[j]? = some x := by
              have : (xs.map AV.e)[j]? = some (.e x) := by rw [← hx1]; simp [hjr, hx]
              rw [List.getElem?_map] at this
              obtain ⟨z, hz, hz'⟩ := Option.map_eq_some_iff.1 this
              cases hz'; exact hz
            rw [hd, E.cell_of (y := .agg xs) (x := x) (by exact hxs)] at hu
            rw [canon_ok hu hok, List.getElem?_eq_getElem hjr, hx]
          · rw [List.getElem?_eq_none (by rw [h3]; simp; omega), List.getElem?_eq_none (by omega)]
        · simp only [AV.ren2]
          congr 1
          rw [hx1]
          simp [AV.ren1]
      | _ => simp [hf] at h
  · rw [if_neg ha] at h hc
    cases r with
    | e x =>
      obtain ⟨u, hu, rfl⟩ := Option.map_eq_some_iff.1 hc
      cases x with
      | agg cs => have := okCell_one h; simp [AV.one] at this
      | int k n => exact ⟨by rw [canon_ok hu (by simpa [AV.data, AV.dat, AV.seal1] using h)]; rfl, fun f => rfl, fun cs e => by cases e⟩
      | bool b => exact ⟨by rw [canon_ok hu (by simpa [AV.data, AV.dat, AV.seal1] using h)]; rfl, fun f => rfl, fun cs e => by cases e⟩
      | str s => exact ⟨by rw [canon_ok hu (by simpa [AV.data, AV.dat, AV.seal1] using h)]; rfl, fun f => rfl, fun cs e => by cases e⟩
      | sl e xs => exact ⟨by rw [canon_ok hu (by simpa [AV.data, AV.dat, AV.seal1] using h)]; rfl, fun f => rfl, fun cs e => by cases e⟩
      | ifc t x => exact ⟨by rw [canon_ok hu (by simpa [AV.data, AV.dat, AV.seal1] using h)]; rfl, fun f => rfl, fun cs e => by cases e⟩
      | nili => exact ⟨by rw [canon_ok hu (by simpa [AV.data, AV.dat, AV.seal1] using h)]; rfl, fun f => rfl, fun cs e => by cases e⟩
    | _ => simp at h

theorem canonRes_ok {t : TypeId} {r : Res} {v : AV} (h : okRes P t r = true) (hc : canonRes P t r.val = some v) : ∃ u, r = .ret u ∧ v = u ∧ ∀ f, u.ren3 f = u := by
  unfold okRes at h
  cases r with
  | pan x => cases h
  | rcv x => cases h
  | ret u =>
    refine ⟨u, rfl, ?_⟩
    simp only [Res.val] at hc
    unfold canonRes at hc
    simp only at h
    split at h
    · rename_i ts hu
      rw [hu] at hc
      split at h
      · rename_i vs
        simp only at hc
        rw [Bool.and_eq_true] at h
        obtain ⟨ws, hws, rfl⟩ := Option.map_eq_some_iff.1 hc
        obtain ⟨h3, h4⟩ := mapM_some_get hws
        have hlen : vs.length = ts.toList.length := by simpa using h.1
        have hall : ∀ (j : Nat) (hj : j < vs.length), ws[j]? = some vs[j] ∧ ∀ f, vs[j].ren2 f = vs[j] := fun j hj => by
          have hjt : j < ts.toList.length := by omega
          obtain ⟨y, hy, hy'⟩ := h4 j (ts.toList[j], j) (by simp [List.getElem?_zipIdx])
          have hz : (ts.toList.zip vs)[j]? = some (ts.toList[j], vs[j]) := by
            rw [List.getElem?_zip_eq_some]; exact ⟨List.getElem?_eq_getElem hjt, List.getElem?_eq_getElem hj⟩
          have hok := List.all_eq_true.1 h.2 _ (List.mem_of_getElem? hz)
          have hcomp : AV.comp (.tup vs) j = vs[j] := by simp [AV.comp, List.getD_eq_getElem?_getD, hj]
          rw [hcomp] at hy
          obtain ⟨h5, h6, _⟩ := canonRes1_ok hok hy
          exact ⟨by rw [hy', h5], h6⟩
        refine ⟨?_, fun f => ?_⟩
        · congr 1
          apply List.ext_getElem?
          intro j
          by_cases hj : j < vs.length
          · rw [(hall j hj).1, List.getElem?_eq_getElem hj]
          · rw [List.getElem?_eq_none (by rw [h3]; simp at hlen ⊢; omega), List.getElem?_eq_none (by omega)]
        · simp only [AV.ren3]
          congr 1
          apply List.ext_getElem?
          intro j
          rw [List.getElem?_map]
          by_cases hj : j < vs.length
          · rw [List.getElem?_eq_getElem hj]; simp [(hall j hj).2]
          · rw [List.getElem?_eq_none (by omega)]; rfl
      · cases h
    · rename_i h0 hu
      rw [hu] at hc
      have hc' : canonRes1 P t u = some v := by
        rename_i x
        cases x <;> first | exact hc | exact absurd rfl (h0 _)
      obtain ⟨h5, h6, h7⟩ := canonRes1_ok h hc'
      exact ⟨h5, fun f => by rw [(ren2_tup f h7).1]; exact h6 f⟩
    · cases h

theorem likeCell_ok {c d : AV} (h : okLike c d = true) : likeCell c d = d := by
  unfold okLike at h
  split at h <;> first | (cases h; done) | skip
  · simp at h; subst h; rfl
  · rfl
  · rfl
  · simp at h; subst h; rfl
  · simp at h; obtain ⟨h1, h2⟩ := h; subst h1; subst h2; rfl
  · simp at h; obtain ⟨h1, h2⟩ := h; subst h1; subst h2; rfl
  · rfl
  · simp at h; subst h; rfl
  · simp at h; obtain ⟨h1, h2⟩ := h; subst h1; subst h2; rfl
  · simp at h; subst h; rfl
  · simp at h; obtain ⟨h1, h2⟩ := h; subst h1; subst h2; rfl

theorem likeCells_ok {cs ds : List AV} (hl : cs.length = ds.length) (h : ((cs.zip ds).all fun (c, d) => okLike c d) = true) (dflt : AV) : (cs.zipIdx.map fun (c, j) => likeCell c (ds.getD j dflt)) = ds := by
  apply List.ext_getElem?
  intro j
  rw [List.getElem?_map, List.getElem?_zipIdx]
  by_cases hj : j < cs.length
  · have hjd : j < ds.length := by omega
    have hz : (cs.zip ds)[j]? = some (cs[j], ds[j]) := by rw [List.getElem?_zip_eq_some]; exact ⟨List.getElem?_eq_getElem hj, List.getElem?_eq_getElem hjd⟩
    have := List.all_eq_true.1 h _ (List.mem_of_getElem? hz)
    rw [List.getElem?_eq_getElem hj, List.getElem?_eq_getElem hjd]
    simp only [Option.map_some, Nat.zero_add, List.getD_eq_getElem?_getD, List.getElem?_eq_getElem hjd, Option.getD_some]
    rw [likeCell_ok this]
  · rw [List.getElem?_eq_none (by omega), List.getElem?_eq_none (by omega)]; rfl

theorem likeHeap_ok {σ h : Heap} (ho : okHeap σ h = true) : likeHeap σ h = h ∧ h.length = σ.length := by
  unfold okHeap at ho
  rw [Bool.and_eq_true] at ho
  have hlen : σ.length = h.length := by simpa using ho.1
  refine ⟨?_, hlen.symm⟩
  apply List.ext_getElem?
  intro k
  unfold likeHeap
  rw [List.getElem?_map, List.getElem?_zipIdx]
  by_cases hk : k < σ.length
  · have hkh : k < h.length := by omega
    have hz : (σ.zip h)[k]? = some (σ[k], h[k]) := by rw [List.getElem?_zip_eq_some]; exact ⟨List.getElem?_eq_getElem hk, List.getElem?_eq_getElem hkh⟩
    have hok := List.all_eq_true.1 ho.2 _ (List.mem_of_getElem? hz)
    have hob : Heap.ob h k = h[k] := by simp [Heap.ob, List.getD_eq_getElem?_getD, hkh]
    rw [List.getElem?_eq_getElem hk, List.getElem?_eq_getElem hkh]
    simp only [Option.map_some, Nat.zero_add, hob]
    congr 1
    generalize σ[k] = o at *
    generalize h[k] = q at *
    cases o with
    | box cs =>
      cases q with
      | box ds =>
        simp only [Bool.and_eq_true, beq_iff_eq] at hok
        simp only
        congr 1
        exact likeCells_ok hok.1 hok.2 .undef
      | _ => cases hok
    | vec t n =>
      cases q with
      | vec t' n' =>
        have : t = t' := by simpa using hok
        subst this; rfl
      | _ => cases hok
    | raw r =>
      cases r
      cases q with
      | raw r' => cases r'; rfl
      | _ => cases hok
    | dead => cases q <;> first | rfl | cases hok
    | hole => cases q <;> first | rfl | cases hok
  · rw [List.getElem?_eq_none (by omega), List.getElem?_eq_none (by omega)]; rfl

theorem okSlot_ok {p v : AV} (h : okSlot p v = true) : likeSlot p v = .undef ∨ likeSlot p v = v := by
  unfold okSlot at h
  split at h
  · exact .inl rfl
  · rename_i cs ds
    right
    rw [Bool.and_eq_true] at h
    simp only [likeSlot]
    congr 1
    exact likeCells_ok (by simpa using h.1) h.2 .undef
  · right
    cases p with
    | undef => rename_i h1 _; exact (h1 rfl).elim
    | agg cs => simp [okLike] at h
    | _ => exact likeCell_ok h

/-- A value of which less is said. -/
def Weaker (v u : AV) : Prop := ∀ (P : Program) (σ : Heap) (ρ : Gr) (S : Cells) (w : World) (cv : Value), VA3 P σ ρ S w u cv → VA3 P σ ρ S w v cv
theorem Weaker.refl (v : AV) : Weaker v v := fun _ _ _ _ _ _ h => h
theorem Weaker.undef (v : AV) : Weaker .undef v := fun _ _ _ _ _ _ _ => trivial

theorem okVal_ok {p v : AV} (h : okVal p v = true) : Weaker (likeVal p v) v := by
  unfold okVal at h
  split at h
  · rename_i ps vs
    rw [Bool.and_eq_true] at h
    have hl : ps.length = vs.length := by simpa using h.1
    have : likeVal (.tup ps) (.tup vs) = .tup vs := by
      simp only [likeVal]
      congr 1
      apply List.ext_getElem?
      intro j
      rw [List.getElem?_map, List.getElem?_zipIdx]
      by_cases hj : j < ps.length
      · have hjd : j < vs.length := by omega
        have hz : (ps.zip vs)[j]? = some (ps[j], vs[j]) := by rw [List.getElem?_zip_eq_some]; exact ⟨List.getElem?_eq_getElem hj, List.getElem?_eq_getElem hjd⟩
        have h3 := List.all_eq_true.1 h.2 _ (List.mem_of_getElem? hz)
        rw [Bool.and_eq_true] at h3
        rw [List.getElem?_eq_getElem hj, List.getElem?_eq_getElem hjd]
        simp only [Option.map_some, Nat.zero_add, AV.comp, List.getD_eq_getElem?_getD, List.getElem?_eq_getElem hjd, Option.getD_some]
        rcases okSlot_ok h3.1 with h4 | h4
        · exfalso
          have h5 := h3.2
          have h6 := h3.1
          generalize ps[j] = a at *
          generalize vs[j] = b at *
          have h7 : a ≠ .undef := by rintro rfl; cases h5
          have h8 : okSlot a .undef = false := by cases a <;> first | rfl | exact absurd rfl h7 | (rename_i x; cases x <;> rfl)
          by_cases hag : ∃ cs, a = .agg cs
          · obtain ⟨cs, rfl⟩ := hag
            cases b <;> simp [okSlot, okLike] at h6
            simp [likeSlot] at h4
          · have e1 : likeSlot a b = likeCell a b := by cases a <;> first | rfl | exact absurd rfl h7 | exact absurd ⟨_, rfl⟩ hag
            have e2 : okSlot a b = okLike a b := by cases a <;> cases b <;> first | rfl | exact absurd rfl h7 | exact absurd ⟨_, rfl⟩ hag
            rw [e1, likeCell_ok (e2 ▸ h6)] at h4
            subst h4
            rw [h8] at h6; cases h6
        · rw [h4]
      · rw [List.getElem?_eq_none (by omega), List.getElem?_eq_none (by omega)]; rfl
    rw [this]
    exact Weaker.refl _
  · rename_i h0
    have hl : likeVal p v = likeSlot p v := by
      cases p <;> first | rfl | skip
      rename_i ps
      cases v <;> first | (simp [okSlot, okLike] at h; done) | exact (h0 _ _ rfl rfl).elim
    rw [hl]
    rcases okSlot_ok h with h1 | h1 <;> rw [h1]
    · exact Weaker.undef _
    · exact Weaker.refl _

/-- What a call of a Go function comes to. -/
inductive Come where
  | ret (v : AV) (h : Heap)
  | pan (x : E) (h : Heap)

end

section
variable {R : Type} {run : RunF} {loop : Code → Fr → Heap → Option Out} {lr : Res → Heap → Option R} {lo : Out → Option R} {r : R}

theorem go_br {b : Bool} {x y : T} (h : (T.br b x y).go run loop lr lo = some r) : (b = true ∧ x.go run loop lr lo = some r) ∨ (b = false ∧ y.go run loop lr lo = some r) := by
  cases b with
  | true => exact .inl ⟨rfl, h⟩
  | false => exact .inr ⟨rfl, h⟩
theorem go_must {b : Bool} {x : T} (h : (T.br b x .fail).go run loop lr lo = some r) : b = true ∧ x.go run loop lr lo = some r := by
  rcases go_br h with h | ⟨_, h⟩
  · exact h
  · cases h

theorem splice_inv {k : Res × Heap → T} : ∀ {t : T}, (t.splice k).go run loop lr lo = some r → ∃ rh, t.quick = some rh ∧ (k rh).go run loop lr lo = some r
  | .res q h, he => ⟨(q, h), rfl, he⟩
  | .br b x y, he => by
    rcases go_br (show (T.br b (x.splice k) (y.splice k)).go run loop lr lo = some r from he) with ⟨rfl, he⟩ | ⟨rfl, he⟩
    · exact splice_inv (t := x) he
    · exact splice_inv (t := y) he
  | .fail, he => by cases he
  | .out _, he => by cases he
  | .call .., he => by cases he
  | .loop .., he => by cases he

theorem spliceO_inv {k : Out → T} : ∀ {t : T}, (t.spliceO k).go run loop lr lo = some r → ∃ o, t.quickO = some o ∧ (k o).go run loop lr lo = some r
  | .out o, he => ⟨o, rfl, he⟩
  | .br b x y, he => by
    rcases go_br (show (T.br b (x.spliceO k) (y.spliceO k)).go run loop lr lo = some r from he) with ⟨rfl, he⟩ | ⟨rfl, he⟩
    · exact spliceO_inv (t := x) he
    · exact spliceO_inv (t := y) he
  | .fail, he => by cases he
  | .res _ _, he => by cases he
  | .call .., he => by cases he
  | .loop .., he => by cases he

/-- What a function comes to, by its contract or its run. -/
def RunsTo (H : Hints) (run : RunF) (md : Mode) (f : FuncId) (as : List AV) (σ : Heap) (rh : Res × Heap) : Prop :=
  (∃ g, H.prim md f = some g ∧ (g as σ).quick = some rh) ∨ run md f as σ = some rh

def CallOut (H : Hints) (run : RunF) (f : FuncId) (args : List AV) (σ : Heap) (out : Come) : Prop :=
  ∃ (ids : List Nat) (σc : Heap) (q : Res) (h : Heap), ids = closure σ 6 (addNew [] ((args.map (AV.handed (H.own f))).flatMap AV.ids2)) ∧ subHeap σ ids = some σc ∧
    RunsTo H run none f ((args.map (AV.handed (H.own f))).map (AV.ren2 (idx ids))) σc (q, h) ∧ σc.length ≤ h.length ∧
    ((∃ u v, q = .ret u ∧ Weaker v u ∧ out = .ret (v.ren3 (renum ids σ.length)) (backTo ids h σ)) ∨ ∃ x, q = .pan x ∧ out = .pan x (backTo ids h σ))

theorem callT_inv {C : Ctx} {t : TypeId} {f : FuncId} {args : List AV} {σ : Heap} {K : AV → Heap → T} {Kp : E → Heap → T}
    (h : (callT C t f args σ K Kp).go run loop lr lo = some r) : ∃ out, CallOut C.H run f args σ out ∧ (match out with | .ret v h => K v h | .pan x h => Kp x h).go run loop lr lo = some r := by
  unfold callT at h
  simp only at h
  generalize hids : closure σ 6 (addNew [] ((args.map (AV.handed (C.H.own f))).flatMap AV.ids2)) = ids at h
  split at h
  · cases h
  · rename_i σc hs
    have mkRet : ∀ (q : Heap) (u v : AV), RunsTo C.H run none f ((args.map (AV.handed (C.H.own f))).map (AV.ren2 (idx ids))) σc (.ret u, q) → σc.length ≤ q.length → Weaker v u → (K (v.ren3 (renum ids σ.length)) (backTo ids q σ)).go run loop lr lo = some r →
        ∃ out, CallOut C.H run f args σ out ∧ (match out with | .ret v h => K v h | .pan x h => Kp x h).go run loop lr lo = some r :=
      fun q u v h1 h2 h3 h4 => ⟨.ret _ _, ⟨ids, σc, .ret u, q, hids.symm, hs, h1, h2, .inl ⟨u, v, rfl, h3, rfl⟩⟩, h4⟩
    have mkPan : ∀ (q : Heap) (x : E), RunsTo C.H run none f ((args.map (AV.handed (C.H.own f))).map (AV.ren2 (idx ids))) σc (.pan x, q) → σc.length ≤ q.length → (Kp x (backTo ids q σ)).go run loop lr lo = some r →
        ∃ out, CallOut C.H run f args σ out ∧ (match out with | .ret v h => K v h | .pan x h => Kp x h).go run loop lr lo = some r :=
      fun q x h1 h2 h4 => ⟨.pan _ _, ⟨ids, σc, .pan x, q, hids.symm, hs, h1, h2, .inr ⟨x, rfl, rfl⟩⟩, h4⟩
    split at h
    · -- a contract
      rename_i g hg
      obtain ⟨⟨q, qh⟩, hq, h⟩ := splice_inv h
      have hrun : RunsTo C.H run none f ((args.map (AV.handed (C.H.own f))).map (AV.ren2 (idx ids))) σc (q, qh) := .inl ⟨g, hg, hq⟩
      split at h
      · rename_i heq
        injection heq with h1 h2; subst h1; subst h2
        split at h
        · rename_i hl; exact mkRet _ _ _ hrun hl (Weaker.refl _) h
        · cases h
      · rename_i heq
        injection heq with h1 h2; subst h1; subst h2
        split at h
        · rename_i hl; exact mkPan _ _ hrun hl h
        · cases h
      · cases h
    · -- a run
      obtain ⟨⟨q, qh⟩, hq, h⟩ := Option.bind_eq_some_iff.1 (show (run none f ((args.map (AV.handed (C.H.own f))).map (AV.ren2 (idx ids))) σc).bind (fun rh => (backT C t f ids σc σ K Kp rh).go run loop lr lo) = some r from h)
      have hrun : RunsTo C.H run none f ((args.map (AV.handed (C.H.own f))).map (AV.ren2 (idx ids))) σc (q, qh) := .inr hq
      have viaType : ∀ (v : AV), canonRes C.P t q.val = some v → okRes C.P t q = true → σc.length ≤ qh.length → (K (v.ren3 (renum ids σ.length)) (backTo ids qh σ)).go run loop lr lo = some r →
          ∃ out, CallOut C.H run f args σ out ∧ (match out with | .ret v h => K v h | .pan x h => Kp x h).go run loop lr lo = some r := fun v hc ho hl hk => by
        obtain ⟨u, hu, hv, _⟩ := canonRes_ok ho hc
        subst hv; subst hu
        exact mkRet _ _ _ hrun hl (Weaker.refl _) hk
      unfold backT at h
      split at h
      · -- as it is
        split at h
        · rename_i heq
          injection heq with h1 h2; subst h1; subst h2
          split at h
          · rename_i hl; exact mkRet _ _ _ hrun hl (Weaker.refl _) h
          · cases h
        · rename_i heq
          injection heq with h1 h2; subst h1; subst h2
          split at h
          · rename_i hl; exact mkPan _ _ hrun hl h
          · cases h
        · cases h
      · -- by its type
        split at h
        · rename_i v hc
          obtain ⟨ho, h⟩ := go_must h
          obtain ⟨e1, e2⟩ := likeHeap_ok ho
          simp only at e1 e2
          rw [e1] at h
          split at h
          · rcases go_br h with ⟨hp, h⟩ | ⟨hp, h⟩
            · cases q with
              | pan x => exact mkPan _ _ hrun (by omega) h
              | ret u => cases hp
              | rcv u => cases hp
            · obtain ⟨ho, h⟩ := go_must h
              exact viaType v hc ho (by omega) h
          · obtain ⟨ho, h⟩ := go_must h
            exact viaType v hc ho (by omega) h
        · cases h
      · -- as it is foretold
        rename_i pv ph _ _
        split at h
        · rename_i hpl
          obtain ⟨ho, h⟩ := go_must h
          obtain ⟨e1, e2⟩ := likeHeap_ok ho
          simp only at e1 e2
          rw [e1] at h
          rcases go_br h with ⟨hp, h⟩ | ⟨hp, h⟩
          · split at h
            · cases q with
              | pan x => exact mkPan _ _ hrun (by omega) h
              | ret u => cases hp
              | rcv u => cases hp
            · cases h
          · cases pv with
            | some p =>
              simp only at h
              obtain ⟨hv, h⟩ := go_must h
              rw [Bool.and_eq_true] at hv
              cases q with
              | ret u => exact mkRet _ u _ hrun (by omega) (okVal_ok hv.2) h
              | pan x => cases hv.1
              | rcv u => cases hv.1
            | none =>
              simp only at h
              split at h
              · rename_i v hc
                obtain ⟨ho, h⟩ := go_must h
                exact viaType v hc ho (by omega) h
              · cases h
        · cases h
end

/-- A caller's state, when a call that it put off begins. -/
def ModeOk (P : Program) (w : World) (S : Cells) : Option E → FrameMode → Prop
  | none, u => u = .returning
  | some x, u => ∃ cv, VE P w S x cv ∧ u = .panicking [{ v := cv, recovered := false }]

/-- .. and when it has ended. -/
def ModeEnd (u : FrameMode) : Res → FrameMode → Prop
  | .ret _, u' => u' = u
  | .rcv _, u' => ∃ cv, u' = .panicking [{ v := cv, recovered := true }]
  | .pan _, _ => False

/-- A Go function's run, of which the interpreter says what it comes to. -/
def RunPost (P : Program) (r : Res) (σ' : Heap) (σ : Heap) (ρ : Gr) (S : Cells) (w : World) (e : Ending) (w' : World) : Prop :=
  ∃ ρ' S', Rel P σ' ρ' S' w' ∧ Ext σ ρ S w σ' ρ' S' w' ∧
    match r with
    | .ret v => ∃ cv, e = .returned cv ∧ VA3 P σ' ρ' S' w' v cv
    | .pan x => ∃ cv, e = .panicked [{ v := cv, recovered := false }] ∧ VE P w' S' x cv
    | .rcv _ => False

def RunPostD (P : Program) (u : FrameMode) (r : Res) (σ' : Heap) (σ : Heap) (ρ : Gr) (S : Cells) (w : World) (e : Ending) (u' : FrameMode) (w' : World) : Prop :=
  ∃ ρ' S', Rel P σ' ρ' S' w' ∧ Ext σ ρ S w σ' ρ' S' w' ∧ (∃ cv, e = .returned cv) ∧ ModeEnd u r u'

/-- The call of this function enters its body. -/
def Enters (P : Program) (f : FuncId) : Prop := ∃ fn, P.funcs[f]? = some fn ∧ (fn.name == "runtime.NumGoroutine") = false ∧ fn.body.isNone = false

def ArgsOk (P : Program) (σ : Heap) (ρ : Gr) (S : Cells) (w : World) (args : List AV) (cargs : Array Value) : Prop :=
  cargs.size = args.length ∧ ∀ (j : Nat) (v : AV), args[j]? = some v → ∃ cv, cargs[j]? = some cv ∧ VA2 P σ ρ S w v cv

/-- A function, called on these arguments, comes to this. -/
def ComesTo (P : Program) (md : Mode) (f : FuncId) (args : List AV) (σ : Heap) (r : Res) (σ' : Heap) : Prop :=
  Enters P f ∧ ∀ (ρ : Gr) (S : Cells) (w : World) (cargs : Array Value), Rel P σ ρ S w → ArgsOk P σ ρ S w args cargs →
    match md with
    | none => Calls P f cargs w (RunPost P r σ' σ ρ S w)
    | some pv => ∀ u, ModeOk P w S pv u → CallsD P f cargs u w (RunPostD P u r σ' σ ρ S w)

def RunOk (P : Program) (run : RunF) : Prop := ∀ (md : Mode) (f : FuncId) (args : List AV) (σ : Heap) (r : Res) (σ' : Heap), run md f args σ = some (r, σ') → ComesTo P md f args σ r σ'

/-- The contracts that are known. -/
def PrimOk (P : Program) (H : Hints) : Prop :=
  ∀ (md : Mode) (f : FuncId) (g : List AV → Heap → T) (args : List AV) (σ : Heap) (r : Res) (σ' : Heap), H.prim md f = some g → (g args σ).quick = some (r, σ') → ComesTo P md f args σ r σ'

theorem RunsTo.ok {P : Program} {H : Hints} {run : RunF} (hp : PrimOk P H) (hr : RunOk P run) {md : Mode} {f : FuncId} {as : List AV} {σ : Heap} {r : Res} {σ' : Heap} (h : RunsTo H run md f as σ (r, σ')) : ComesTo P md f as σ r σ' := by
  rcases h with ⟨g, h1, h2⟩ | h
  · exact hp md f g as σ r σ' h1 h2
  · exact hr md f as σ r σ' h

section
variable {P : Program} {σ : Heap} {ρ : Gr} {S : Cells} {w : World}

theorem calm1_ok {v : AV} {cv : Value} (hv : VA1 P σ ρ S w v cv) : VA1 P σ ρ S w v.calm1 cv := by
  unfold AV.calm1
  split
  · rename_i x h
    exact seal1_ok h hv
  · exact hv

theorem calm1_one {v : AV} (h : v.one = true) : v.calm1.one = true := by
  cases v <;> simp [AV.calm1, AV.seal1] <;> first | exact h | rfl

theorem calm_ok {v : AV} {cv : Value} (hv : VA3 P σ ρ S w v cv) : VA2 P σ ρ S w v.calm cv := by
  unfold AV.calm
  split
  · rename_i cs
    obtain ⟨arr, h1, h2, h3⟩ : ∃ arr : Array Value, cv = .agg arr ∧ arr.size = cs.length ∧ ∀ (j : Nat) (v : AV), cs[j]? = some v → v.one = true ∧ ∃ x, arr[j]? = some x ∧ VA1 P σ ρ S w v x := hv
    refine ⟨arr, h1, by simpa using h2, fun j u hj => ?_⟩
    rw [List.getElem?_map] at hj
    obtain ⟨v, hv, rfl⟩ := Option.map_eq_some_iff.1 hj
    obtain ⟨ho, x, h4, h5⟩ := h3 j v hv
    exact ⟨calm1_one ho, x, h4, calm1_ok h5⟩
  · trivial
  · rename_i h1 h2
    rw [VA3_eq h2, VA2_eq h1] at hv
    exact (calm1_ok hv).to2

theorem handed_ok {ow : Bool} {v : AV} {cv : Value} (hv : VA3 P σ ρ S w v cv) : VA2 P σ ρ S w (v.handed ow) cv := by
  cases ow with
  | false => exact calm_ok hv
  | true =>
    show VA2 P σ ρ S w v.keep cv
    unfold AV.keep
    split
    · trivial
    · rename_i h
      rw [VA3_eq h] at hv
      exact hv

/-- The arguments, in the callee's numbers. -/
theorem args_sub {ids : List Nat} {σc : Heap} {as : List AV} {cargs : Array Value} (hl : ρ.length = σ.length) (hs : subHeap σ ids = some σc) (hi : ∀ x ∈ as.flatMap AV.ids2, x ∈ ids) (ha : ArgsOk P σ ρ S w as cargs) :
    ArgsOk P σc (subGr ρ ids) S w (as.map (AV.ren2 (idx ids))) cargs := by
  refine ⟨by simpa using ha.1, fun j v hj => ?_⟩
  rw [List.getElem?_map] at hj
  obtain ⟨u, hu, rfl⟩ := Option.map_eq_some_iff.1 hj
  obtain ⟨cv, h1, h2⟩ := ha.2 j u hu
  exact ⟨cv, h1, VA2.sub hl hs h2 fun x hx => hi x (List.mem_flatMap.2 ⟨u, List.mem_of_getElem? hu, hx⟩)⟩

theorem args_calm {as : List AV} {cargs : Array Value} (hsz : cargs.size = as.length) (ha : ∀ (j : Nat) (v : AV), as[j]? = some v → ∃ cv, cargs[j]? = some cv ∧ VA3 P σ ρ S w v cv) : ArgsOk P σ ρ S w (as.map AV.calm) cargs := by
  refine ⟨by simpa using hsz, fun j v hj => ?_⟩
  rw [List.getElem?_map] at hj
  obtain ⟨u, hu, rfl⟩ := Option.map_eq_some_iff.1 hj
  obtain ⟨cv, h1, h2⟩ := ha j u hu
  exact ⟨cv, h1, calm_ok h2⟩

theorem args_handed {ow : Bool} {as : List AV} {cargs : Array Value} (hsz : cargs.size = as.length) (ha : ∀ (j : Nat) (v : AV), as[j]? = some v → ∃ cv, cargs[j]? = some cv ∧ VA3 P σ ρ S w v cv) : ArgsOk P σ ρ S w (as.map (AV.handed ow)) cargs := by
  refine ⟨by simpa using hsz, fun j v hj => ?_⟩
  rw [List.getElem?_map] at hj
  obtain ⟨u, hu, rfl⟩ := Option.map_eq_some_iff.1 hj
  obtain ⟨cv, h1, h2⟩ := ha j u hu
  exact ⟨cv, h1, handed_ok h2⟩

theorem CallOut_ok {H : Hints} {run : RunF} (hp : PrimOk P H) (hrun : RunOk P run) {f : FuncId} {args : List AV} {cargs : Array Value} {out : Come} (hr : Rel P σ ρ S w) (hsz : cargs.size = args.length)
    (ha : ∀ (j : Nat) (v : AV), args[j]? = some v → ∃ cv, cargs[j]? = some cv ∧ VA3 P σ ρ S w v cv) (h : CallOut H run f args σ out) :
    Enters P f ∧ Calls P f cargs w fun e w' => ∃ ρ' S', match out with
      | .ret v σ' => Rel P σ' ρ' S' w' ∧ Ext σ ρ S w σ' ρ' S' w' ∧ ∃ cv, e = .returned cv ∧ VA3 P σ' ρ' S' w' v cv
      | .pan x σ' => Rel P σ' ρ' S' w' ∧ Ext σ ρ S w σ' ρ' S' w' ∧ ∃ cv, e = .panicked [{ v := cv, recovered := false }] ∧ VE P w' S' x cv := by
  obtain ⟨ids, σc, q, h', hids, hs, hrun', hlen, hout⟩ := h
  have hn : ids.Nodup := by rw [hids]; exact closure_nodup _ _ _ (addNew_nodup _ _ (by simp))
  obtain ⟨hen, hc⟩ := RunsTo.ok hp hrun hrun'
  have hargs := args_sub hr.len hs (fun x hx => by rw [hids]; exact closure_mem _ _ _ _ (addNew_mem _ _ _ hx)) (args_handed hsz ha)
  refine ⟨hen, Calls.mono (hc (subGr ρ ids) S w cargs (hr.sub hn hs) hargs) ?_⟩
  rintro e w' ⟨ρ1', S', h1, h2, h3⟩
  obtain ⟨h4, h5, h6⟩ := back_ok hr hn hs h1 h2 hlen
  refine ⟨backGr ids ρ1' ρ, S', ?_⟩
  rcases hout with ⟨u, v, rfl, hw, rfl⟩ | ⟨x, rfl, rfl⟩
  · obtain ⟨cv, h7, h8⟩ := h3
    exact ⟨h4, h5, cv, h7, lift3 (G := fun _ => True) (fun v cv h _ => h6 v cv h) (hw _ _ _ _ _ _ h8) (fun _ _ => trivial)⟩
  · obtain ⟨cv, h7, h8⟩ := h3
    exact ⟨h4, h5, cv, h7, h8⟩

end
end Go.Den

/- Regions whose operations come in their order. -/
namespace Go.Den
open Go

section
variable {P : Program} {σ σ' : Heap} {ρ : Gr} {S : Cells} {w : World} {fr : Fr} {a : Act} {o : Oper}

theorem run_callFunc {f : FuncId} {args : Array Value} (hf : Enters P f) : (callFunc f args).run P w = .ok (.enter f args) w := by
  obtain ⟨fn, h1, h2, h3⟩ := hf
  have h2' : fn.name ≠ "runtime.NumGoroutine" := by simpa using h2
  have h3' : fn.body ≠ none := by intro e; rw [e] at h3; cases h3
  simp [callFunc, h1, h2', h3']

theorem run_enter {ev : Operand → Value} {c : Call} {x : Operand} {f : FuncId} {cap : Array Value} (h : o.op = .call c) (hc : c.callee = .value x) (he : ev x = .func (.func f) #[] cap)
    (hf : Enters P f) : (execOp ev o).run P w = .ok (.enter f (c.args.map ev ++ cap)) w := by
  simp only [execOp, h, resolve, hc, he, Deferred.ofValue, Sem.run_bind, Sem.run_pure, Result.andThen_ok, invoke]
  rw [run_callFunc hf]
  simp

theorem run_method {t : TypeId} {i : TypeInfo} {m : Method} {d : TypeDesc} {f : FuncId} {v : Value} {name : String} (hi : P.info? t = some i) (hm : i.methods.find? (·.name == name) = some m) (hd : P.underlying t = some d)
    (hp : ∀ e, d ≠ .pointer e) (hf : m.func = some (f, false)) (hpath : m.path.isEmpty = true) (n : Nat) : (method (n + 1) t v name).run P w = .ok (f, v) w := by
  have hp0 : m.path = #[] := by simpa using hpath
  have hp1 : m.path.toList = [] := by rw [hp0]
  simp only [method, typeInfo, Sem.run_bind, run_program, Result.andThen_ok, hi, Sem.run_pure, hm, hp1, follow, hf, receiverAt, run_underlying hd]
  cases d <;> first | exact absurd rfl (hp _) | rfl

theorem run_invoke {ev : Operand → Value} {c : Call} {x : Operand} {name : String} {t : TypeId} {v : Value} {f : FuncId} (h : o.op = .call c) (hc : c.callee = .invoke x name) (he : ev x = .iface t v)
    (hm : methodOf P t name = some f) (hf : Enters P f) : (execOp ev o).run P w = .ok (.enter f (#[v] ++ c.args.map ev)) w := by
  unfold methodOf at hm
  split at hm
  · rename_i i hi
    split at hm
    · rename_i m hmm
      split at hm
      · cases hm
      · rename_i d f' hnp hd hfun
        split at hm
        · rename_i hpath
          injection hm with hm; subst hm
          have hrm := run_method (w := w) (v := v) hi hmm hd (fun e he => hnp e he) hfun hpath (P.types.size + (Made.depth - 1))
          have e : P.types.size + (Made.depth - 1) + 1 = P.types.size + Made.depth := rfl
          rw [e] at hrm
          simp only [execOp, h, resolve, hc, he, Sem.run_bind, Sem.run_pure, Result.andThen_ok, invoke]
          have e1 : (#[Value.iface t v] ++ Array.map ev c.args)[0]? = some (.iface t v) := by rw [Array.getElem?_append_left (by simp)]; rfl
          have e2 : (#[Value.iface t v] ++ Array.map ev c.args).extract 1 (#[Value.iface t v] ++ Array.map ev c.args).size = Array.map ev c.args := by
            apply Array.ext'
            simp
            exact List.take_of_length_le (by simp)
          simp only [e1, callMethod, e2, Sem.run_bind, run_program, Result.andThen_ok, hrm]
          exact run_callFunc hf
        · cases hm
      · cases hm
    · cases hm
  · cases hm

theorem run_panic {ev : Operand → Value} {x : Operand} {t : TypeId} {v : Value} (h : o.op = .panic x) (e : ev x = .iface t v) :
    (execOp ev o).run P w = .halt (.panic (.iface t v)) w := by
  simp [execOp, h, go_sem, Instr.panic, e]

theorem eval_func (a : Act) (f : FuncId) : a.eval (.func f) = .func (.func f) #[] #[] := by simp [Act.eval]

theorem run_next_more {ev : Operand → Value} {x : Operand} {b : Nat} {s : ByteArray} {pos : Nat} (h : o.op = .next x true) (e : ev x = .pointer (some ⟨b, 0, none⟩)) (hh : w.heap[b]? = some (.stringIter s pos)) (hp : pos < s.size) :
    (execOp ev o).run P w = .ok (.value (.tuple #[.bool true, goInt pos, .int .i32 (Utf8.decode s pos).1])) { w with heap := w.heap.setIfInBounds b (.stringIter s (pos + (Utf8.decode s pos).2)) } := by
  simp [execOp, h, Instr.next, e, getObj, setObj, Sem.run, hh, hp]
theorem run_next_over {ev : Operand → Value} {x : Operand} {b : Nat} {s : ByteArray} {pos : Nat} (h : o.op = .next x true) (e : ev x = .pointer (some ⟨b, 0, none⟩)) (hh : w.heap[b]? = some (.stringIter s pos)) (hp : ¬ pos < s.size) :
    (execOp ev o).run P w = .ok (.value (.tuple #[.bool false])) w := by
  simp [execOp, h, Instr.next, e, getObj, Sem.run, hh, hp]

theorem VA3_undef {cv : Value} : VA3 P σ ρ S w .undef cv := trivial
theorem VA3_skip : VA3 P σ ρ S w (.tup []) undef := ⟨#[], rfl, rfl, by simp⟩
theorem VA3_skip_inv {cv : Value} (h : VA3 P σ ρ S w (.tup []) cv) : cv = undef := by
  obtain ⟨arr, h1, h2, _⟩ := h
  rw [h1]; unfold undef
  rw [show arr = #[] from Array.eq_empty_of_size_eq_zero h2]

/-- The arguments of a call. -/
theorem args_ok (hf : FR P σ ρ S w fr a.tmps) {args : Array Operand} {ats : Array TypeId} {as : List AV} (hs : args.size = ats.size)
    (h : ((args.toList.zip ats.toList).mapM fun (x, t) => evalT P t fr x) = some as) :
    (args.map a.eval).size = as.length ∧ ∀ (j : Nat) (v : AV), as[j]? = some v → ∃ cv, (args.map a.eval)[j]? = some cv ∧ VA3 P σ ρ S w v cv := by
  obtain ⟨h1, h2⟩ := mapM_some_get h
  refine ⟨by rw [h1]; simp [hs], fun j v hj => ?_⟩
  obtain ⟨⟨x, t⟩, h3, h4⟩ := mapM_some_back h j v hj
  rw [List.getElem?_zip_eq_some] at h3
  refine ⟨a.eval x, ?_, evalT_ok hf h4⟩
  rw [Array.getElem?_map]
  have : args[j]? = some x := by simpa using h3.1
  rw [this]; rfl

theorem put_defers (a : Act) (d : Option Tmp) (v : Value) : (a.put d v).defers = a.defers := by cases d <;> rfl

/-- Room for new objects. -/
theorem Rel.more (hr : Rel P σ ρ S w) (n : Nat) : Rel P (σ ++ List.replicate n .hole) (ρ ++ List.replicate n none) S w ∧ Ext σ ρ S w (σ ++ List.replicate n .hole) (ρ ++ List.replicate n none) S w := by
  have hs : ∀ {i : Nat} {q : Ob}, σ[i]? = some q → (σ ++ List.replicate n .hole)[i]? = some q := fun {i q} h => by
    rw [List.getElem?_append_left (List.getElem?_eq_some_iff.1 h).1]; exact h
  have hg : ∀ {i : Nat} {q : Ob}, σ[i]? = some q → (ρ ++ List.replicate n none)[i]? = ρ[i]? := fun {i q} h => by
    rw [List.getElem?_append_left (by rw [hr.len]; exact (List.getElem?_eq_some_iff.1 h).1)]
  have hb : ∀ {i b c : Nat}, (ρ ++ List.replicate n none)[i]? = some (some (b, c)) → ρ[i]? = some (some (b, c)) := fun {i b c} h => by
    rcases Nat.lt_or_ge i ρ.length with hi | hi
    · rwa [List.getElem?_append_left hi] at h
    · rw [List.getElem?_append_right hi, List.getElem?_replicate] at h
      split at h <;> simp at h
  have hbs : ∀ {i : Nat} {q : Ob}, (σ ++ List.replicate n .hole)[i]? = some q → σ[i]? = some q ∨ (q = .hole ∧ σ.length ≤ i) := fun {i q} h => by
    rcases Nat.lt_or_ge i σ.length with hi | hi
    · rw [List.getElem?_append_left hi] at h; exact .inl h
    · rw [List.getElem?_append_right hi, List.getElem?_replicate] at h
      split at h
      · injection h with h; exact .inr ⟨h.symm, hi⟩
      · cases h
  have he : Ext σ ρ S w (σ ++ List.replicate n .hole) (ρ ++ List.replicate n none) S w :=
    ⟨fun _ _ h => ⟨h, rfl⟩, fun i cs h => ⟨⟨cs, hs h⟩, hg h⟩, fun i t m h => .inl ⟨m, Nat.le_refl _, hs h, fun _ => hg h⟩, fun i r h => ⟨⟨r, hs h⟩, hg h⟩, fun i h => hs h, fun _ _ _ => rfl,
      fun i _ c h => .inr ⟨i, c, hb h⟩, fun _ _ h => .inl h, Nat.le_refl _, rfl, rfl, rfl⟩
  refine ⟨⟨by simp [hr.len], ?_, ?_, ?_, ?_, fun i b c h => hr.lt i b c (hb h), fun i j b c c' h h' => hr.inj i j b c c' (hb h) (hb h'), hr.cells, hr.glob.mono he⟩, he⟩
  · intro i cs h
    rcases hbs h with h | ⟨h, _⟩
    · obtain ⟨b, c, arr, T, h1, h2, h3, h4, h5⟩ := hr.box i cs h
      exact ⟨b, c, arr, T, (hg h).trans h1, h2, h3, fun j v hj => let ⟨h6, x, h7, h8⟩ := h4 j v hj; ⟨h6, x, h7, h8.mono he⟩, h5⟩
    · cases h
  · intro i et m b c h h'
    rcases hbs h with h | ⟨h, _⟩
    · exact hr.vec i et m b c h (hb h')
    · cases h
  · intro i r h
    rcases hbs h with h | ⟨h, _⟩
    · obtain ⟨b, c, ob, h1, h2⟩ := hr.raw i r h
      exact ⟨b, c, ob, (hg h).trans h1, h2⟩
    · cases h
  · intro i h
    rcases hbs h with h' | ⟨_, hi⟩
    · exact (hg h').trans (hr.hole i h')
    · have hlt := (List.getElem?_eq_some_iff.1 h).1
      simp at hlt
      rw [List.getElem?_append_right (by rw [hr.len]; exact hi), List.getElem?_replicate, if_pos (by rw [hr.len]; omega)]

/-- A string's iterator moves on. -/
theorem Rel.setRaw (hr : Rel P σ ρ S w) {id b c : Nat} {r r' : Raw} {ob : Obj} (hb : σ[id]? = some (.raw r)) (hid : ρ[id]? = some (some (b, c))) (hok : RawOk r' ob) :
    Rel P (σ.set id (.raw r')) ρ S { w with heap := w.heap.setIfInBounds b ob } ∧ Ext σ ρ S w (σ.set id (.raw r')) ρ S { w with heap := w.heap.setIfInBounds b ob } := by
  have hidl : id < σ.length := (List.getElem?_eq_some_iff.1 hb).1
  have hbl := hr.lt _ _ _ hid
  have hnS : ∀ o, ¬ S b o := by
    obtain ⟨b', c', _, h1, _, _, h4⟩ := hr.raw id r hb
    rw [hid] at h1; injection h1 with h1; injection h1 with h1; injection h1 with h1 _
    subst h1; exact h4
  have hoth : ∀ k, k ≠ b → ({ w with heap := w.heap.setIfInBounds b ob } : World).heap[k]? = w.heap[k]? := fun k hk => Array.getElem?_setIfInBounds_ne (fun e => hk e.symm)
  have hself : ({ w with heap := w.heap.setIfInBounds b ob } : World).heap[b]? = some ob := by simp [hbl]
  have hcellS : ∀ b' o', S b' o' → ({ w with heap := w.heap.setIfInBounds b ob } : World).cell? ⟨b', o', none⟩ = w.cell? ⟨b', o', none⟩ := fun b' o' h =>
    cell_of_heap (hoth b' (by rintro rfl; exact hnS _ h))
  have hkeep : ∀ {i : Nat} {q : Ob}, σ[i]? = some q → (∀ r, q ≠ .raw r) → (σ.set id (.raw r'))[i]? = some q := fun {i q} h hq => by
    rw [List.getElem?_set_ne (by rintro rfl; rw [hb] at h; injection h with h; exact hq r h.symm)]; exact h
  have he : Ext σ ρ S w (σ.set id (.raw r')) ρ S { w with heap := w.heap.setIfInBounds b ob } := by
    refine ⟨fun b' o' h => ⟨h, hcellS b' o' h⟩, fun i ds h => ⟨⟨ds, hkeep h (by simp)⟩, rfl⟩, fun i t m h => .inl ⟨m, Nat.le_refl _, hkeep h (by simp), fun _ => rfl⟩, fun i q h => ⟨?_, rfl⟩, fun i h => hkeep h (by simp),
      fun k hk hn => hoth k (by rintro rfl; exact hn id c hid), fun i _ c h => .inr ⟨i, c, h⟩, fun _ _ h => .inl h, by simp, rfl, rfl, rfl⟩
    by_cases e : i = id
    · subst e; exact ⟨r', by simp [hidl]⟩
    · exact ⟨q, by rw [List.getElem?_set_ne (fun e' => e e'.symm)]; exact h⟩
  refine ⟨⟨by simp [hr.len], ?_, ?_, ?_, ?_, fun i b' c' h => by have := hr.lt i b' c' h; simpa using this, hr.inj, ?_, hr.glob.mono he⟩, he⟩
  · intro i ds h
    rcases set_cases h with ⟨_, h, _⟩ | ⟨hne, h⟩
    · cases h
    · obtain ⟨b', c', arr0, T0, h1, h2, h3, h4, h5⟩ := hr.box i ds h
      have hbb : b' ≠ b := by rintro rfl; exact hne (hr.inj _ _ _ _ _ h1 hid)
      exact ⟨b', c', arr0, T0, h1, (hoth b' hbb).trans h2, h3, fun j v hj => let ⟨h6, x, h7, h8⟩ := h4 j v hj; ⟨h6, x, h7, h8.mono he⟩, h5⟩
  · intro i et n b' c' h h'
    rcases set_cases h with ⟨_, h, _⟩ | ⟨hne, h⟩
    · cases h
    · obtain ⟨arr0, T0, fs, h1, h2⟩ := hr.vec i et n b' c' h h'
      have hbb : b' ≠ b := by rintro rfl; exact hne (hr.inj _ _ _ _ _ h' hid)
      exact ⟨arr0, T0, fs, (hoth b' hbb).trans h1, h2⟩
  · intro i q h
    rcases set_cases h with ⟨rfl, h, _⟩ | ⟨hne, h⟩
    · injection h with h; subst h
      exact ⟨b, c, ob, hid, hself, hok, hnS⟩
    · obtain ⟨b', c', o', h1, h2, h3, h4⟩ := hr.raw i q h
      have hbb : b' ≠ b := by rintro rfl; exact hne (hr.inj _ _ _ _ _ h1 hid)
      exact ⟨b', c', o', h1, (hoth b' hbb).trans h2, h3, h4⟩
  · intro i h
    rcases set_cases h with ⟨_, h, _⟩ | ⟨_, h⟩
    · cases h
    · exact hr.hole i h
  · intro b' o' h
    obtain ⟨v, hv⟩ := hr.cells b' o' h
    exact ⟨v, by rw [hcellS b' o' h]; exact hv⟩

/-- What a call enters. -/
theorem callOf_ok (hf : FR P σ ρ S w fr a.tmps) {c : Call} {f : FuncId} {as : List AV} (ho : o.op = .call c) (h : callOf P fr c = some (f, as)) :
    ∃ cargs : Array Value, cargs.size = as.length ∧ (∀ (j : Nat) (v : AV), as[j]? = some v → ∃ cv, cargs[j]? = some cv ∧ VA3 P σ ρ S w v cv) ∧ (Enters P f → (execOp a.eval o).run P w = .ok (.enter f cargs) w) := by
  unfold callOf at h
  split at h
  · rename_i hs
    split at h
    · rename_i as0 has
      obtain ⟨h1, h2⟩ := args_ok hf hs has
      have hplain : ∀ (x : Operand) (f' : FuncId), c.callee = .value x → a.eval x = .func (.func f') #[] #[] → f' = f → as0 = as →
          ∃ cargs : Array Value, cargs.size = as.length ∧ (∀ (j : Nat) (v : AV), as[j]? = some v → ∃ cv, cargs[j]? = some cv ∧ VA3 P σ ρ S w v cv) ∧ (Enters P f → (execOp a.eval o).run P w = .ok (.enter f cargs) w) := by
        rintro x f' hc hx rfl rfl
        exact ⟨_, h1, h2, fun hen => by rw [run_enter ho hc hx hen]; simp⟩
      split at h
      · rename_i f' hc
        injection h with h; injection h with h3 h4
        exact hplain _ _ hc (eval_func a f') h3 h4
      · rename_i u hc
        split at h
        · rename_i f' hu
          injection h with h; injection h with h3 h4
          have hx : VA1 P σ ρ S w (.fn f') (a.eval (.tmp u)) := evalO_ok hf (x := .tmp u) hu
          exact hplain _ _ hc hx h3 h4
        · rename_i f' ps hu
          injection h with h; injection h with h3 h4
          subst h3; subst h4
          obtain ⟨cap, hx, hcs, hcap⟩ : VA1 P σ ρ S w (.clo f' ps) (a.eval (.tmp u)) := evalO_ok hf (x := .tmp u) hu
          refine ⟨c.args.map a.eval ++ cap, by simp [hcs]; simpa using h1, fun j v hj => ?_, fun hen => run_enter ho hc hx hen⟩
          rcases Nat.lt_or_ge j as0.length with hl | hl
          · rw [List.getElem?_append_left hl] at hj
            obtain ⟨cv, h5, h6⟩ := h2 j v hj
            exact ⟨cv, by rw [Array.getElem?_append_left (by rw [h1]; exact hl)]; exact h5, h6⟩
          · rw [List.getElem?_append_right hl, List.getElem?_map] at hj
            obtain ⟨p, hp, rfl⟩ := Option.map_eq_some_iff.1 hj
            obtain ⟨b, c', h5, h6, h7⟩ := hcap _ p hp
            refine ⟨_, ?_, ⟨b, c', h5, h6, rfl⟩⟩
            rw [Array.getElem?_append_right (by rw [h1]; exact hl), h1]
            exact h7
        · cases h
      · rename_i u name hc
        split at h
        · rename_i t x hu
          split at h
          · rename_i f' v hm hun
            injection h with h; injection h with h3 h4
            subst h3; subst h4
            have hx : VE P w S (.ifc t x) (a.eval (.tmp u)) := evalO_ok hf (x := .tmp u) hu
            generalize hcv : a.eval (.tmp u) = cv at hx
            cases hx with
            | ifc _ _ vv hv =>
              refine ⟨#[vv] ++ c.args.map a.eval, by (have h1' : c.args.size = as0.length := by simpa using h1); simp; omega, fun j q hj => ?_, fun hen => run_invoke ho hc hcv hm hen⟩
              cases j with
              | zero =>
                simp at hj; subst hj
                exact ⟨vv, by rw [Array.getElem?_append_left (by simp)]; rfl, (unfold1_ok hun hv).to3⟩
              | succ j =>
                obtain ⟨cv, h5, h6⟩ := h2 j q (by simpa using hj)
                refine ⟨cv, ?_, h6⟩
                rw [Array.getElem?_append_right (by simp)]
                simpa using h5
          · cases h
        · cases h
      · cases h
    · cases h
  · cases h

end

section
variable {R : Type} {run : RunF} {loop : Code → Fr → Heap → Option Out} {lr : Res → Heap → Option R} {lo : Out → Option R} {r : R}
variable {C : Ctx} {D : List Deferred} {ops : List Oper} {σ : Heap} {ρ : Gr} {S : Cells} {w : World} {fr : Fr} {a : Act} {o : Oper}

theorem OpOk.wp {P : Program} {v : AV} {σ' : Heap} {N : Act → World → Prop} {Q : Exit → Act → World → Prop} (h : OpOk P σ ρ S w a o v σ')
    (hN : ∀ cv w' ρ' S', Rel P σ' ρ' S' w' → Ext σ ρ S w σ' ρ' S' w' → VA3 P σ' ρ' S' w' v cv → N (a.put o.dst cv) w') : o.wp P a w N Q := by
  obtain ⟨n, cv, w', ρ', S', h1, h2, h3, h4, h5⟩ := h
  unfold Oper.wp
  rw [h1]
  rcases h2 with h2 | ⟨h2, h2'⟩
  · rw [h2, Oper.upon_value]; exact hN cv w' ρ' S' h3 h4 h5
  · rw [h2, Oper.upon_skip, ← h2']; exact hN cv w' ρ' S' h3 h4 h5

/-- What one operation does. -/
inductive Does (P : Program) (H : Hints) (run : RunF) (ops : List Oper) (o : Oper) (fr : Fr) (σ : Heap) (k : Nat) : AV → Heap → Prop
  | op (v : AV) (σ' : Heap) (h : evalOp P ops fr σ k o = some (true, v, σ')) (hb : ∀ c, o.op = .call c → ∃ b, c.callee = .builtin b) : Does P H run ops o fr σ k v σ'
  | call (c : Call) (f : FuncId) (as : List AV) (v : AV) (σ' : Heap) (h : o.op = .call c) (hc : callOf P fr c = some (f, as)) (ho : CallOut H run f as σ (.ret v σ')) : Does P H run ops o fr σ k v σ'
  | more (x : Operand) (id : Nat) (s : List UInt8) (p : Nat) (q : Nat × Nat) (h : o.op = .next x true) (hx : evalO fr x = some (.itr id)) (hs : σ[id]? = some (.raw (.iter s p))) (hp : p < s.length) (hq : Utf8.decode ⟨s.toArray⟩ p = q) :
      Does P H run ops o fr σ k (.tup [.e (.bool true), .e (.int .i64 p), .e (.int .i32 q.1)]) (σ.set id (.raw (.iter s (p + q.2))))
  | over (x : Operand) (id : Nat) (s : List UInt8) (p : Nat) (h : o.op = .next x true) (hx : evalO fr x = some (.itr id)) (hs : σ[id]? = some (.raw (.iter s p))) (hp : ¬ p < s.length) :
      Does P H run ops o fr σ k (.tup [.e (.bool false)]) σ

/-- How one operation panics. -/
inductive Pans (P : Program) (H : Hints) (run : RunF) (o : Oper) (fr : Fr) (σ : Heap) : E → Heap → Prop
  | panic (x : Operand) (t : TypeId) (v : E) (h : o.op = .panic x) (hx : evalO fr x = some (.e (.ifc t v))) : Pans P H run o fr σ (.ifc t v) σ
  | call (c : Call) (f : FuncId) (as : List AV) (x : E) (σ' : Heap) (h : o.op = .call c) (hc : callOf P fr c = some (f, as)) (ho : CallOut H run f as σ (.pan x σ')) : Pans P H run o fr σ x σ'

theorem denGo_inv {k : Nat} {Kn : Fr → Heap → T} {Kp : E → Heap → T} (h : (denGo C ops o fr σ k Kn Kp).go run loop lr lo = some r) :
    (∃ v σ', Does C.P C.H run ops o fr σ k v σ' ∧ (Kn (put fr o.dst v) σ').go run loop lr lo = some r) ∨ ∃ x σ', Pans C.P C.H run o fr σ x σ' ∧ (Kp x σ').go run loop lr lo = some r := by
  unfold denGo at h
  split at h
  · rename_i x hop
    split at h
    · rename_i t v hx
      exact .inr ⟨_, _, .panic x t v hop hx, h⟩
    · cases h
  · rename_i x hop
    split at h
    · rename_i id hx
      split at h
      · rename_i s p hs
        rcases go_br h with ⟨hp, h⟩ | ⟨hp, h⟩
        · exact .inl ⟨_, _, .more x id s p _ hop hx hs (of_decide_eq_true hp) rfl, h⟩
        · exact .inl ⟨_, _, .over x id s p hop hx hs (of_decide_eq_false hp), h⟩
      · cases h
    · cases h
  · rename_i b args ats hop
    split at h
    · rename_i ok v σ' he
      obtain ⟨rfl, h⟩ := go_must h
      exact .inl ⟨_, _, .op v σ' he (fun c hc => by rw [hop] at hc; injection hc with hc; subst hc; exact ⟨b, rfl⟩), h⟩
    · cases h
  · rename_i c _ hop
    split at h
    · rename_i f as hc
      obtain ⟨out, hout, h⟩ := callT_inv h
      cases out with
      | ret v σ' => exact .inl ⟨_, _, .call c f as v σ' hop hc hout, h⟩
      | pan x σ' => exact .inr ⟨_, _, .call c f as x σ' hop hc hout, h⟩
    · cases h
  · rename_i hnc
    split at h
    · rename_i ok v σ' he
      obtain ⟨rfl, h⟩ := go_must h
      exact .inl ⟨_, _, .op v σ' he (fun c hc => absurd hc (hnc c)), h⟩
    · cases h

theorem Does.wp (hp : PrimOk C.P C.H) (hrun : RunOk C.P run) {k : Nat} {v : AV} {σ' : Heap} {N : Act → World → Prop} {Q : Exit → Act → World → Prop} (h : Does C.P C.H run ops o fr σ k v σ') (hr : Rel C.P σ ρ S w) (hf : FR C.P σ ρ S w fr a.tmps)
    (hN : ∀ (cv : Value) (ρ' : Gr) (S' : Cells) (w' : World), Rel C.P σ' ρ' S' w' → Ext σ ρ S w σ' ρ' S' w' → VA3 C.P σ' ρ' S' w' v cv → N (a.put o.dst cv) w') : o.wp C.P a w N Q := by
  cases h with
  | op v σ' h hb => exact OpOk.wp (evalOp_ok hr hf h) fun cv w' ρ' S' h1 h2 h3 => hN cv ρ' S' w' h1 h2 h3
  | call c f as v σ' h hc ho =>
    obtain ⟨cargs, h1, h2, h3⟩ := callOf_ok (w := w) hf h hc
    obtain ⟨hen, hcall⟩ := CallOut_ok hp hrun hr h1 h2 ho
    unfold Oper.wp
    rw [h3 hen, Oper.upon_enter]
    refine Calls.mono hcall ?_
    rintro e w' ⟨ρ', S', h4, h5, cv, rfl, h6⟩
    exact hN cv ρ' S' w' h4 h5 h6
  | more x id s p q h hx hs hp hq =>
    subst hq
    obtain ⟨b, c, hid, _, e⟩ : VA1 C.P σ ρ S w (.itr id) (a.eval x) := evalO_ok hf hx
    obtain ⟨b', c', ob, g1, g2, g3, g4⟩ := hr.raw id _ hs
    rw [hid] at g1; injection g1 with g1; injection g1 with g1; injection g1 with g1 _; subst g1
    obtain ⟨sb, rfl, hsb⟩ := g3
    have hsb' : sb = ⟨s.toArray⟩ := by subst hsb; cases sb; simp
    have hsz : sb.size = s.length := by rw [← hsb]; exact Array.length_toList.symm
    have hp' : p < sb.size := by rw [hsz]; exact hp
    unfold Oper.wp
    rw [run_next_more h e g2 hp', Oper.upon_value]
    obtain ⟨r1, e1⟩ := hr.setRaw (r' := .iter s (p + (Utf8.decode sb p).2)) (ob := .stringIter sb (p + (Utf8.decode sb p).2)) hs hid ⟨sb, rfl, hsb⟩
    rw [hsb'] at r1 e1 ⊢
    refine hN _ _ _ _ r1 e1 ⟨_, rfl, rfl, fun j v hj => ?_⟩
    match j with
    | 0 => simp at hj; subst hj; exact ⟨_, rfl, VE.bool _⟩
    | 1 => simp at hj; subst hj; exact ⟨_, rfl, VE.int _ _⟩
    | 2 => simp at hj; subst hj; exact ⟨_, rfl, VE.int _ _⟩
    | j + 3 => simp at hj
  | over x id s p h hx hs hp =>
    obtain ⟨b, c, hid, _, e⟩ : VA1 C.P σ ρ S w (.itr id) (a.eval x) := evalO_ok hf hx
    obtain ⟨b', c', ob, g1, g2, g3, g4⟩ := hr.raw id _ hs
    rw [hid] at g1; injection g1 with g1; injection g1 with g1; injection g1 with g1 _; subst g1
    obtain ⟨sb, rfl, hsb⟩ := g3
    have hsz : sb.size = s.length := by rw [← hsb]; exact Array.length_toList.symm
    have hp' : ¬ p < sb.size := by rw [hsz]; exact hp
    unfold Oper.wp
    rw [run_next_over h e g2 hp', Oper.upon_value]
    refine hN _ _ _ _ hr (Ext.refl _ _ _ _) ⟨_, rfl, rfl, fun j v hj => ?_⟩
    match j with
    | 0 => simp at hj; subst hj; exact ⟨_, rfl, VE.bool _⟩
    | j + 1 => simp at hj

theorem Pans.wp (hp : PrimOk C.P C.H) (hrun : RunOk C.P run) {x : E} {σ' : Heap} {N : Act → World → Prop} {Q : Exit → Act → World → Prop} (h : Pans C.P C.H run o fr σ x σ') (hr : Rel C.P σ ρ S w) (hf : FR C.P σ ρ S w fr a.tmps)
    (hQ : ∀ (cv : Value) (ρ' : Gr) (S' : Cells) (w' : World), Rel C.P σ' ρ' S' w' → Ext σ ρ S w σ' ρ' S' w' → VE C.P w' S' x cv → Q (.panic [{ v := cv, recovered := false }]) a w') : o.wp C.P a w N Q := by
  cases h with
  | panic x t v h hx =>
    have hv : VE C.P w S (.ifc t v) (a.eval x) := evalO_ok hf hx
    unfold Oper.wp
    generalize he : a.eval x = cv at hv
    cases hv with
    | ifc _ _ u hu =>
      rw [run_panic h he, Oper.upon_panic]
      exact hQ _ ρ S w hr (Ext.refl _ _ _ _) (.ifc t v u hu)
  | call c f as x σ' h hc ho =>
    obtain ⟨cargs, h1, h2, h3⟩ := callOf_ok (w := w) hf h hc
    obtain ⟨hen, hcall⟩ := CallOut_ok hp hrun hr h1 h2 ho
    unfold Oper.wp
    rw [h3 hen, Oper.upon_enter]
    refine Calls.mono hcall ?_
    rintro e w' ⟨ρ', S', h4, h5, cv, rfl, h6⟩
    exact hQ cv ρ' S' w' h4 h5 h6

theorem denGo_ok (hp : PrimOk C.P C.H) (hrun : RunOk C.P run) {k : Nat} {Kn : Fr → Heap → T} {Kp : E → Heap → T} {N : Act → World → Prop} {Q : Exit → Act → World → Prop}
    (h : (denGo C ops o fr σ k Kn Kp).go run loop lr lo = some r) (hr : Rel C.P σ ρ S w) (hf : FR C.P σ ρ S w fr a.tmps)
    (hN : ∀ (fr' : Fr) (σ' : Heap) (ρ' : Gr) (S' : Cells) (w' : World) (a' : Act), a'.defers = a.defers → Rel C.P σ' ρ' S' w' → Ext σ ρ S w σ' ρ' S' w' → FR C.P σ' ρ' S' w' fr' a'.tmps → (Kn fr' σ').go run loop lr lo = some r → N a' w')
    (hQ : ∀ (x : E) (σ' : Heap) (ρ' : Gr) (S' : Cells) (w' : World) (cv : Value), Rel C.P σ' ρ' S' w' → Ext σ ρ S w σ' ρ' S' w' → VE C.P w' S' x cv → (Kp x σ').go run loop lr lo = some r → Q (.panic [{ v := cv, recovered := false }]) a w') :
    o.wp C.P a w N Q := by
  rcases denGo_inv h with ⟨v, σ', hd, hk⟩ | ⟨x, σ', hd, hk⟩
  · exact hd.wp hp hrun hr hf fun cv ρ' S' w' h1 h2 h3 => hN _ σ' ρ' S' w' _ (put_defers _ _ _) h1 h2 ((hf.mono h2).put o.dst h3) hk
  · exact hd.wp hp hrun hr hf fun cv ρ' S' w' h1 h2 h3 => hQ x σ' ρ' S' w' cv h1 h2 h3 hk

theorem FR.get {P : Program} (hf : FR P σ ρ S w fr a.tmps) {t : Nat} {v : AV} (h : fr[t]? = some v) : ∃ cv, a.tmps[t]? = some cv ∧ VA3 P σ ρ S w v cv := hf.2 t v h

theorem FR.bool {P : Program} (hf : FR P σ ρ S w fr a.tmps) {t : Nat} {b : Bool} (h : fr[t]? = some (.e (.bool b))) : a.tmps[t]? = some (.bool b) := by
  obtain ⟨cv, h1, h2⟩ := hf.get h
  have : VE P w S (.bool b) cv := h2
  cases this
  exact h1

/-- A slot that holds a boolean may be written out. -/
theorem FR.lit {P : Program} (hf : FR P σ ρ S w fr a.tmps) {t : Nat} {b b' : Bool} (h : fr[t]? = some (.e (.bool b))) (he : b = b') : FR P σ ρ S w (fr.set t (.e (.bool b'))) a.tmps := by
  subst he
  refine ⟨by simpa using hf.1, fun u v hu => ?_⟩
  rw [List.getElem?_set] at hu
  split at hu
  · rename_i e
    subst e
    split at hu
    · injection hu with hu; subst hu
      exact hf.get h
    · cases hu
  · exact hf.2 u v hu

theorem yielded_bool {arr : Array Oper} {j dj : Nat} {b : Bool} (h : dstOf arr.toList j = some dj) (hb : a.tmps[dj]? = some (.bool b)) : yielded arr a.tmps j = some b := by
  unfold dstOf at h
  unfold yielded
  have : (arr[j]?).bind (·.dst) = some dj := by simpa using h
  simp only [this, Option.bind_some, hb]

theorem yielded_undef {arr : Array Oper} {j dj : Nat} (h : dstOf arr.toList j = some dj) (hb : a.tmps[dj]? = some undef) : yielded arr a.tmps j = none := by
  unfold dstOf at h
  unfold yielded
  have : (arr[j]?).bind (·.dst) = some dj := by simpa using h
  simp only [this, Option.bind_some, hb, undef]

/-- Slots of which nothing is said any more. -/
theorem FR.forget {P : Program} (hf : FR P σ ρ S w fr a.tmps) (d : Option Nat) (cv : Value) : FR P σ ρ S w (Go.Den.put fr d .undef) (a.put d cv).tmps := hf.put d VA3_undef

theorem put_len (fr : Fr) (d : Option Nat) (v : AV) : (put fr d v).length = fr.length := by cases d <;> simp [put]
theorem put_ne {fr : Fr} {d : Option Nat} {v : AV} {u : Nat} (h : d ≠ some u) : (put fr d v)[u]? = fr[u]? := by
  cases d with
  | none => rfl
  | some d => simp only [put]; rw [List.getElem?_set_ne]; rintro rfl; exact h rfl
theorem actput_ne {d : Option Nat} {v : Value} {u : Nat} (h : d ≠ some u) : (a.put d v).tmps[u]? = a.tmps[u]? := by
  cases d with
  | none => rfl
  | some d => simp only [Act.put]; rw [Array.getElem?_setIfInBounds_ne]; rintro rfl; exact h rfl

theorem foldl_put_ne : ∀ (g : List Oper) (fr : Fr) (u : Nat), (∀ q ∈ g, q.dst ≠ some u) → (g.foldl (fun a q => put a q.dst .undef) fr)[u]? = fr[u]?
  | [], _, _, _ => rfl
  | q :: g, fr, u, h => by
    simp only [List.foldl_cons]
    rw [foldl_put_ne g _ u fun q' hq => h q' (by simp [hq]), put_ne (h q (by simp))]

theorem evalGroup_ne {P : Program} {ops : List Oper} : ∀ (g : List Oper) (fr fr1 : Fr) (σ : Heap) (u : Nat), (∀ q ∈ g, q.dst ≠ some u) → evalGroup P ops g fr σ = some fr1 → fr1[u]? = fr[u]?
  | [], fr, fr1, _, _, _, h => by injection h with h; rw [h]
  | q :: g, fr, fr1, σ, u, hq, h => by
    unfold evalGroup at h
    split at h
    · rw [evalGroup_ne g _ fr1 σ u (fun q' hq' => hq q' (by simp [hq'])) h, put_ne (hq q (by simp))]
    · cases h

/-- The operations of a guard, where they are wanted: then what comes behind. -/
theorem group_wanted {P : Program} {arr : Array Oper} {Q : Exit → Act → World → Prop} {j dj : Nat} {b : Bool} (hdj : dstOf arr.toList j = some dj) :
    ∀ (g : List Oper) (fr fr0 fr1 : Fr) (ρ : Gr) (S : Cells) (w : World) (a : Act) (tail : List Oper), evalGroup P arr.toList g fr σ = some fr1 → (∀ q ∈ g, q.guard = some (j, b) ∧ q.dst ≠ some dj) →
      Rel P σ ρ S w → FR P σ ρ S w fr a.tmps → FR P σ ρ S w fr0 a.tmps → fr[dj]? = some (.e (.bool b)) → a.defers = D →
      (∀ (ρ' : Gr) (S' : Cells) (w' : World) (a' : Act), Rel P σ ρ' S' w' → Ext σ ρ S w σ ρ' S' w' → FR P σ ρ' S' w' fr1 a'.tmps → FR P σ ρ' S' w' (g.foldl (fun a q => put a q.dst .undef) fr0) a'.tmps →
        a'.defers = D → wpList P arr Q tail a' w') → wpList P arr Q (g ++ tail) a w
  | [], fr, fr0, fr1, ρ, S, w, a, tail, h, _, hr, hf, hf0, _, hd, k => by
    injection h with h; subst h
    exact k ρ S w a hr (Ext.refl _ _ _ _) hf hf0 hd
  | q :: g, fr, fr0, fr1, ρ, S, w, a, tail, h, hg, hr, hf, hf0, hb, hd, k => by
    unfold evalGroup at h
    split at h
    · rename_i v he
      refine wpList_step fun N hN => ?_
      have hw : Region.wanted q (yielded arr a.tmps) = true := by
        unfold Region.wanted
        rw [(hg q (by simp)).1]
        simp [yielded_bool hdj (hf.bool hb)]
      rw [if_pos hw]
      refine OpOk.wp (evalStill_ok hr hf he) fun cv w' ρ' S' h1 h2 h3 => hN _ _ ?_
      refine group_wanted hdj g _ (put fr0 q.dst .undef) fr1 ρ' S' w' _ tail h (fun q' hq' => hg q' (by simp [hq'])) h1 ((hf.mono h2).put q.dst h3) ((hf0.mono h2).forget q.dst cv) ?_ (by rw [put_defers]; exact hd) ?_
      · rw [put_ne (hg q (by simp)).2]; exact hb
      · intro ρ2 S2 w2 a2 k1 k2 k3 k4 k5
        exact k ρ2 S2 w2 a2 k1 (h2.trans k2) k3 k4 k5
    · cases h

/-- The operations of a guard, where they are not wanted. -/
theorem group_skipped {P : Program} {arr : Array Oper} {Q : Exit → Act → World → Prop} {j dj : Nat} {b w0 : Bool} (hdj : dstOf arr.toList j = some dj) (hne : b ≠ w0) :
    ∀ (g : List Oper) (fr : Fr) (ρ : Gr) (S : Cells) (w : World) (a : Act) (tail : List Oper), (∀ q ∈ g, q.guard = some (j, w0) ∧ q.dst ≠ some dj) →
      FR P σ ρ S w fr a.tmps → fr[dj]? = some (.e (.bool b)) → a.defers = D →
      (∀ (a' : Act), FR P σ ρ S w (g.foldl (fun a q => put a q.dst .undef) fr) a'.tmps → a'.defers = D → wpList P arr Q tail a' w) → wpList P arr Q (g ++ tail) a w
  | [], fr, ρ, S, w, a, tail, _, hf, _, hd, k => k a hf hd
  | q :: g, fr, ρ, S, w, a, tail, hg, hf, hb, hd, k => by
    have hw : Region.wanted q (yielded arr a.tmps) = false := by
      unfold Region.wanted
      rw [(hg q (by simp)).1]
      simp only [yielded_bool hdj (hf.bool hb)]
      simpa using hne
    refine wpList_skip hw ?_
    refine group_skipped hdj hne g _ ρ S w _ tail (fun q' hq' => hg q' (by simp [hq'])) (hf.forget q.dst _) ?_ (by rw [put_defers]; exact hd) k
    rw [put_ne (hg q (by simp)).2]; exact hb

theorem groupTo_spec {dj : Nat} : ∀ {l g : List Oper} {p : Oper} {r : List Oper}, groupTo dj l = some (g, p, r) → l = g ++ p :: r
  | [], _, _, _, h => by cases h
  | o :: l, g, p, r, h => by
    unfold groupTo at h
    split at h
    · split at h
      · injection h with h; injection h with h1 h2; injection h2 with h2 h3; subst h1; subst h2; subst h3; rfl
      · obtain ⟨⟨g', p', r'⟩, h1, h2⟩ := Option.map_eq_some_iff.1 h
        injection h2 with h2 h3; injection h3 with h3 h4; subst h2; subst h3; subst h4
        rw [groupTo_spec h1]; rfl
    · obtain ⟨⟨g', p', r'⟩, h1, h2⟩ := Option.map_eq_some_iff.1 h
      injection h2 with h2 h3; injection h3 with h3 h4; subst h2; subst h3; subst h4
      rw [groupTo_spec h1]; rfl

theorem fused_spec {ops : List Oper} {dj j : Nat} {w0 : Bool} {l g r : List Oper} {x y : Operand} {d : Option Nat} (h : fused ops dj j w0 l = some (g, x, y, d, r)) :
    ∃ p : Oper, l = g ++ p :: r ∧ p.op = .pick (.tmp dj) x y ∧ p.guard = none ∧ p.dst = d ∧ (∀ q ∈ g, q.guard = some (j, w0) ∧ q.dst ≠ some dj) ∧ aside g (cond w0 y x) = true := by
  unfold fused at h
  split at h
  · rename_i g' p r' hg
    split at h
    · rename_i c x' y' hop hgd
      split at h
      · rename_i hc
        injection h with h; injection h with h1 h; injection h with h2 h; injection h with h3 h; injection h with h4 h5
        subst h1; subst h2; subst h3; subst h4; subst h5
        obtain ⟨h1, h2, _, h4⟩ := hc
        subst h1
        refine ⟨p, groupTo_spec hg, hop, hgd, rfl, fun q hq => ?_, h4⟩
        have := List.all_eq_true.1 h2 q hq
        simp only [Bool.and_eq_true, beq_iff_eq, bne_iff_ne] at this
        exact ⟨this.1.2, this.2⟩
      · cases h
    · cases h
  · cases h

theorem aside_spec {g : List Oper} {x : Operand} (h : aside g x = true) {fr fr' : Fr} (he : ∀ u, (∀ q ∈ g, q.dst ≠ some u) → fr'[u]? = fr[u]?) : evalO fr' x = evalO fr x := by
  by_cases hx : ∃ u, x = .tmp u
  case neg =>
    cases x with
    | tmp u => exact absurd ⟨u, rfl⟩ hx
    | const v => cases v <;> first | rfl | (rename_i p; cases p <;> rfl)
    | _ => rfl
  obtain ⟨u, rfl⟩ := hx
  simp only [evalO]
  refine he u fun q hq => ?_
  have := List.all_eq_true.1 (show (g.all fun q => q.dst != some u) = true from h) q hq
  simpa using this

end
end Go.Den

/- Regions whose operations come in their order. -/
namespace Go.Den
open Go

section
variable {R : Type} {run : RunF} {loop : Code → Fr → Heap → Option Out} {lr : Res → Heap → Option R} {lo : Out → Option R} {r : R}
variable {C : Ctx} {D : List Deferred} {ops : List Oper} {σ : Heap} {ρ : Gr} {S : Cells} {w : World} {fr : Fr} {a : Act} {o : Oper}
theorem denOps_ok (hp : PrimOk C.P C.H) (hrun : RunOk C.P run) {arr : Array Oper} {Q : Exit → Act → World → Prop} : ∀ (n : Nat) (l : List Oper) (fr : Fr) (σ : Heap) (K : Fr → Heap → T) (Kp : E → Fr → Heap → T) (r : R),
    (denOps C arr.toList n l fr σ K Kp).go run loop lr lo = some r → ∀ (ρ : Gr) (S : Cells) (w : World) (a : Act), Rel C.P σ ρ S w → FR C.P σ ρ S w fr a.tmps → a.defers = D →
    (∀ (fr' : Fr) (σ' : Heap) (ρ' : Gr) (S' : Cells) (w' : World) (a' : Act), a'.defers = D → Rel C.P σ' ρ' S' w' → Ext σ ρ S w σ' ρ' S' w' → FR C.P σ' ρ' S' w' fr' a'.tmps → (K fr' σ').go run loop lr lo = some r → Q .normal a' w') →
    (∀ (x : E) (fr' : Fr) (σ' : Heap) (ρ' : Gr) (S' : Cells) (w' : World) (a' : Act) (cv : Value), a'.defers = D → Rel C.P σ' ρ' S' w' → Ext σ ρ S w σ' ρ' S' w' → FR C.P σ' ρ' S' w' fr' a'.tmps →
      VE C.P w' S' x cv → (Kp x fr' σ').go run loop lr lo = some r → Q (.panic [{ v := cv, recovered := false }]) a' w') →
    wpList C.P arr Q l a w := by
  intro n
  induction n with
  | zero => intro l fr σ K Kp r h; cases h
  | succ n ih =>
    intro l fr σ K Kp r h ρ S w a hr hf hd hK hKp
    cases l with
    | nil => exact hK fr σ ρ S w a hd hr (Ext.refl _ _ _ _) hf h
    | cons o rest =>
      -- what comes behind, from any state
      have hrest : ∀ (fr' : Fr) (σ' : Heap) (ρ' : Gr) (S' : Cells) (w' : World) (a' : Act) (l' : List Oper), a'.defers = D → Rel C.P σ' ρ' S' w' → Ext σ ρ S w σ' ρ' S' w' → FR C.P σ' ρ' S' w' fr' a'.tmps →
          (denOps C arr.toList n l' fr' σ' K Kp).go run loop lr lo = some r → wpList C.P arr Q l' a' w' := by
        intro fr' σ' ρ' S' w' a' l' h1 h2 h3 h4 h5
        refine ih l' fr' σ' K Kp r h5 ρ' S' w' a' h2 h4 h1 ?_ ?_
        · intro fr2 σ2 ρ2 S2 w2 a2 k1 k2 k3 k4 k5
          exact hK fr2 σ2 ρ2 S2 w2 a2 k1 k2 (h3.trans k3) k4 k5
        · intro x fr2 σ2 ρ2 S2 w2 a2 cv k1 k2 k3 k4 k5 k6
          exact hKp x fr2 σ2 ρ2 S2 w2 a2 cv k1 k2 (h3.trans k3) k4 k5 k6
      have hgo : ∀ (fr' : Fr), FR C.P σ ρ S w fr' a.tmps → (denGo C arr.toList o fr' (room C.P arr.toList o σ) σ.length (fun f s => denOps C arr.toList n rest f s K Kp) (fun x s => Kp x fr s)).go run loop lr lo = some r → o.wp C.P a w (wpList C.P arr Q rest) Q := by
        intro fr' hf' h'
        obtain ⟨r1, e1⟩ := hr.more (needs C.P arr.toList o)
        refine denGo_ok hp hrun h' r1 (hf'.mono e1) ?_ ?_
        · intro fr2 σ2 ρ2 S2 w2 a2 k1 k2 k3 k4 k5
          exact hrest fr2 σ2 ρ2 S2 w2 a2 rest (k1.trans hd) k2 (e1.trans k3) k4 k5
        · intro x σ2 ρ2 S2 w2 cv k2 k3 k5 k6
          exact hKp x fr σ2 ρ2 S2 w2 a cv hd k2 (e1.trans k3) (hf.mono (e1.trans k3)) k5 k6
      change (match o.guard with
        | none => denGo C arr.toList o fr (room C.P arr.toList o σ) σ.length (fun f s => denOps C arr.toList n rest f s K Kp) (fun x s => Kp x fr s)
        | some (j, w0) =>
          match dstOf arr.toList j with
          | none => T.fail
          | some dj =>
            match fr[dj]? with
            | some (.e (.bool b)) =>
              match fused arr.toList dj j w0 (o :: rest) with
              | some (g, x, y, d, r) =>
                match evalGroup C.P arr.toList g fr σ with
                | some fr1 =>
                  match evalO fr1 x, evalO fr1 y with
                  | some (.e (.bool bx)), some (.e (.bool by')) => denOps C arr.toList n r (put (g.foldl (fun (a : Fr) (q : Oper) => put a q.dst .undef) fr) d (.e (.bool (cond b bx by')))) σ K Kp
                  | _, _ => .fail
                | none => .fail
              | none => .br (b == w0) (denGo C arr.toList o (fr.set dj (.e (.bool w0))) (room C.P arr.toList o σ) σ.length (fun f s => denOps C arr.toList n rest f s K Kp) (fun x s => Kp x fr s)) (denOps C arr.toList n rest (put (fr.set dj (.e (.bool (!w0)))) o.dst (.tup [])) σ K Kp)
            | some (.tup []) => denOps C arr.toList n rest (put fr o.dst (.tup [])) σ K Kp
            | _ => .fail).go run loop lr lo = some r at h
      split at h
      · rename_i hg
        refine wpList_plain hg fun N hN => ?_
        exact Oper.wp_mono hN (hgo fr hf h)
      · rename_i j w0 hg
        split at h
        · cases h
        · rename_i dj hdj
          split at h
          · rename_i b hb
            have hbt := hf.bool hb
            split at h
            · -- the operations of the guard at once
              rename_i g x y d rr hfu
              obtain ⟨p, hl, hpop, hpg, hpd, hgall, has⟩ := fused_spec hfu
              rw [hl]
              split at h
              · rename_i fr1 hev
                split at h
                · rename_i bx by' hx hy
                  by_cases hbw : b = w0
                  · subst hbw
                    refine group_wanted hdj g fr fr fr1 ρ S w a (p :: rr) hev hgall hr hf hf hb hd ?_
                    intro ρ' S' w' a' k1 k2 k3 k4 k5
                    refine wpList_plain hpg fun N hN => ?_
                    have hb1 : fr1[dj]? = some (.e (.bool b)) := by rw [evalGroup_ne g fr fr1 σ dj (fun q hq => (hgall q hq).2) hev]; exact hb
                    have ho : OpOk C.P σ ρ' S' w' a' p (.e (.bool (cond b bx by'))) σ := by
                      have := op_pick k1 k3 hpop (x := x) (y := y) (b := b) (c := .tmp dj) (by exact hb1) hx hy
                      cases b <;> exact this
                    refine OpOk.wp ho fun cv w2 ρ2 S2 m1 m2 m3 => hN _ _ ?_
                    refine hrest _ σ ρ2 S2 w2 _ rr (by rw [put_defers]; exact k5) m1 (k2.trans m2) ?_ h
                    rw [← hpd]
                    exact (k4.mono m2).put p.dst m3
                  · refine group_skipped hdj hbw g fr ρ S w a (p :: rr) hgall hf hb hd ?_
                    intro a' k1 k2
                    refine wpList_plain hpg fun N hN => ?_
                    have hb1 : (g.foldl (fun a q => put a q.dst .undef) fr)[dj]? = some (.e (.bool b)) := by rw [foldl_put_ne g fr dj fun q hq => (hgall q hq).2]; exact hb
                    have hsame : evalO (g.foldl (fun a q => put a q.dst .undef) fr) (cond w0 y x) = evalO fr1 (cond w0 y x) :=
                      aside_spec has fun u hu => by rw [foldl_put_ne g fr u hu, evalGroup_ne g fr fr1 σ u hu hev]
                    have hev' : VA3 C.P σ ρ S w (.e (.bool (cond b bx by'))) (cond b (a'.eval x) (a'.eval y)) := by
                      cases b <;> cases w0 <;> first | exact absurd rfl hbw | skip
                      · rw [show (cond true y x) = y from rfl, hy] at hsame; exact evalO_ok k1 hsame
                      · rw [show (cond false y x) = x from rfl, hx] at hsame; exact evalO_ok k1 hsame
                    have ho : OpOk C.P σ ρ S w a' p (.e (.bool (cond b bx by'))) σ := by
                      refine OpOk.pure hr (run_pick hpop ?_) hev'
                      exact eval_tmp (FR.bool k1 hb1)
                    refine OpOk.wp ho fun cv w2 ρ2 S2 m1 m2 m3 => hN _ _ ?_
                    refine hrest _ σ ρ2 S2 w2 _ rr (by rw [put_defers]; exact k2) m1 m2 ?_ h
                    rw [← hpd]
                    exact (k1.mono m2).put p.dst m3
                · cases h
              · cases h
            · -- one by one
              rcases go_br h with ⟨hbw, h⟩ | ⟨hbw, h⟩
              · have hbe : b = w0 := by simpa using hbw
                have hw : Region.wanted o (yielded arr a.tmps) = true := by
                  unfold Region.wanted
                  rw [hg]
                  simp [yielded_bool hdj hbt, hbe]
                refine wpList_step fun N hN => ?_
                rw [if_pos hw]
                exact Oper.wp_mono hN (hgo _ (hf.lit hb hbe) h)
              · have hbe : b ≠ w0 := by simpa using hbw
                have hw : Region.wanted o (yielded arr a.tmps) = false := by
                  unfold Region.wanted
                  rw [hg]
                  simpa [yielded_bool hdj hbt] using hbe
                refine wpList_skip hw ?_
                refine hrest _ σ ρ S w _ rest (by rw [put_defers]; exact hd) hr (Ext.refl _ _ _ _) ?_ h
                exact (hf.lit hb (by cases b <;> cases w0 <;> simp at hbe ⊢)).put o.dst VA3_skip
          · rename_i hb
            obtain ⟨cv, h1, h2⟩ := hf.get hb
            rw [VA3_skip_inv h2] at h1
            have hw : Region.wanted o (yielded arr a.tmps) = false := by
              unfold Region.wanted
              rw [hg]
              simp [yielded_undef hdj h1]
            refine wpList_skip hw ?_
            exact hrest _ σ ρ S w _ rest (by rw [put_defers]; exact hd) hr (Ext.refl _ _ _ _) (hf.put o.dst VA3_skip) h
          · cases h
end
end Go.Den

