/- Objects numbered anew: what a value says of them stays said, in both ways. -/
import Derived.Test.YtdlfldeacoiokaaDn14
namespace Go.Den
open Go

theorem addNew_prefix : ∀ (is acc : List Nat), ∃ t, addNew acc is = acc ++ t
  | [], acc => ⟨[], by simp [addNew]⟩
  | i :: is, acc => by
    unfold addNew
    obtain ⟨t, ht⟩ := addNew_prefix is (if acc.contains i then acc else acc ++ [i])
    split at ht
    · rename_i hc; rw [if_pos hc]; exact ⟨t, ht⟩
    · rename_i hc; rw [if_neg hc]; exact ⟨i :: t, by rw [ht]; simp⟩

theorem addNew_mem : ∀ (is acc : List Nat) (x : Nat), x ∈ is → x ∈ addNew acc is
  | i :: is, acc, x, h => by
    unfold addNew
    rcases List.mem_cons.1 h with h | h
    · subst h
      obtain ⟨t, ht⟩ := addNew_prefix is (if acc.contains x then acc else acc ++ [x])
      rw [ht]
      by_cases hc : acc.contains x = true
      · rw [if_pos hc]; simp at hc; simp [hc]
      · rw [if_neg hc]; simp
    · exact addNew_mem is _ x h

theorem addNew_nodup : ∀ (is acc : List Nat), acc.Nodup → (addNew acc is).Nodup
  | [], acc, h => by simpa [addNew] using h
  | i :: is, acc, h => by
    unfold addNew
    refine addNew_nodup is _ ?_
    split
    · exact h
    · rename_i hc
      simp at hc
      rw [List.nodup_append]
      exact ⟨h, by simp, fun a ha b hb => by simp at hb; subst hb; rintro rfl; exact hc ha⟩

theorem closure_prefix (σ : Heap) : ∀ (k : Nat) (ids : List Nat), ∃ t, closure σ k ids = ids ++ t
  | 0, ids => ⟨[], by simp [closure]⟩
  | k + 1, ids => by
    unfold closure
    obtain ⟨t, ht⟩ := addNew_prefix (ids.flatMap (idsAt σ)) ids
    obtain ⟨t', ht'⟩ := closure_prefix σ k (addNew ids (ids.flatMap (idsAt σ)))
    exact ⟨t ++ t', ht'.trans (by rw [ht, List.append_assoc])⟩

theorem closure_mem (σ : Heap) (k : Nat) (ids : List Nat) (x : Nat) (h : x ∈ ids) : x ∈ closure σ k ids := by
  obtain ⟨t, ht⟩ := closure_prefix σ k ids
  rw [ht]; simp [h]

theorem closure_nodup (σ : Heap) : ∀ (k : Nat) (ids : List Nat), ids.Nodup → (closure σ k ids).Nodup
  | 0, _, h => h
  | k + 1, _, h => closure_nodup σ k _ (addNew_nodup _ _ h)

theorem idx_spec {ids : List Nat} {id : Nat} (h : id ∈ ids) : ids[idx ids id]? = some id := by
  have h1 : ids.findIdx (· == id) < ids.length := List.findIdx_lt_length_of_exists ⟨id, h, by simp⟩
  have h2 := List.findIdx_getElem (w := h1)
  unfold idx
  rw [List.getElem?_eq_getElem h1]
  simpa using h2

theorem nodup_inj {ids : List Nat} (hn : ids.Nodup) {i j id : Nat} (h : ids[i]? = some id) (h' : ids[j]? = some id) : i = j := by
  have hi := (List.getElem?_eq_some_iff.1 h).1
  exact (List.getElem?_inj hi hn).1 (h.trans h'.symm)

theorem idx_at {ids : List Nat} (hn : ids.Nodup) {k id : Nat} (h : ids[k]? = some id) : idx ids id = k :=
  nodup_inj hn (idx_spec (List.mem_of_getElem? h)) h

theorem subHeap_spec {σ σ1 : Heap} {ids : List Nat} (h : subHeap σ ids = some σ1) :
    σ1.length = ids.length ∧ ∀ (k id : Nat), ids[k]? = some id → ∃ o, σ[id]? = some o ∧ o ≠ .hole ∧ (∀ x ∈ o.ids, x ∈ ids) ∧ σ1[k]? = some (o.ren (idx ids)) := by
  obtain ⟨h1, h2⟩ := mapM_some_get h
  refine ⟨h1, fun k id hk => ?_⟩
  obtain ⟨y, hy, hy'⟩ := h2 k id hk
  split at hy
  · cases hy
  · rename_i o hno ho
    by_cases hc : o.ids.all ids.contains = true
    · rw [if_pos hc] at hy
      injection hy with hy
      refine ⟨o, ho, fun e => hno e, fun x hx => ?_, by rw [hy', hy]⟩
      have := List.all_eq_true.1 hc x hx
      simpa using this
    · rw [if_neg hc] at hy; cases hy
  · cases hy

def subGr (ρ : Gr) (ids : List Nat) : Gr := ids.map fun id => ρ.getD id none

theorem subGr_get {ρ : Gr} {ids : List Nat} {k id : Nat} (h : ids[k]? = some id) (hl : id < ρ.length) : (subGr ρ ids)[k]? = ρ[id]? := by
  simp [subGr, List.getElem?_map, h, List.getD_eq_getElem?_getD, List.getElem?_eq_getElem hl]

theorem subGr_back {ρ : Gr} {ids : List Nat} {k : Nat} {g : Nat × Nat} (h : (subGr ρ ids)[k]? = some (some g)) : ∃ id, ids[k]? = some id ∧ ρ[id]? = some (some g) := by
  unfold subGr at h
  rw [List.getElem?_map] at h
  cases hk : ids[k]? with
  | none => rw [hk] at h; cases h
  | some id =>
    rw [hk] at h
    refine ⟨id, rfl, ?_⟩
    simp [List.getD_eq_getElem?_getD] at h
    cases hr : ρ[id]? with
    | none => rw [hr] at h; cases h
    | some x => rw [hr] at h; simp at h; rw [h]

section
variable {P : Program} {σ σ1 : Heap} {ρ : Gr} {S : Cells} {w : World} {ids : List Nat}

theorem VA1.sub (hl : ρ.length = σ.length) (hs : subHeap σ ids = some σ1) {v : AV} {cv : Value} (hv : VA1 P σ ρ S w v cv) (hi : ∀ x ∈ v.ids1, x ∈ ids) :
    VA1 P σ1 (subGr ρ ids) S w (v.ren1 (idx ids)) cv := by
  obtain ⟨h1, h2⟩ := subHeap_spec hs
  cases v with
  | own id et xs =>
    have hk := idx_spec (hi id (by simp [AV.ids1]))
    obtain ⟨o, ho, _, _, ho'⟩ := h2 _ _ hk
    obtain ⟨h3, ⟨n, h4, h5, h6⟩ | h4⟩ := hv
    · rw [h4] at ho; injection ho with ho; subst ho
      refine ⟨h3, .inl ⟨n, ho', h5, fun he => ?_⟩⟩
      have := h6 he
      unfold place at *
      rw [subGr_get hk (by rw [hl]; exact (List.getElem?_eq_some_iff.1 h4).1)]
      exact this
    · rw [h4] at ho; injection ho with ho; subst ho
      exact ⟨h3, .inr ho'⟩
  | ptr id off =>
    obtain ⟨b, c, h3, ⟨cs, h4⟩, h5⟩ := hv
    have hk := idx_spec (hi id (by simp [AV.ids1]))
    obtain ⟨o, ho, _, _, ho'⟩ := h2 _ _ hk
    rw [h4] at ho; injection ho with ho; subst ho
    exact ⟨b, c, by rw [subGr_get hk (List.getElem?_eq_some_iff.1 h3).1]; exact h3, ⟨_, ho'⟩, h5⟩
  | clo f ps =>
    obtain ⟨cap, h3, h4, h5⟩ := hv
    refine ⟨cap, h3, by simpa using h4, fun j p hj => ?_⟩
    rw [List.getElem?_map] at hj
    obtain ⟨q, hq, rfl⟩ := Option.map_eq_some_iff.1 hj
    obtain ⟨b, c, h6, ⟨cs, h7⟩, h8⟩ := h5 j q hq
    have hk := idx_spec (hi q.1 (List.mem_map.2 ⟨q, List.mem_of_getElem? hq, rfl⟩))
    obtain ⟨o, ho, _, _, ho'⟩ := h2 _ _ hk
    rw [h7] at ho; injection ho with ho; subst ho
    exact ⟨b, c, by rw [subGr_get hk (List.getElem?_eq_some_iff.1 h6).1]; exact h6, ⟨_, ho'⟩, h8⟩
  | itr id =>
    obtain ⟨b, c, h3, ⟨r, h4⟩, h5⟩ := hv
    have hk := idx_spec (hi id (by simp [AV.ids1]))
    obtain ⟨o, ho, _, _, ho'⟩ := h2 _ _ hk
    rw [h4] at ho; injection ho with ho; subst ho
    exact ⟨b, c, by rw [subGr_get hk (List.getElem?_eq_some_iff.1 h3).1]; exact h3, ⟨_, ho'⟩, h5⟩
  | nsp id =>
    obtain ⟨⟨cs, h4⟩, h5⟩ := hv
    have hk := idx_spec (hi id (by simp [AV.ids1]))
    obtain ⟨o, ho, _, _, ho'⟩ := h2 _ _ hk
    rw [h4] at ho; injection ho with ho; subst ho
    refine ⟨⟨_, ho'⟩, h5.imp (fun h => h) fun ⟨b, c, h6, h7⟩ => ⟨b, c, by rw [subGr_get hk (List.getElem?_eq_some_iff.1 h6).1]; exact h6, h7⟩⟩
  | e x => exact hv
  | nils et => exact hv
  | nilp => exact hv
  | pin et y off => exact hv
  | fn f => exact hv
  | undef => trivial
  | agg cs => exact hv.elim
  | tup vs => exact hv.elim

theorem ren1_one (r : Nat → Nat) {v : AV} (h : v.one = true) : (v.ren1 r).one = true := by
  cases v <;> first | exact h | rfl

theorem ren1_agg (r : Nat → Nat) {v : AV} (h : ∀ cs, v ≠ .agg cs) : v.ren2 r = v.ren1 r ∧ ∀ cs, v.ren1 r ≠ .agg cs := by
  cases v <;> first | exact absurd rfl (h _) | exact ⟨rfl, fun cs => by simp [AV.ren1]⟩
theorem ren2_tup (r : Nat → Nat) {v : AV} (h : ∀ cs, v ≠ .tup cs) : v.ren3 r = v.ren2 r ∧ ∀ cs, v.ren2 r ≠ .tup cs := by
  cases v <;> first | exact absurd rfl (h _) | exact ⟨rfl, fun cs => by simp [AV.ren2, AV.ren1]⟩
theorem ids2_one {v : AV} (h : ∀ cs, v ≠ .agg cs) : v.ids2 = v.ids1 := by
  cases v <;> first | rfl | exact absurd rfl (h _)
theorem ids3_two {v : AV} (h : ∀ cs, v ≠ .tup cs) : v.ids3 = v.ids2 := by
  cases v <;> first | rfl | exact absurd rfl (h _)

/-- From cells to values. -/
theorem lift2 {σ' : Heap} {ρ' : Gr} {S' : Cells} {w' : World} {r : Nat → Nat} {G : Nat → Prop}
    (h : ∀ (v : AV) (cv : Value), VA1 P σ ρ S w v cv → (∀ x ∈ v.ids1, G x) → VA1 P σ' ρ' S' w' (v.ren1 r) cv) {v : AV} {cv : Value} (hv : VA2 P σ ρ S w v cv)
    (hi : ∀ x ∈ v.ids2, G x) : VA2 P σ' ρ' S' w' (v.ren2 r) cv := by
  by_cases hh : ∃ cs, v = .agg cs
  · obtain ⟨cs, rfl⟩ := hh
    obtain ⟨arr, h1, h2, h3⟩ := hv
    refine ⟨arr, h1, by simpa using h2, fun j u hj => ?_⟩
    rw [List.getElem?_map] at hj
    obtain ⟨v, hv, rfl⟩ := Option.map_eq_some_iff.1 hj
    obtain ⟨ho, x, h4, h5⟩ := h3 j v hv
    exact ⟨ren1_one r ho, x, h4, h v x h5 fun y hy => hi y (List.mem_flatMap.2 ⟨v, List.mem_of_getElem? hv, hy⟩)⟩
  · have hn : ∀ cs, v ≠ .agg cs := fun cs e => hh ⟨cs, e⟩
    rw [VA2_eq hn] at hv
    rw [ids2_one hn] at hi
    rw [(ren1_agg r hn).1]
    exact (h v cv hv hi).to2

theorem lift3 {σ' : Heap} {ρ' : Gr} {S' : Cells} {w' : World} {r : Nat → Nat} {G : Nat → Prop}
    (h : ∀ (v : AV) (cv : Value), VA1 P σ ρ S w v cv → (∀ x ∈ v.ids1, G x) → VA1 P σ' ρ' S' w' (v.ren1 r) cv) {v : AV} {cv : Value} (hv : VA3 P σ ρ S w v cv)
    (hi : ∀ x ∈ v.ids3, G x) : VA3 P σ' ρ' S' w' (v.ren3 r) cv := by
  by_cases hh : ∃ cs, v = .tup cs
  · obtain ⟨cs, rfl⟩ := hh
    obtain ⟨arr, h1, h2, h3⟩ := hv
    refine ⟨arr, h1, by simpa using h2, fun j u hj => ?_⟩
    rw [List.getElem?_map] at hj
    obtain ⟨v, hv, rfl⟩ := Option.map_eq_some_iff.1 hj
    obtain ⟨x, h4, h5⟩ := h3 j v hv
    exact ⟨x, h4, lift2 h h5 fun y hy => hi y (List.mem_flatMap.2 ⟨v, List.mem_of_getElem? hv, hy⟩)⟩
  · have hn : ∀ cs, v ≠ .tup cs := fun cs e => hh ⟨cs, e⟩
    rw [VA3_eq hn] at hv
    rw [ids3_two hn] at hi
    rw [(ren2_tup r hn).1]
    exact (lift2 h hv hi).to3

theorem VA2.sub (hl : ρ.length = σ.length) (hs : subHeap σ ids = some σ1) {v : AV} {cv : Value} (hv : VA2 P σ ρ S w v cv) (hi : ∀ x ∈ v.ids2, x ∈ ids) :
    VA2 P σ1 (subGr ρ ids) S w (v.ren2 (idx ids)) cv := lift2 (fun _ _ h h' => VA1.sub hl hs h h') hv hi
theorem VA3.sub (hl : ρ.length = σ.length) (hs : subHeap σ ids = some σ1) {v : AV} {cv : Value} (hv : VA3 P σ ρ S w v cv) (hi : ∀ x ∈ v.ids3, x ∈ ids) :
    VA3 P σ1 (subGr ρ ids) S w (v.ren3 (idx ids)) cv := lift3 (fun _ _ h h' => VA1.sub hl hs h h') hv hi

theorem subHeap_back {σ σ1 : Heap} {ids : List Nat} (h : subHeap σ ids = some σ1) {k : Nat} {q : Ob} (hk : σ1[k]? = some q) :
    ∃ id o, ids[k]? = some id ∧ σ[id]? = some o ∧ o ≠ .hole ∧ (∀ x ∈ o.ids, x ∈ ids) ∧ q = o.ren (idx ids) := by
  obtain ⟨h1, h2⟩ := subHeap_spec h
  have hkl : k < ids.length := by rw [← h1]; exact (List.getElem?_eq_some_iff.1 hk).1
  obtain ⟨o, ho, hno, hin, ho'⟩ := h2 k ids[k] (by simp [hkl])
  rw [hk] at ho'; injection ho' with ho'
  exact ⟨ids[k], o, by simp [hkl], ho, hno, hin, ho'⟩

theorem ren_box {r : Nat → Nat} {o : Ob} {cs : List AV} (h : Ob.box cs = o.ren r) : ∃ ds, o = .box ds ∧ cs = ds.map (AV.ren1 r) := by
  cases o <;> simp [Ob.ren] at h; exact ⟨_, rfl, h⟩
theorem ren_vec {r : Nat → Nat} {o : Ob} {t n} (h : Ob.vec t n = o.ren r) : o = .vec t n := by
  cases o <;> simp [Ob.ren] at h; obtain ⟨rfl, rfl⟩ := h; rfl
theorem ren_raw {r : Nat → Nat} {o : Ob} {q : Raw} (h : Ob.raw q = o.ren r) : o = .raw q := by
  cases o <;> simp [Ob.ren] at h; subst h; rfl
theorem ren_hole {r : Nat → Nat} {o : Ob} (h : Ob.hole = o.ren r) : o = .hole := by
  cases o <;> simp [Ob.ren] at h; rfl

theorem Rel.sub (hr : Rel P σ ρ S w) (hn : ids.Nodup) (hs : subHeap σ ids = some σ1) : Rel P σ1 (subGr ρ ids) S w := by
  have hgl : ∀ {id : Nat} {o : Ob}, σ[id]? = some o → id < ρ.length := fun h => by rw [hr.len]; exact (List.getElem?_eq_some_iff.1 h).1
  refine ⟨by simp [subGr, (subHeap_spec hs).1], ?_, ?_, ?_, ?_, ?_, ?_, hr.cells, hr.glob.mono' fun id b c h => (subGr_back h).imp fun _ h => h.2⟩
  · intro k cs hk
    obtain ⟨id, o, hid, ho, _, hin, hq⟩ := subHeap_back hs hk
    obtain ⟨ds, rfl, rfl⟩ := ren_box hq
    obtain ⟨b, c, arr, T, h3, h4, h5, h6, h7⟩ := hr.box _ _ ho
    refine ⟨b, c, arr, T, by rw [subGr_get hid (hgl ho)]; exact h3, h4, by simpa using h5, ?_, h7⟩
    intro j v hj
    rw [List.getElem?_map] at hj
    obtain ⟨u, hu, rfl⟩ := Option.map_eq_some_iff.1 hj
    obtain ⟨ho, x, h8, h9⟩ := h6 j u hu
    exact ⟨ren1_one _ ho, x, h8, VA1.sub hr.len hs h9 fun y hy => hin y (List.mem_flatMap.2 ⟨u, List.mem_of_getElem? hu, hy⟩)⟩
  · intro k et n b c hk hg
    obtain ⟨id, o, hid, ho, _, hin, hq⟩ := subHeap_back hs hk
    have := ren_vec hq; subst this
    rw [subGr_get hid (hgl ho)] at hg
    exact hr.vec _ _ _ _ _ ho hg
  · intro k r hk
    obtain ⟨id, o, hid, ho, _, hin, hq⟩ := subHeap_back hs hk
    have := ren_raw hq; subst this
    obtain ⟨b, c, ob, h3, h4⟩ := hr.raw _ _ ho
    exact ⟨b, c, ob, by rw [subGr_get hid (hgl ho)]; exact h3, h4⟩
  · intro k hk
    obtain ⟨id, o, hid, ho, hno, hin, hq⟩ := subHeap_back hs hk
    exact absurd (ren_hole hq) hno
  · intro k b c h
    obtain ⟨id, _, h4⟩ := subGr_back h
    exact hr.lt _ _ _ h4
  · intro i j b c c' hi hj
    obtain ⟨id, h3, h4⟩ := subGr_back hi
    obtain ⟨id', h3', h4'⟩ := subGr_back hj
    have := hr.inj _ _ _ _ _ h4 h4'
    subst this
    exact nodup_inj hn h3 h3'

/-! ### Back -/

def backGr (ids : List Nat) (ρ1 ρ : Gr) : Gr := (ρ.zipIdx.map fun p => if ids.contains p.2 then ρ1.getD (idx ids p.2) none else p.1) ++ ρ1.drop ids.length

variable {σ1' : Heap} {ρ1' : Gr} {S' : Cells} {w' : World}

theorem renum_at {n k id : Nat} (h : ids[k]? = some id) : renum ids n k = id := by
  unfold renum
  rw [if_pos (List.getElem?_eq_some_iff.1 h).1]
  simp [List.getD_eq_getElem?_getD, h]
theorem renum_new {n k : Nat} (h : ids.length ≤ k) : renum ids n k = n + (k - ids.length) := by
  unfold renum
  rw [if_neg (by omega)]

theorem zipIdx_map_get {α β : Type} (f : α × Nat → β) (l : List α) (i : Nat) : (l.zipIdx.map f)[i]? = (l[i]?).map fun x => f (x, i) := by
  rw [List.getElem?_map, List.getElem?_zipIdx]
  cases l[i]? <;> simp

theorem back_at (hn : ids.Nodup) (hb : ∀ id ∈ ids, id < σ.length) (hl : ρ.length = σ.length) (hl' : ρ1'.length = σ1'.length) {k : Nat} {o : Ob} (ho : σ1'[k]? = some o) :
    (backTo ids σ1' σ)[renum ids σ.length k]? = some (o.ren (renum ids σ.length)) ∧ (backGr ids ρ1' ρ)[renum ids σ.length k]? = ρ1'[k]? := by
  have hk1 : k < ρ1'.length := by rw [hl']; exact (List.getElem?_eq_some_iff.1 ho).1
  rcases Nat.lt_or_ge k ids.length with hk | hk
  · have hid : ids[k]? = some ids[k] := List.getElem?_eq_getElem hk
    have hlt := hb ids[k] (List.getElem_mem hk)
    rw [renum_at hid]
    have hc : ids.contains ids[k] = true := by simp
    constructor
    · unfold backTo
      rw [List.getElem?_append_left (by simpa using hlt), zipIdx_map_get, List.getElem?_eq_getElem hlt]
      simp only [Option.map_some, hc, if_true, idx_at hn hid, Heap.ob, List.getD_eq_getElem?_getD, ho, Option.getD_some]
    · unfold backGr
      rw [List.getElem?_append_left (by simp [hl]; exact hlt), zipIdx_map_get, List.getElem?_eq_getElem (by rw [hl]; exact hlt)]
      simp only [Option.map_some, hc, if_true, idx_at hn hid, List.getD_eq_getElem?_getD, List.getElem?_eq_getElem hk1, Option.getD_some]
  · rw [renum_new hk]
    constructor
    · unfold backTo
      rw [List.getElem?_append_right (by simp), List.getElem?_map, List.getElem?_drop]
      simp only [List.length_map, List.length_zipIdx]
      rw [show ids.length + (σ.length + (k - ids.length) - σ.length) = k by omega, ho]
      rfl
    · unfold backGr
      rw [List.getElem?_append_right (by simp [hl]), List.getElem?_drop]
      simp only [List.length_map, List.length_zipIdx, hl]
      rw [show ids.length + (σ.length + (k - ids.length) - σ.length) = k by omega]

theorem back_other (hl : ρ.length = σ.length) {id : Nat} (h : id ∉ ids) (hlt : id < σ.length) : (backTo ids σ1' σ)[id]? = σ[id]? ∧ (backGr ids ρ1' ρ)[id]? = ρ[id]? := by
  have hc : ids.contains id = false := by simpa using h
  constructor
  · unfold backTo
    rw [List.getElem?_append_left (by simpa using hlt), zipIdx_map_get, List.getElem?_eq_getElem hlt]
    simp only [Option.map_some, hc]; rfl
  · unfold backGr
    rw [List.getElem?_append_left (by simp [hl]; exact hlt), zipIdx_map_get, List.getElem?_eq_getElem (by rw [hl]; exact hlt)]
    simp only [Option.map_some, hc]; rfl

theorem back_len : (backTo ids σ1' σ).length = σ.length + (σ1'.length - ids.length) := by simp [backTo]
theorem backGr_len : (backGr ids ρ1' ρ).length = ρ.length + (ρ1'.length - ids.length) := by simp [backGr]

/-- Where an object behind the call comes from. -/
theorem back_from (hl : ids.length ≤ σ1'.length) {i : Nat} (hi : i < (backTo ids σ1' σ).length) : (∃ k, k < σ1'.length ∧ i = renum ids σ.length k) ∨ (i ∉ ids ∧ i < σ.length) := by
  rw [back_len] at hi
  rcases Nat.lt_or_ge i σ.length with h | h
  · by_cases hm : i ∈ ids
    · have hs := idx_spec hm
      have := (List.getElem?_eq_some_iff.1 hs).1
      exact .inl ⟨idx ids i, by omega, (renum_at hs).symm⟩
    · exact .inr ⟨hm, h⟩
  · exact .inl ⟨ids.length + (i - σ.length), by omega, by rw [renum_new (by omega)]; omega⟩

theorem renum_inj (hn : ids.Nodup) (hb : ∀ id ∈ ids, id < σ.length) {i j : Nat} (h : renum ids σ.length i = renum ids σ.length j) : i = j := by
  rcases Nat.lt_or_ge i ids.length with hi | hi <;> rcases Nat.lt_or_ge j ids.length with hj | hj
  · have h1 : ids[i]? = some ids[i] := List.getElem?_eq_getElem hi
    have h2 : ids[j]? = some ids[j] := List.getElem?_eq_getElem hj
    rw [renum_at h1, renum_at h2] at h
    exact nodup_inj hn h1 (by rw [h]; exact h2)
  · have h1 : ids[i]? = some ids[i] := List.getElem?_eq_getElem hi
    rw [renum_at h1, renum_new hj] at h
    have := hb _ (List.getElem_mem hi)
    omega
  · have h2 : ids[j]? = some ids[j] := List.getElem?_eq_getElem hj
    rw [renum_at h2, renum_new hi] at h
    have := hb _ (List.getElem_mem hj)
    omega
  · rw [renum_new hi, renum_new hj] at h; omega

/-- What the numbered objects came to, in the caller's numbers. -/
theorem back_ok (hr : Rel P σ ρ S w) (hn : ids.Nodup) (hs : subHeap σ ids = some σ1) (hr' : Rel P σ1' ρ1' S' w') (he : Ext σ1 (subGr ρ ids) S w σ1' ρ1' S' w')
    (hlen : σ1.length ≤ σ1'.length) :
    Rel P (backTo ids σ1' σ) (backGr ids ρ1' ρ) S' w' ∧ Ext σ ρ S w (backTo ids σ1' σ) (backGr ids ρ1' ρ) S' w' ∧
    ∀ (v : AV) (cv : Value), VA1 P σ1' ρ1' S' w' v cv → VA1 P (backTo ids σ1' σ) (backGr ids ρ1' ρ) S' w' (v.ren1 (renum ids σ.length)) cv := by
  obtain ⟨h1, h2⟩ := subHeap_spec hs
  have hb : ∀ id ∈ ids, id < σ.length := fun id hid => by
    obtain ⟨k, hk⟩ := List.mem_iff_getElem?.1 hid
    obtain ⟨o, ho, _⟩ := h2 k id hk
    exact (List.getElem?_eq_some_iff.1 ho).1
  have at_ : ∀ {k : Nat} {o : Ob}, σ1'[k]? = some o → (backTo ids σ1' σ)[renum ids σ.length k]? = some (o.ren (renum ids σ.length)) ∧ (backGr ids ρ1' ρ)[renum ids σ.length k]? = ρ1'[k]? :=
    fun ho => back_at hn hb hr.len hr'.len ho
  have hout : ∀ (id b c : Nat), ρ[id]? = some (some (b, c)) → id ∉ ids → ∀ k c', (subGr ρ ids)[k]? ≠ some (some (b, c')) := fun id b c h hni k c' hk => by
    obtain ⟨id', h3, h4⟩ := subGr_back hk
    have := hr.inj _ _ _ _ _ h h4
    subst this
    exact hni (List.mem_of_getElem? h3)
  have hnewS : ∀ (id b c : Nat), ρ[id]? = some (some (b, c)) → id ∉ ids → ∀ o, S' b o → S b o := fun id b c h hni o hs' => by
    rcases he.newS b o hs' with h3 | h3 | ⟨i, c', h3⟩
    · exact h3
    · have := hr.lt id b c h; omega
    · exact absurd h3 (hout id b c h hni i c')
  -- an object that was there, behind the call
  have old_in : ∀ {id : Nat} {o : Ob}, σ[id]? = some o → id ∈ ids → ∃ k, ids[k]? = some id ∧ σ1[k]? = some (o.ren (idx ids)) ∧ (subGr ρ ids)[k]? = ρ[id]? ∧ renum ids σ.length k = id := fun {id o} ho hi => by
    have hk := idx_spec hi
    obtain ⟨o', ho', _, _, h3⟩ := h2 _ _ hk
    rw [ho] at ho'; injection ho' with ho'; subst ho'
    exact ⟨_, hk, h3, subGr_get hk (by rw [hr.len]; exact (List.getElem?_eq_some_iff.1 ho).1), renum_at hk⟩
  have hext : Ext σ ρ S w (backTo ids σ1' σ) (backGr ids ρ1' ρ) S' w' := by
    refine ⟨he.cell, ?_, ?_, ?_, ?_, ?_, ?_, ?_, he.size, he.os, he.tape, he.output⟩
    · intro id cs hbx
      by_cases hi : id ∈ ids
      · obtain ⟨k, hk, h3, h4, h5⟩ := old_in hbx hi
        obtain ⟨⟨cs', h6⟩, h7⟩ := he.box _ _ h3
        obtain ⟨h8, h9⟩ := at_ h6
        rw [h5] at h8 h9
        exact ⟨⟨_, h8⟩, h9.trans (h7.trans h4)⟩
      · obtain ⟨h3, h4⟩ := back_other (σ1' := σ1') (ρ1' := ρ1') hr.len hi (List.getElem?_eq_some_iff.1 hbx).1
        exact ⟨⟨cs, h3.trans hbx⟩, h4⟩
    · intro id et n hbx
      by_cases hi : id ∈ ids
      · obtain ⟨k, hk, h3, h4, h5⟩ := old_in hbx hi
        rcases he.vec _ _ _ h3 with ⟨n', l, h6, h7⟩ | h6
        · obtain ⟨h8, h9⟩ := at_ h6
          rw [h5] at h8 h9
          exact .inl ⟨n', l, h8, fun e => h9.trans ((h7 e).trans h4)⟩
        · obtain ⟨h8, _⟩ := at_ h6
          rw [h5] at h8
          exact .inr h8
      · obtain ⟨h3, h4⟩ := back_other (σ1' := σ1') (ρ1' := ρ1') hr.len hi (List.getElem?_eq_some_iff.1 hbx).1
        exact .inl ⟨n, Nat.le_refl _, h3.trans hbx, fun _ => h4⟩
    · intro id r hbx
      by_cases hi : id ∈ ids
      · obtain ⟨k, hk, h3, h4, h5⟩ := old_in hbx hi
        obtain ⟨⟨r', h6⟩, h7⟩ := he.raw _ _ h3
        obtain ⟨h8, h9⟩ := at_ h6
        rw [h5] at h8 h9
        exact ⟨⟨_, h8⟩, h9.trans (h7.trans h4)⟩
      · obtain ⟨h3, h4⟩ := back_other (σ1' := σ1') (ρ1' := ρ1') hr.len hi (List.getElem?_eq_some_iff.1 hbx).1
        exact ⟨⟨r, h3.trans hbx⟩, h4⟩
    · intro id hbx
      by_cases hi : id ∈ ids
      · obtain ⟨k, hk, h3, h4, h5⟩ := old_in hbx hi
        have h6 := he.dead _ h3
        obtain ⟨h8, _⟩ := at_ h6
        rw [h5] at h8
        exact h8
      · exact (back_other (σ1' := σ1') (ρ1' := ρ1') hr.len hi (List.getElem?_eq_some_iff.1 hbx).1).1.trans hbx
    · intro b hb hno
      refine he.old b hb fun k c hk => ?_
      obtain ⟨id, _, h4⟩ := subGr_back hk
      exact hno id c h4
    · intro id b c hg
      have hlt : id < (backTo ids σ1' σ).length := by
        have := (List.getElem?_eq_some_iff.1 hg).1
        rw [backGr_len] at this
        rw [back_len, ← hr'.len, ← hr.len]; exact this
      rcases back_from (by rw [← h1]; exact hlen) hlt with ⟨k, hk, rfl⟩ | ⟨hi, hlt⟩
      · rw [(at_ (List.getElem?_eq_getElem hk)).2] at hg
        rcases he.fresh _ _ _ hg with h3 | ⟨i, c', h3⟩
        · exact .inl h3
        · obtain ⟨id', _, h4⟩ := subGr_back h3
          exact .inr ⟨id', c', h4⟩
      · rw [(back_other (σ1' := σ1') (ρ1' := ρ1') hr.len hi hlt).2] at hg
        exact .inr ⟨id, c, hg⟩
    · intro b o hs'
      rcases he.newS b o hs' with h3 | h3 | ⟨i, c, h3⟩
      · exact .inl h3
      · exact .inr (.inl h3)
      · obtain ⟨id', _, h4⟩ := subGr_back h3
        exact .inr (.inr ⟨id', c, h4⟩)
  have hval : ∀ (v : AV) (cv : Value), VA1 P σ1' ρ1' S' w' v cv → VA1 P (backTo ids σ1' σ) (backGr ids ρ1' ρ) S' w' (v.ren1 (renum ids σ.length)) cv := by
    intro v cv hv
    cases v with
    | own k et xs =>
      obtain ⟨h3, ⟨n, h4, h5, h6⟩ | h4⟩ := hv
      · obtain ⟨h7, h8⟩ := at_ h4
        refine ⟨h3, .inl ⟨n, h7, h5, fun e => ?_⟩⟩
        have := h6 e
        unfold place at *
        rw [h8]
        exact this
      · exact ⟨h3, .inr (at_ h4).1⟩
    | ptr k off =>
      obtain ⟨b, c, h3, ⟨cs, h4⟩, h5⟩ := hv
      obtain ⟨h7, h8⟩ := at_ h4
      exact ⟨b, c, h8.trans h3, ⟨_, h7⟩, h5⟩
    | clo f ps =>
      obtain ⟨cap, h3, h4, h5⟩ := hv
      refine ⟨cap, h3, by simpa using h4, fun j p hj => ?_⟩
      rw [List.getElem?_map] at hj
      obtain ⟨q, hq, rfl⟩ := Option.map_eq_some_iff.1 hj
      obtain ⟨b, c, h6, ⟨cs, h7⟩, h8⟩ := h5 j q hq
      obtain ⟨h9, h10⟩ := at_ h7
      exact ⟨b, c, h10.trans h6, ⟨_, h9⟩, h8⟩
    | itr k =>
      obtain ⟨b, c, h3, ⟨r, h4⟩, h5⟩ := hv
      obtain ⟨h7, h8⟩ := at_ h4
      exact ⟨b, c, h8.trans h3, ⟨_, h7⟩, h5⟩
    | nsp k =>
      obtain ⟨⟨cs, h4⟩, h5⟩ := hv
      obtain ⟨h7, h8⟩ := at_ h4
      exact ⟨⟨_, h7⟩, h5.imp (fun h => h) fun ⟨b, c, h6, h9⟩ => ⟨b, c, h8.trans h6, h9⟩⟩
    | e x => exact hv
    | nils et => exact hv
    | nilp => exact hv
    | pin et y off => exact hv
    | fn f => exact hv
    | undef => trivial
    | agg cs => exact hv.elim
    | tup vs => exact hv.elim
  -- where an object comes from
  have from_ : ∀ {i : Nat} {q : Ob}, (backTo ids σ1' σ)[i]? = some q → (∃ k o, i = renum ids σ.length k ∧ σ1'[k]? = some o ∧ q = o.ren (renum ids σ.length) ∧ (backGr ids ρ1' ρ)[i]? = ρ1'[k]?) ∨
      (i ∉ ids ∧ σ[i]? = some q ∧ (backGr ids ρ1' ρ)[i]? = ρ[i]?) := fun {i q} hq => by
    rcases back_from (by rw [← h1]; exact hlen) (List.getElem?_eq_some_iff.1 hq).1 with ⟨k, hk, rfl⟩ | ⟨hi, hlt⟩
    · obtain ⟨h3, h4⟩ := at_ (List.getElem?_eq_getElem hk)
      rw [hq] at h3; injection h3 with h3
      exact .inl ⟨k, _, rfl, List.getElem?_eq_getElem hk, h3, h4⟩
    · obtain ⟨h3, h4⟩ := back_other (σ1' := σ1') (ρ1' := ρ1') hr.len hi hlt
      exact .inr ⟨hi, h3.symm.trans hq, h4⟩
  have hother : ∀ {id b c : Nat}, ρ[id]? = some (some (b, c)) → id ∉ ids → w'.heap[b]? = w.heap[b]? := fun {id b c} h hi => he.old b (hr.lt id b c h) (hout id b c h hi)
  refine ⟨⟨by rw [back_len, backGr_len, hr.len, hr'.len], ?_, ?_, ?_, ?_, ?_, ?_, hr'.cells, hr.glob.mono hext⟩, hext, hval⟩
  · intro id cs hbx
    rcases from_ hbx with ⟨k, o, rfl, ho, hq, hg⟩ | ⟨hi, ho, hg⟩
    · obtain ⟨ds, rfl, rfl⟩ := ren_box hq
      obtain ⟨b, c, arr, T, h3, h4, h5, h6, h7⟩ := hr'.box _ ds ho
      refine ⟨b, c, arr, T, hg.trans h3, h4, by simpa using h5, ?_, h7⟩
      intro j v hj
      rw [List.getElem?_map] at hj
      obtain ⟨u, hu, rfl⟩ := Option.map_eq_some_iff.1 hj
      obtain ⟨ho, x, h8, h9⟩ := h6 j u hu
      exact ⟨ren1_one _ ho, x, h8, hval u x h9⟩
    · obtain ⟨b, c, arr, T, h3, h4, h5, h6, h7⟩ := hr.box _ _ ho
      refine ⟨b, c, arr, T, hg.trans h3, (hother h3 hi).trans h4, h5, ?_, fun o hs' => h7 o (hnewS id b c h3 hi o hs')⟩
      intro j v hj
      obtain ⟨ho, x, h8, h9⟩ := h6 j v hj
      exact ⟨ho, x, h8, h9.mono hext⟩
  · intro id et n b c hbx hgr
    rcases from_ hbx with ⟨k, o, rfl, ho, hq, hg⟩ | ⟨hi, ho, hg⟩
    · have := ren_vec hq; subst this
      exact hr'.vec _ _ _ _ _ ho (hg.symm.trans hgr)
    · have h3 := hg.symm.trans hgr
      obtain ⟨arr, T, fs, h4, h5, h6, h7, h8⟩ := hr.vec _ _ _ _ _ ho h3
      exact ⟨arr, T, fs, (hother h3 hi).trans h4, h5, h6, h7, fun o hs' => h8 o (hnewS id b c h3 hi o hs')⟩
  · intro id r hbx
    rcases from_ hbx with ⟨k, o, rfl, ho, hq, hg⟩ | ⟨hi, ho, hg⟩
    · have := ren_raw hq; subst this
      obtain ⟨b, c, ob, h3, h4⟩ := hr'.raw _ _ ho
      exact ⟨b, c, ob, hg.trans h3, h4⟩
    · obtain ⟨b, c, ob, h3, h4, h5, h6⟩ := hr.raw _ _ ho
      exact ⟨b, c, ob, hg.trans h3, (hother h3 hi).trans h4, h5, fun o hs' => h6 o (hnewS id b c h3 hi o hs')⟩
  · intro id hbx
    rcases from_ hbx with ⟨k, o, rfl, ho, hq, hg⟩ | ⟨hi, ho, hg⟩
    · have := ren_hole hq; subst this
      exact hg.trans (hr'.hole _ ho)
    · exact hg.trans (hr.hole _ ho)
  · intro id b c hgr
    have hlt : id < (backTo ids σ1' σ).length := by
      have := (List.getElem?_eq_some_iff.1 hgr).1
      rw [backGr_len] at this
      rw [back_len, ← hr'.len, ← hr.len]; exact this
    rcases from_ (List.getElem?_eq_getElem hlt) with ⟨k, o, rfl, ho, hq, hg⟩ | ⟨hi, ho, hg⟩
    · exact hr'.lt _ _ _ (hg.symm.trans hgr)
    · exact Nat.lt_of_lt_of_le (hr.lt _ _ _ (hg.symm.trans hgr)) he.size
  · intro i j b c c' hi hj
    have hlt : ∀ {i : Nat} {g : Option (Nat × Nat)}, (backGr ids ρ1' ρ)[i]? = some g → i < (backTo ids σ1' σ).length := fun {i g} h => by
      have := (List.getElem?_eq_some_iff.1 h).1
      rw [backGr_len] at this
      rw [back_len, ← hr'.len, ← hr.len]; exact this
    have key : ∀ {k i b c c' : Nat}, ρ1'[k]? = some (some (b, c)) → i ∉ ids → ρ[i]? = some (some (b, c')) → False := fun {k i b c c'} h h3 h4 => by
      rcases he.fresh _ _ _ h with h5 | ⟨q, c2, h5⟩
      · have := hr.lt i b c' h4; omega
      · exact hout i b c' h4 h3 q c2 h5
    rcases from_ (List.getElem?_eq_getElem (hlt hi)) with ⟨k, o, rfl, ho, hq, hg⟩ | ⟨hi1, ho, hg⟩ <;> rcases from_ (List.getElem?_eq_getElem (hlt hj)) with ⟨k', o', rfl, ho', hq', hg'⟩ | ⟨hj1, ho', hg'⟩
    · have := hr'.inj _ _ _ _ _ (hg.symm.trans hi) (hg'.symm.trans hj)
      rw [this]
    · exact (key (hg.symm.trans hi) hj1 (hg'.symm.trans hj)).elim
    · exact (key (hg'.symm.trans hj) hi1 (hg.symm.trans hi)).elim
    · exact hr.inj _ _ _ _ _ (hg.symm.trans hi) (hg'.symm.trans hj)

end
end Go.Den
