/- Code, loops and whole functions. -/
import Derived.Test.YtdlfldeacoiokaaDen18
import Derived.LoopN
import Derived.Laws.Sem
namespace Go.Den
open Go

section
variable {P : Program} {σ σ' : Heap} {ρ : Gr} {S : Cells} {w : World} {fr : Fr} {a : Act} {o : Oper}

/-! ### A loop's head: what is kept -/

theorem tidy_ok {m : Nat} {live : List Nat} {fr1 : Fr} {σ1 σ0 : Heap} {ρ0 : Gr} {S0 : Cells} {w0 : World} {tm : Array Value} (h : tidy m live fr σ = some (fr1, σ1)) (hm : σ0.length ≤ m) (hr : Rel P σ ρ S w)
    (he : Ext σ0 ρ0 S0 w0 σ ρ S w) (hf : FR P σ ρ S w fr tm) : ∃ ρ1, Rel P σ1 ρ1 S w ∧ Ext σ0 ρ0 S0 w0 σ1 ρ1 S w ∧ FR P σ1 ρ1 S w fr1 tm := by
  unfold tidy at h
  simp only [Option.map_eq_some_iff] at h
  obtain ⟨σ2, hs, h⟩ := h
  injection h with h1 h2
  subst h1; subst h2
  generalize hfr1 : (fr.zipIdx.map fun (p : AV × Nat) => if live.contains p.2 then p.1 else AV.undef) = fr1 at hs ⊢
  generalize hids : closure σ 6 (addNew (List.range m) (fr1.flatMap AV.ids3)) = ids at hs ⊢
  have hn : ids.Nodup := by rw [← hids]; exact closure_nodup _ _ _ (addNew_nodup _ _ List.nodup_range)
  have hpre : ∀ k, k < m → ids[k]? = some k := fun k hk => by
    obtain ⟨t, ht⟩ := addNew_prefix (fr1.flatMap AV.ids3) (List.range m)
    obtain ⟨t', ht'⟩ := closure_prefix σ 6 (addNew (List.range m) (fr1.flatMap AV.ids3))
    rw [← hids, ht', ht, List.append_assoc, List.getElem?_append_left (by simpa using hk), List.getElem?_range hk]
  have hmem : ∀ x ∈ fr1.flatMap AV.ids3, x ∈ ids := fun x hx => by
    rw [← hids]; exact closure_mem _ _ _ _ (addNew_mem _ _ _ hx)
  obtain ⟨h1, h2⟩ := subHeap_spec hs
  have hf1 : FR P σ ρ S w fr1 tm := by
    refine ⟨by rw [← hfr1]; simp [hf.1], fun t v ht => ?_⟩
    rw [← hfr1, List.getElem?_map, List.getElem?_zipIdx] at ht
    cases hv : fr[t]? with
    | none => rw [hv] at ht; cases ht
    | some u =>
      rw [hv] at ht
      obtain ⟨cv, h3, h4⟩ := hf.2 t u hv
      refine ⟨cv, h3, ?_⟩
      simp at ht
      split at ht
      · subst ht; exact h4
      · subst ht; exact VA3_undef
  refine ⟨subGr ρ ids, hr.sub hn hs, ?_, ?_⟩
  · refine ⟨he.cell, ?_, ?_, he.old, ?_, he.newS, he.size, he.os, he.tape, he.output⟩
    · intro id cs hb
      obtain ⟨⟨cs', h3⟩, h4⟩ := he.box id cs hb
      have hk := hpre id (Nat.lt_of_lt_of_le (List.getElem?_eq_some_iff.1 hb).1 hm)
      obtain ⟨o, ho, _, ho'⟩ := h2 _ _ hk
      rw [h3] at ho; injection ho with ho; subst ho
      refine ⟨⟨_, ho'⟩, ?_⟩
      rw [subGr_get hk (by rw [hr.len]; exact (List.getElem?_eq_some_iff.1 h3).1), h4]
    · intro id et n hb
      obtain ⟨n', l, h3, h4⟩ := he.vec id et n hb
      have hk := hpre id (Nat.lt_of_lt_of_le (List.getElem?_eq_some_iff.1 hb).1 hm)
      obtain ⟨o, ho, _, ho'⟩ := h2 _ _ hk
      rw [h3] at ho; injection ho with ho; subst ho
      refine ⟨n', l, ho', fun e => ?_⟩
      rw [subGr_get hk (by rw [hr.len]; exact (List.getElem?_eq_some_iff.1 h3).1), h4 e]
    · intro id b c hg
      obtain ⟨id', _, h4⟩ := subGr_back hg
      exact he.fresh id' b c h4
  · refine ⟨by simpa using hf1.1, fun t v ht => ?_⟩
    rw [List.getElem?_map] at ht
    obtain ⟨u, hu, rfl⟩ := Option.map_eq_some_iff.1 ht
    obtain ⟨cv, h3, h4⟩ := hf1.2 t u hu
    exact ⟨cv, h3, h4.sub hr.len hs fun x hx => hmem x (List.mem_flatMap.2 ⟨u, List.mem_of_getElem? hu, hx⟩)⟩

/-! ### Code -/

def ExR (P : Program) (S : Cells) (w : World) : Ex → Exit → Prop
  | .norm, e => e = .normal
  | .exit i, e => e = .exit i
  | .ret, e => e = .ret
  | .pan x, e => ∃ cv, e = .panic [{ v := cv, recovered := false }] ∧ VE P w S x cv

/-- What a piece of code came to. -/
def OutPost (P : Program) (out : Out) (σ0 : Heap) (ρ0 : Gr) (S0 : Cells) (w0 : World) (e : Exit) (a : Act) (w : World) : Prop :=
  a.defers = [] ∧ ∃ ρ S, Rel P out.hp ρ S w ∧ Ext σ0 ρ0 S0 w0 out.hp ρ S w ∧ FR P out.hp ρ S w out.fr a.tmps ∧ ExR P S w out.ex e

def LoopOk (P : Program) (m : Nat) (loop : Code → Fr → Heap → Option Out) (n : Nat) : Prop :=
  ∀ (b : Code) (fr : Fr) (σ : Heap) (out : Out), loop b fr σ = some out → ∀ (σ0 : Heap) (ρ0 : Gr) (S0 : Cells) (w0 : World), σ0.length = m → ∀ (ρ : Gr) (S : Cells) (w : World) (a : Act),
    Rel P σ ρ S w → Ext σ0 ρ0 S0 w0 σ ρ S w → FR P σ ρ S w fr a.tmps → a.defers = [] → Code.rounds P b (OutPost P out σ0 ρ0 S0 w0) n a w
end

section
variable {R : Type} {C : Ctx} {σ0 : Heap} {ρ0 : Gr} {S0 : Cells} {w0 : World} {n : Nat}

theorem denCode_ok (hm : C.P.follows .mixedOrders = true) (hrun : RunOk C.P C.run) (hloop : LoopOk C.P C.m C.loop n) (h0 : σ0.length = C.m) : ∀ (c : Code) (fr : Fr) (σ : Heap) (K : Out → Option R) (r : R) (Q : Exit → Act → World → Prop),
    denCode C c fr σ K = some r → ∀ (ρ : Gr) (S : Cells) (w : World) (a : Act), Rel C.P σ ρ S w → Ext σ0 ρ0 S0 w0 σ ρ S w → FR C.P σ ρ S w fr a.tmps → a.defers = [] →
    (∀ (out : Out) (e : Exit) (a' : Act) (w' : World), OutPost C.P out σ0 ρ0 S0 w0 e a' w' → K out = some r → Q e a' w') → c.wp C.P Q a w := by
  intro c
  induction c with
  | skip =>
    intro fr σ K r Q h ρ S w a hr he hf hd hK
    exact wp_skip (hK ⟨.norm, fr, σ⟩ .normal a w ⟨hd, ρ, S, hr, he, hf, rfl⟩ h)
  | label l =>
    intro fr σ K r Q h ρ S w a hr he hf hd hK
    exact wp_label (hK ⟨.norm, fr, σ⟩ .normal a w ⟨hd, ρ, S, hr, he, hf, rfl⟩ h)
  | region id ops draw =>
    intro fr σ K r Q h ρ S w a hr he hf hd hK
    unfold denCode at h
    cases draw with
    | true =>
      rw [if_pos rfl] at h
      simp only at h
      split at h
      · rename_i ho
        rw [Bool.and_eq_true] at ho
        refine still_ok hm hrun ho.1 ho.2 h hr hf hd ?_ ?_
        · intro fr' σ' ρ' S' w' a' k1 k2 k3 k4 k5
          exact hK ⟨.norm, fr', σ'⟩ .normal a' w' ⟨k1, ρ', S', k2, he.trans k3, k4, rfl⟩ k5
        · intro x fr' σ' ρ' S' w' a' cv k1 k2 k3 k4 k5 k6
          exact hK ⟨.pan x, fr', σ'⟩ _ a' w' ⟨k1, ρ', S', k2, he.trans k3, k4, cv, rfl, k5⟩ k6
      · cases h
    | false =>
      rw [if_neg (by simp)] at h
      refine wp_region_list (denOps_ok hrun _ _ fr σ _ _ r h ρ S w a hr hf hd ?_ ?_)
      · intro fr' σ' ρ' S' w' a' k1 k2 k3 k4 k5
        exact hK ⟨.norm, fr', σ'⟩ .normal a' w' ⟨k1, ρ', S', k2, he.trans k3, k4, rfl⟩ k5
      · intro x fr' σ' ρ' S' w' a' cv k1 k2 k3 k4 k5 k6
        exact hK ⟨.pan x, fr', σ'⟩ _ a' w' ⟨k1, ρ', S', k2, he.trans k3, k4, cv, rfl, k5⟩ k6
  | seq x y ihx ihy =>
    intro fr σ K r Q h ρ S w a hr he hf hd hK
    unfold denCode at h
    refine wp_seq (ihx fr σ _ r _ h ρ S w a hr he hf hd ?_)
    rintro ⟨ex, fr', σ'⟩ e a' w' hout hk
    obtain ⟨k1, ρ', S', k2, k3, k4, k5⟩ := id hout
    cases ex with
    | norm =>
      have : e = .normal := k5
      subst this
      exact ihy fr' σ' K r Q hk ρ' S' w' a' k2 k3 k4 k1 hK
    | exit i => have : e = .exit i := k5; subst this; exact hK _ _ a' w' hout hk
    | ret => have : e = .ret := k5; subst this; exact hK _ _ a' w' hout hk
    | pan x => obtain ⟨cv, rfl, _⟩ := k5; exact hK _ _ a' w' hout hk
  | cond c x y ihx ihy =>
    intro fr σ K r Q h ρ S w a hr he hf hd hK
    unfold denCode at h
    split at h
    · rename_i b hb
      have hv := VA3_bool (evalO_ok hf hb)
      cases b with
      | true => exact wp_cond_true hv (ihx fr σ K r Q h ρ S w a hr he hf hd hK)
      | false => exact wp_cond_false hv (ihy fr σ K r Q h ρ S w a hr he hf hd hK)
    · cases h
  | block i b ih =>
    intro fr σ K r Q h ρ S w a hr he hf hd hK
    unfold denCode at h
    refine wp_block (ih fr σ _ r _ h ρ S w a hr he hf hd ?_)
    rintro ⟨ex, fr', σ'⟩ e a' w' hout hk
    obtain ⟨k1, ρ', S', k2, k3, k4, k5⟩ := id hout
    cases ex with
    | norm => have : e = .normal := k5; subst this; exact hK _ _ a' w' hout hk
    | ret => have : e = .ret := k5; subst this; exact hK _ _ a' w' hout hk
    | pan x => obtain ⟨cv, rfl, _⟩ := k5; exact hK _ _ a' w' hout hk
    | exit j =>
      have : e = .exit j := k5
      subst this
      simp only [Exit.inBlock]
      simp only at hk
      split
      · rename_i hj
        rw [if_pos hj] at hk
        exact hK ⟨.norm, fr', σ'⟩ .normal a' w' ⟨k1, ρ', S', k2, k3, k4, rfl⟩ hk
      · rename_i hj
        rw [if_neg hj] at hk
        exact hK _ _ a' w' hout hk
  | loop b _ =>
    intro fr σ K r Q h ρ S w a hr he hf hd hK
    unfold denCode at h
    split at h
    · rename_i i hi
      split at h
      · rename_i fr1 σ1 ht
        obtain ⟨out, hout, hk⟩ := Option.bind_eq_some_iff.1 h
        obtain ⟨ρ1, k1, k2, k3⟩ := tidy_ok ht (Nat.le_of_eq h0) hr he hf
        refine wp_mono (wp_loop_rounds n (hloop b fr1 σ1 out hout σ0 ρ0 S0 w0 h0 ρ1 S w a k1 k2 k3 hd)) fun e a' w' ho => hK out e a' w' ho hk
      · cases h
    · cases h
  | exit i =>
    intro fr σ K r Q h ρ S w a hr he hf hd hK
    exact wp_exit (hK ⟨.exit i, fr, σ⟩ (.exit i) a w ⟨hd, ρ, S, hr, he, hf, rfl⟩ h)
  | ret =>
    intro fr σ K r Q h ρ S w a hr he hf hd hK
    exact wp_ret (hK ⟨.ret, fr, σ⟩ .ret a w ⟨hd, ρ, S, hr, he, hf, rfl⟩ h)
  | _ => intro fr σ K r Q h; cases h

theorem round_ok (hm : C.P.follows .mixedOrders = true) (hrun : RunOk C.P C.run) (hloop : LoopOk C.P C.m C.loop n) (h0 : σ0.length = C.m) {b : Code} {fr : Fr} {σ : Heap} {out : Out}
    (h : round C b fr σ = some out) {ρ : Gr} {S : Cells} {w : World} {a : Act} (hr : Rel C.P σ ρ S w) (he : Ext σ0 ρ0 S0 w0 σ ρ S w) (hf : FR C.P σ ρ S w fr a.tmps) (hd : a.defers = []) :
    Code.rounds C.P b (OutPost C.P out σ0 ρ0 S0 w0) (n + 1) a w := by
  rw [rounds_succ]
  unfold round at h
  refine denCode_ok hm hrun hloop h0 b fr σ _ out _ h ρ S w a hr he hf hd ?_
  rintro ⟨ex, fr', σ'⟩ e a' w' hout hk
  obtain ⟨k1, ρ', S', k2, k3, k4, k5⟩ := id hout
  cases ex with
  | norm =>
    have : e = .normal := k5
    subst this
    simp only at hk
    split at hk
    · split at hk
      · rename_i fr1 σ1 ht
        obtain ⟨ρ1, m1, m2, m3⟩ := tidy_ok ht (Nat.le_of_eq h0) k2 k3 k4
        exact hloop b fr1 σ1 out hk σ0 ρ0 S0 w0 h0 ρ1 S' w' a' m1 m2 m3 k1
      · cases hk
    · cases hk
  | exit i => have : e = .exit i := k5; subst this; injection hk with hk; subst hk; exact hout
  | ret => have : e = .ret := k5; subst this; injection hk with hk; subst hk; exact hout
  | pan x => obtain ⟨cv, rfl, _⟩ := id k5; injection hk with hk; subst hk; exact hout
end

/-! ### The end of a call -/

section
variable {P : Program} {σ : Heap} {ρ : Gr} {S : Cells} {w : World} {fr : Fr} {a : Act} {m : Nat}

theorem take_get {α : Type} {l : List α} {m i : Nat} (h : i < m) : (l.take m)[i]? = l[i]? := by
  rw [List.getElem?_take, if_pos h]
theorem take_back {α : Type} {l : List α} {m i : Nat} {x : α} (h : (l.take m)[i]? = some x) : i < m ∧ l[i]? = some x := by
  rw [List.getElem?_take] at h
  split at h
  · exact ⟨by assumption, h⟩
  · cases h

theorem VA1.take {v : AV} {cv : Value} (h : VA1 P σ ρ S w v cv) (hb : below m v.ids1 = true) : VA1 P (σ.take m) (ρ.take m) S w v cv := by
  cases v with
  | own id et xs =>
    have hi : id < m := by simpa [below, AV.ids1] using hb
    obtain ⟨h1, n, h2, h3, h4⟩ := h
    refine ⟨h1, n, by rw [take_get hi]; exact h2, h3, fun e => ?_⟩
    have := h4 e
    unfold place at *
    rw [take_get hi]; exact this
  | ptr id off =>
    have hi : id < m := by simpa [below, AV.ids1] using hb
    obtain ⟨b, c, h1, ⟨cs, h2⟩, h3⟩ := h
    exact ⟨b, c, by rw [take_get hi]; exact h1, ⟨cs, by rw [take_get hi]; exact h2⟩, h3⟩
  | e x => exact h
  | nils et => exact h
  | nilp => exact h
  | pin et y off => exact h
  | fn f => exact h
  | undef => trivial
  | agg cs => exact h.elim
  | tup vs => exact h.elim

theorem below_spec {ids : List Nat} : below m ids = true ↔ ∀ x ∈ ids, x < m := by simp [below]

theorem ren1_id (v : AV) : v.ren1 (fun x => x) = v := by cases v <;> rfl

theorem VA2.take {v : AV} {cv : Value} (h : VA2 P σ ρ S w v cv) (hb : below m v.ids2 = true) : VA2 P (σ.take m) (ρ.take m) S w v cv := by
  have := lift2 (r := fun x => x) (G := fun x => x < m) (fun v cv h h' => by rw [ren1_id]; exact VA1.take h (below_spec.2 h')) h (below_spec.1 hb)
  have he : v.ren2 (fun x => x) = v := by
    cases v <;> simp [AV.ren2, AV.ren1]
    rename_i cs
    conv => rhs; rw [← List.map_id cs]
    exact List.map_congr_left fun v _ => ren1_id v
  rw [he] at this
  exact this

theorem Rel.take (hr : Rel P σ ρ S w) (hb : (σ.take m).all (fun ob => below m ob.ids) = true) : Rel P (σ.take m) (ρ.take m) S w := by
  refine ⟨by simp [hr.len], ?_, ?_, ?_, hr.cells⟩
  · intro id cs h
    obtain ⟨hi, h'⟩ := take_back h
    obtain ⟨b, c, arr, T, h1, h2, h3, h4, h5⟩ := hr.box id cs h'
    refine ⟨b, c, arr, T, by rw [take_get hi]; exact h1, h2, h3, fun j v hj => ?_, h5⟩
    obtain ⟨k1, x, k2, k3⟩ := h4 j v hj
    refine ⟨k1, x, k2, k3.take (below_spec.2 fun y hy => ?_)⟩
    exact below_spec.1 (List.all_eq_true.1 hb _ (List.mem_of_getElem? h)) y (List.mem_flatMap.2 ⟨v, List.mem_of_getElem? hj, hy⟩)
  · intro id et n b c h h'
    obtain ⟨hi, h1⟩ := take_back h
    rw [take_get hi] at h'
    exact hr.vec id et n b c h1 h'
  · intro i j b c c' h h'
    exact hr.inj i j b c c' (take_back h).2 (take_back h').2

theorem Ext.take {σ0 : Heap} {ρ0 : Gr} {S0 : Cells} {w0 : World} (he : Ext σ0 ρ0 S0 w0 σ ρ S w) (h0 : σ0.length = m) : Ext σ0 ρ0 S0 w0 (σ.take m) (ρ.take m) S w := by
  refine ⟨he.cell, ?_, ?_, he.old, fun id b c h => he.fresh id b c (take_back h).2, he.newS, he.size, he.os, he.tape, he.output⟩
  · intro id cs hb
    have hi : id < m := by rw [← h0]; exact (List.getElem?_eq_some_iff.1 hb).1
    rw [take_get hi, take_get hi]
    exact he.box id cs hb
  · intro id et n hb
    have hi : id < m := by rw [← h0]; exact (List.getElem?_eq_some_iff.1 hb).1
    rw [take_get hi, take_get hi]
    exact he.vec id et n hb

theorem loadVar_ok (hr : Rel P σ ρ S w) {t : TypeId} {id off n b c : Nat} {cs : List AV} {v : AV} (hid : ρ[id]? = some (some (b, c))) (hb : σ[id]? = some (.box cs)) (hs : sizeB P t = some n) (hl : off + n ≤ cs.length)
    (hv : (if isAggB P t then some (.agg ((cs.drop off).take n)) else if n = 1 then cs[off]? else none) = some v) :
    ∃ cv, (loadVar t ⟨b, off, none⟩).run P w = .ok cv w ∧ VA2 P σ ρ S w v cv := by
  have h1 := run_isAgg (w := w) hs
  have h2 := run_sizeOf (w := w) hs
  by_cases ha : isAggB P t = true
  · rw [if_pos ha] at hv
    injection hv with hv; subst hv
    have hlen : ((cs.drop off).take n).length = n := by simp; omega
    have hg : ∀ (j : Nat) (v : AV), ((cs.drop off).take n)[j]? = some v → cs[off + j]? = some v := by
      intro j v hj
      rw [List.getElem?_take] at hj
      split at hj
      · rwa [List.getElem?_drop] at hj
      · cases hj
    have hcell : ∀ (j : Nat) (v : AV), ((cs.drop off).take n)[j]? = some v → v.one = true ∧ ∃ y, w.cell? ⟨b, off + j, none⟩ = some y ∧ VA1 P σ ρ S w v y := fun j v hj => box_cell hr hb hid (hg j v hj)
    have h3 := run_loadCells_list (P := P) w ⟨b, off, none⟩ ((List.range n).map (fun j => (w.cell? ⟨b, off + j, none⟩).getD undef)) (fun j v hj => by
      obtain ⟨hj, rfl⟩ := map_range_get hj
      obtain ⟨_, y, hy, _⟩ := hcell j _ (List.getElem?_eq_getElem (by omega))
      rw [add_at, hy]; rfl)
    rw [show ((List.range n).map (fun j => (w.cell? ⟨b, off + j, none⟩).getD undef)).length = n by simp] at h3
    refine ⟨.agg ((List.range n).map (fun j => (w.cell? ⟨b, off + j, none⟩).getD undef)).toArray, by simp only [loadVar, Sem.run_bind, Sem.run_pure, Result.andThen_ok, h1, ha, if_true, h2, h3], _, rfl, by rw [hlen]; simp, ?_⟩
    intro j v hj
    obtain ⟨h1, y, hy, h2⟩ := hcell j v hj
    have hjn : j < n := by rw [← hlen]; exact (List.getElem?_eq_some_iff.1 hj).1
    refine ⟨h1, y, ?_, h2⟩
    rw [List.getElem?_toArray, map_range_put _ hjn, hy]; rfl
  · rw [if_neg ha] at hv
    split at hv
    · obtain ⟨h3, y, hy, h4⟩ := box_cell hr hb hid hv
      exact ⟨y, by simp only [loadVar, Sem.run_bind, Result.andThen_ok, h1, ha, Bool.false_eq_true, if_false, run_load, hy], h4.to2⟩
    · cases hv

def readVar (tmps : Array Value) : ResultVar → Sem Value
  | .tmp t => pure (tmps.getD t undef)
  | .cell a t => do loadVar t (← asAddr (tmps.getD a undef))

theorem readRes_ok (hr : Rel P σ ρ S w) (hf : FR P σ ρ S w fr a.tmps) {x : ResultVar} {v : AV} (h : readRes fr σ P x = some v) : ∃ cv, (readVar a.tmps x).run P w = .ok cv w ∧ VA3 P σ ρ S w v cv := by
  unfold readRes at h
  cases x with
  | tmp t =>
    obtain ⟨cv, h1, h2⟩ := hf.get h
    exact ⟨cv, by simp [readVar, go_sem, h1], h2⟩
  | cell p t =>
    simp only at h
    split at h
    · rename_i id off n hp hs
      split at h
      · rename_i cs hb
        by_cases hl : off + n ≤ cs.length
        · rw [if_pos hl] at h
          obtain ⟨cv, h1, h2⟩ := hf.get hp
          obtain ⟨b, c, hid, _, rfl⟩ : VA1 P σ ρ S w (.ptr id off) cv := h2
          obtain ⟨u, h3, h4⟩ := loadVar_ok hr hid hb hs hl h
          refine ⟨u, ?_, h4.to3⟩
          unfold readVar
          simp only [Sem.run_bind, Array.getD_eq_getD_getElem?, h1, Option.getD_some, asAddr, Sem.run_pure, Result.andThen_ok, h3]
        · rw [if_neg hl] at h; cases h
      · cases h
    · cases h

theorem run_mapM {α : Type} {f : α → Sem Value} : ∀ (l : List α) (vs : List Value), vs.length = l.length → (∀ (i : Nat) (x : α) (v : Value), l[i]? = some x → vs[i]? = some v → (f x).run P w = .ok v w) → (l.mapM f).run P w = .ok vs w
  | [], [], _, _ => rfl
  | x :: l, v :: vs, hl, h => by
    rw [List.mapM_cons, Sem.run_bind, h 0 x v rfl rfl, Result.andThen_ok, Sem.run_bind, run_mapM l vs (by simpa using hl) (fun i x v h1 h2 => h (i + 1) x v (by simpa using h1) (by simpa using h2))]
    rfl
  | [], _ :: _, hl, _ => by simp at hl
  | _ :: _, [], hl, _ => by simp at hl

theorem run_results {fn : Func} {tmps : Array Value} {vs : List Value} (hl : vs.length = fn.results.toList.length) (h : ∀ (i : Nat) (x : ResultVar) (v : Value), fn.results.toList[i]? = some x → vs[i]? = some v → (readVar tmps x).run P w = .ok v w) :
    (results fn tmps).run P w = .ok (if h : vs.toArray.size = 1 then vs.toArray[0] else .tuple vs.toArray) w := by
  have := run_mapM (P := P) (w := w) fn.results.toList vs hl h
  have he : results fn tmps = (do let vs ← fn.results.mapM (readVar tmps); pure (if h : vs.size = 1 then vs[0] else .tuple vs)) := rfl
  rw [he, Sem.run_bind, Array.mapM_eq_mapM_toList, Sem.run_map, this]
  simp [go_sem]

theorem finish_ok {fn : Func} {out : Out} {r : Res} {σ' σ0 : Heap} {ρ0 : Gr} {S0 : Cells} {w0 : World} {e : Exit} (h : finish P fn σ0.length out = some (r, σ')) (ho : OutPost P out σ0 ρ0 S0 w0 e a w) :
    bodyPost P fn (RunPost P r σ' σ0 ρ0 S0 w0) e a w := by
  obtain ⟨hd, ρ, S, hr, he, hf, hx⟩ := ho
  unfold finish at h
  simp only at h
  split at h
  · rename_i hc
    have hr' := hr.take hc.2
    have he' := he.take rfl
    have hval : (e = .normal ∨ e = .ret) → (match fn.results.toList.mapM (readRes out.fr out.hp P) with
        | some [v] => if below σ0.length v.calm.ids2 = true then some (Res.ret v.calm, out.hp.take σ0.length) else none
        | some vs => if below σ0.length (AV.tup (vs.map AV.calm)).ids3 = true then some (.ret (AV.tup (vs.map AV.calm)), out.hp.take σ0.length) else none
        | none => none) = some (r, σ') → bodyPost P fn (RunPost P r σ' σ0 ρ0 S0 w0) e a w := by
      intro hex h
      suffices hsuf : ∃ v, (results fn a.tmps).run P w = .ok v w ∧ RunPost P r σ' σ0 ρ0 S0 w0 (.returned v) w by
        rcases hex with rfl | rfl
        · exact ⟨hd, hsuf⟩
        · exact ⟨hd, hsuf⟩
      have hrd : ∀ (vs : List AV), fn.results.toList.mapM (readRes out.fr out.hp P) = some vs → ∃ cvs : List Value, cvs.length = vs.length ∧ vs.length = fn.results.toList.length ∧
          (∀ (i : Nat) (v : AV), vs[i]? = some v → ∃ cv, cvs[i]? = some cv ∧ VA3 P out.hp ρ S w v cv) ∧ (results fn a.tmps).run P w = .ok (if h : cvs.toArray.size = 1 then cvs.toArray[0] else .tuple cvs.toArray) w := by
        intro vs hvs
        obtain ⟨h1, h2⟩ := mapM_some_get hvs
        have hex : ∀ i, i < vs.length → ∃ cv, (∃ x, fn.results.toList[i]? = some x ∧ (readVar a.tmps x).run P w = .ok cv w) ∧ ∃ v, vs[i]? = some v ∧ VA3 P out.hp ρ S w v cv := fun i hi => by
          have hi' : i < fn.results.toList.length := by omega
          obtain ⟨v, h3, h4⟩ := h2 i _ (List.getElem?_eq_getElem hi')
          obtain ⟨cv, h5, h6⟩ := readRes_ok hr hf h3
          exact ⟨cv, ⟨_, List.getElem?_eq_getElem hi', h5⟩, v, h4, h6⟩
        let g : Nat → Value := fun i => if hi : i < vs.length then (hex i hi).choose else undef
        have hg : ∀ i (hi : i < vs.length), (∃ x, fn.results.toList[i]? = some x ∧ (readVar a.tmps x).run P w = .ok (g i) w) ∧ ∃ v, vs[i]? = some v ∧ VA3 P out.hp ρ S w v (g i) := fun i hi => by
          have : g i = (hex i hi).choose := by simp [g, hi]
          rw [this]; exact (hex i hi).choose_spec
        refine ⟨(List.range vs.length).map g, by simp, h1, fun i v hi => ?_, ?_⟩
        · have hl := (List.getElem?_eq_some_iff.1 hi).1
          obtain ⟨_, u, h3, h4⟩ := hg i hl
          rw [hi] at h3; injection h3 with h3; subst h3
          exact ⟨g i, map_range_put _ hl, h4⟩
        · refine run_results (by simpa using h1) fun i x v hi hv => ?_
          obtain ⟨hl, rfl⟩ := map_range_get hv
          obtain ⟨⟨x', h3, h4⟩, _⟩ := hg i hl
          rw [hi] at h3; injection h3 with h3; subst h3
          exact h4
      split at h
      · rename_i v hvs
        obtain ⟨cvs, h1, h2, h3, h4⟩ := hrd _ hvs
        obtain ⟨cv, h5, h6⟩ := h3 0 v rfl
        have hcv : cvs = [cv] := by
          match cvs, h1, h5 with
          | [c], _, h5 => simp at h5; rw [h5]
        subst hcv
        split at h
        · rename_i hb
          injection h with h; injection h with h7 h8
          subst h7; subst h8
          exact ⟨cv, by simpa using h4, ρ.take σ0.length, S, hr', he', cv, rfl, ((calm_ok h6).take hb).to3⟩
        · cases h
      · rename_i vs hne hvs
        obtain ⟨cvs, h1, h2, h3, h4⟩ := hrd _ hvs
        split at h
        · rename_i hb
          injection h with h; injection h with h7 h8
          subst h7; subst h8
          refine ⟨_, h4, ρ.take σ0.length, S, hr', he', .tuple cvs.toArray, ?_, cvs.toArray, rfl, by simp [h1], ?_⟩
          · rw [dif_neg]
            intro hs
            have hl : vs.length = 1 := by rw [← h1]; simpa using hs
            match vs, hl with
            | [v], _ => exact hne v rfl
          · intro j u hj
            rw [List.getElem?_map] at hj
            obtain ⟨v, hv, rfl⟩ := Option.map_eq_some_iff.1 hj
            obtain ⟨cv, h5, h6⟩ := h3 j v hv
            refine ⟨cv, by simpa using h5, (calm_ok h6).take (below_spec.2 fun x hx => ?_)⟩
            exact below_spec.1 hb x (List.mem_flatMap.2 ⟨v.calm, List.mem_map.2 ⟨v, List.mem_of_getElem? hv, rfl⟩, hx⟩)
        · cases h
      · cases h
    split at h
    · rename_i hex
      rw [hex] at hx
      exact hval (.inl hx) h
    · rename_i hex
      rw [hex] at hx
      exact hval (.inr hx) h
    · rename_i x hex
      rw [hex] at hx
      obtain ⟨cv, rfl, hv⟩ := hx
      injection h with h; injection h with h7 h8
      subst h7; subst h8
      exact ⟨hd, ρ.take σ0.length, S, hr', he', cv, rfl, hv⟩
    · cases h
  · cases h
end

/-! ### Whole functions -/

/-- The contracts of the functions that are not run. -/
def PrimOk (P : Program) (H : Hints) : Prop :=
  ∀ (f : FuncId) (g : List AV → Option AV) (args : List AV) (v : AV), H.prim f = some g → g args = some v → Enters P f ∧ ∀ (ρ : Gr) (S : Cells) (w : World) (cargs : Array Value), Rel P [] ρ S w →
    cargs.size = args.length → (∀ (j : Nat) (v : AV), args[j]? = some v → ∃ cv, cargs[j]? = some cv ∧ VA2 P [] ρ S w v cv) → Calls P f cargs w (RunPost P (.ret v) [] [] ρ S w)

def Named (P : Program) : Prop := ∀ (f : FuncId) (fn : Func), P.funcs[f]? = some fn → (fn.name == "runtime.NumGoroutine") = false

section
variable {P : Program} {H : Hints} {run : FuncId → List AV → Heap → Option (Res × Heap)} {loop : FuncId → Nat → Code → Fr → Heap → Option Out} {n : Nat}

theorem bodyRun_ok (hm : P.follows .mixedOrders = true) (hN : Named P) (hprim : PrimOk P H) (hrun : RunOk P run) (hloop : ∀ f m, LoopOk P m (loop f m) n) : RunOk P (bodyRun P H run loop) := by
  intro f args σ r σ' h
  unfold bodyRun at h
  split at h
  · rename_i g hg
    by_cases hs : σ.isEmpty = true
    · rw [if_pos hs] at h
      obtain ⟨v, hv, h⟩ := Option.map_eq_some_iff.1 h
      injection h with h1 h2
      subst h1; subst h2
      have : σ = [] := by simpa using hs
      subst this
      exact hprim f g args v hg hv
    · rw [if_neg hs] at h; cases h
  · split at h
    · cases h
    · rename_i fn hfn
      split at h
      · cases h
      · rename_i c hc
        refine ⟨⟨fn, hfn, hN f fn hfn, by rw [hc]; rfl⟩, fun ρ S w cargs hr hsz ha => ?_⟩
        refine calls_of_wp hfn hc ?_
        refine denCode_ok (C := { P, m := σ.length, live := H.live f, pans := H.pans, run, loop := loop f σ.length }) (σ0 := σ) (ρ0 := ρ) (S0 := S) (w0 := w) hm hrun (hloop f σ.length) rfl c _ σ _ (r, σ') _ h ρ S w _ hr (Ext.refl _ _ _ _) ?_ rfl ?_
        · refine ⟨by simp [hsz], fun t v ht => ?_⟩
          by_cases htl : t < args.length
          · rw [List.getElem?_append_left htl] at ht
            obtain ⟨cv, h1, h2⟩ := ha t v ht
            exact ⟨cv, by rw [Array.getElem?_append_left (by omega)]; exact h1, h2.to3⟩
          · rw [List.getElem?_append_right (by omega), List.getElem?_replicate] at ht
            split at ht
            · injection ht with ht; subst ht
              refine ⟨undef, ?_, VA3_skip⟩
              rw [Array.getElem?_append_right (by omega), Array.getElem?_replicate, if_pos (by omega)]
            · cases ht
        · intro out e a' w' ho hk
          exact finish_ok hk ho

theorem bodyLoop_ok (hm : P.follows .mixedOrders = true) (hrun : RunOk P run) (hloop : ∀ f m, LoopOk P m (loop f m) n) (f : FuncId) (m : Nat) : LoopOk P m (bodyLoop P H run loop f m) (n + 1) := by
  intro b fr σ out h σ0 ρ0 S0 w0 h0 ρ S w a hr he hf hd
  exact round_ok (C := { P, m, live := H.live f, pans := H.pans, run, loop := loop f m }) hm hrun (hloop f m) h0 h hr he hf hd

theorem runK_ok (hm : P.follows .mixedOrders = true) (hN : Named P) (hprim : PrimOk P H) : ∀ k, RunOk P (runK P H k) ∧ ∀ f m, LoopOk P m (loopK P H k f m) k
  | 0 => ⟨fun f args σ r σ' h => by simp [runK] at h, fun f m b fr σ out h => by simp [loopK] at h⟩
  | k + 1 => by
    obtain ⟨h1, h2⟩ := runK_ok hm hN hprim k
    have e1 : runK P H (k + 1) = bodyRun P H (runK P H k) (loopK P H k) := by funext f args σ; rw [runK]
    have e2 : ∀ f m, loopK P H (k + 1) f m = bodyLoop P H (runK P H k) (loopK P H k) f m := fun f m => by funext b fr σ; rw [loopK]
    refine ⟨by rw [e1]; exact bodyRun_ok hm hN hprim h1 h2, fun f m => by rw [e2]; exact bodyLoop_ok hm h1 h2 f m⟩
end
end Go.Den
