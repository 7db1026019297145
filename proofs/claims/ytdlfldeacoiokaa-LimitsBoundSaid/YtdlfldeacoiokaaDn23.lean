/- Code and loops. -/
import Derived.Test.YtdlfldeacoiokaaDn22
import Derived.LoopN
import Derived.Laws.Sem
namespace Go.Den
open Go

/-! ### From a loop's head on -/

def LoopHead (P : Program) (c : Code) (Q : Exit → Act → World → Prop) (a : Act) (w : World) : Prop :=
  ∀ (b : Frame) (k : List Go.Item) (cs : List Frame), ∃ e a' w', Q e a' w' ∧ Arrives P (lone (b.at a (.code c :: .inLoop c :: k)) cs w) b k cs e a' w'

theorem LoopHead.loop {P : Program} {c : Code} {Q : Exit → Act → World → Prop} {a : Act} {w : World} (h : LoopHead P c Q a w) : (Code.loop c).wp P Q a w := by
  intro b k cs
  obtain ⟨e, a', w', hq, harr⟩ := h b k cs
  exact ⟨e, a', w', hq, .of_steps (.one step_loop) harr⟩

theorem LoopHead.round {P : Program} {c : Code} {Q : Exit → Act → World → Prop} {a : Act} {w : World} (h : c.wp P (Exit.then (LoopHead P c Q) Q) a w) : LoopHead P c Q a w := by
  intro b k cs
  obtain ⟨e, a₁, w₁, hq, harr⟩ := h b (.inLoop c :: k) cs
  cases e with
  | normal =>
    obtain ⟨e₂, a₂, w₂, hq₂, harr₂⟩ := hq b k cs
    exact ⟨e₂, a₂, w₂, hq₂, .of_steps (Steps.trans harr (.one step_inLoop)) harr₂⟩
  | exit id => exact ⟨_, a₁, w₁, hq, .pass (x := .inLoop c) rfl (fun _ _ => .inl (by simp)) harr⟩
  | goto l => exact ⟨_, a₁, w₁, hq, .pass (x := .inLoop c) rfl (fun _ _ => .inl (by simp)) harr⟩
  | ret => exact ⟨_, a₁, w₁, hq, .pass (x := .inLoop c) rfl (fun _ _ => .inl (by simp)) harr⟩
  | panic ch => exact ⟨_, a₁, w₁, hq, .pass (x := .inLoop c) rfl (fun _ _ => .inl (by simp)) harr⟩
  | outgrown => exact ⟨_, a₁, w₁, hq, .pass (x := .inLoop c) rfl (fun _ _ => .inl (by simp)) harr⟩

section
variable {P : Program} {σ σ' : Heap} {ρ : Gr} {S : Cells} {w : World} {fr : Fr} {a : Act} {o : Oper}

/-! ### A loop's head: what is kept -/

theorem promV_ok {v v' : AV} {k : Nat} {cv : Value} (h : promV v k σ = some (v', σ')) (hr : Rel P σ ρ S w) (hv : VA3 P σ ρ S w v cv) : Rel P σ' ρ S w ∧ Ext σ ρ S w σ' ρ S w ∧ VA3 P σ' ρ S w v' cv := by
  unfold promV at h
  split at h
  · rename_i cs
    obtain ⟨⟨cs1, σ1⟩, hp, h⟩ := Option.map_eq_some_iff.1 h
    injection h with h1 h2; subst h1; subst h2
    obtain ⟨arr, e1, e2, e3⟩ : ∃ arr : Array Value, cv = .agg arr ∧ arr.size = cs.length ∧ ∀ (j : Nat) (v : AV), cs[j]? = some v → v.one = true ∧ ∃ x, arr[j]? = some x ∧ VA1 P σ ρ S w v x := hv
    obtain ⟨l, r1, x1, c1⟩ := promote_ok cs hp hr (arr := arr.toList) (by simpa using e2) (fun j u hj => by
      obtain ⟨h3, y, hy, h4⟩ := e3 j u hj
      exact ⟨h3, y, by simpa using hy, h4⟩)
    refine ⟨r1, x1, arr, e1, by rw [e2]; exact l.symm, fun j u hj => ?_⟩
    obtain ⟨h3, y, hy, h4⟩ := c1 j u hj
    exact ⟨h3, y, by simpa using hy, h4⟩
  · rename_i t
    obtain ⟨σ1, hfill, h⟩ := Option.map_eq_some_iff.1 h
    injection h with h1 h2; subst h1; subst h2
    obtain ⟨hh, rfl⟩ := fillAt_spec hfill
    obtain ⟨r1, x1⟩ := hr.fillVec hh t 0
    obtain ⟨hcv, fs, hfs⟩ : cv = .slice none 0 0 ∧ ∃ fs, flat P depth t = some fs := hv
    refine ⟨r1, x1, ?_⟩
    exact VA1.to3 (v := .own k t []) ⟨by rw [hcv]; exact VE.nilSlice hfs _ _, .inl ⟨0, by simp [(List.getElem?_eq_some_iff.1 hh).1], Nat.le_refl _, fun _ => .inl ⟨hr.hole _ hh, hcv, rfl⟩⟩⟩
  · injection h with h; injection h with h1 h2; subst h1; subst h2
    exact ⟨hr, Ext.refl _ _ _ _, hv⟩

theorem promoteS_ok : ∀ (fr : Fr) {k : Nat} {σ σ' : Heap} {fr' : Fr} {tm : List Value}, promoteS fr k σ = some (fr', σ') → Rel P σ ρ S w → tm.length = fr.length → (∀ (t : Nat) (v : AV), fr[t]? = some v → ∃ cv, tm[t]? = some cv ∧ VA3 P σ ρ S w v cv) →
    fr'.length = fr.length ∧ Rel P σ' ρ S w ∧ Ext σ ρ S w σ' ρ S w ∧ ∀ (t : Nat) (v : AV), fr'[t]? = some v → ∃ cv, tm[t]? = some cv ∧ VA3 P σ' ρ S w v cv
  | [], k, σ, σ', fr', tm, h, hr, _, _ => by
    injection h with h; injection h with h1 h2; subst h1; subst h2
    exact ⟨rfl, hr, Ext.refl _ _ _ _, by simp⟩
  | v :: vs, k, σ, σ', fr', tm, h, hr, hl, hf => by
    unfold promoteS at h
    split at h
    · rename_i v1 σ1 hv
      obtain ⟨⟨vs1, σ2⟩, hp, h⟩ := Option.map_eq_some_iff.1 h
      injection h with h1 h2; subst h1; subst h2
      cases tm with
      | nil => simp at hl
      | cons cv tm =>
        obtain ⟨x, hx, hvx⟩ := hf 0 v rfl
        injection hx with hx; subst hx
        obtain ⟨r1, e1, hv1⟩ := promV_ok hv hr hvx
        obtain ⟨l2, r2, e2, f2⟩ := promoteS_ok vs (tm := tm) hp r1 (by simpa using hl) (fun t u ht => by
          obtain ⟨x, hx, h3⟩ := hf (t + 1) u (by simpa using ht)
          exact ⟨x, by simpa using hx, h3.mono e1⟩)
        refine ⟨by simp [l2], r2, e1.trans e2, fun t u ht => ?_⟩
        cases t with
        | zero => simp at ht; subst ht; exact ⟨cv, rfl, hv1.mono e2⟩
        | succ t =>
          obtain ⟨x, hx, h3⟩ := f2 t u (by simpa using ht)
          exact ⟨x, by simpa using hx, h3⟩
    · cases h

/-- What is kept of the objects: those that were there and those that are reached. -/
theorem keep_ok {m : Nat} {σ1 σ0 : Heap} {ρ0 : Gr} {S0 : Cells} {w0 : World} {roots ids : List Nat} (hids : closure σ 6 (addNew (List.range m) roots) = ids) (hs : subHeap σ ids = some σ1) (hm : σ0.length ≤ m) (hr : Rel P σ ρ S w) (he : Ext σ0 ρ0 S0 w0 σ ρ S w) :
    Rel P σ1 (subGr ρ ids) S w ∧ Ext σ0 ρ0 S0 w0 σ1 (subGr ρ ids) S w ∧ ∀ x ∈ roots, x ∈ ids := by
  have hn : ids.Nodup := by rw [← hids]; exact closure_nodup _ _ _ (addNew_nodup _ _ List.nodup_range)
  have hpre : ∀ k, k < m → ids[k]? = some k := fun k hk => by
    obtain ⟨t, ht⟩ := addNew_prefix roots (List.range m)
    obtain ⟨t', ht'⟩ := closure_prefix σ 6 (addNew (List.range m) roots)
    rw [← hids, ht', ht, List.append_assoc, List.getElem?_append_left (by simpa using hk), List.getElem?_range hk]
  have hmem : ∀ x ∈ roots, x ∈ ids := fun x hx => by
    rw [← hids]; exact closure_mem _ _ _ _ (addNew_mem _ _ _ hx)
  clear hids
  obtain ⟨h1, h2⟩ := subHeap_spec hs
  refine ⟨hr.sub hn hs, ?_, hmem⟩
  refine ⟨he.cell, ?_, ?_, ?_, ?_, he.old, ?_, he.newS, he.size, he.os, he.tape, he.output⟩
  · intro id cs hb
    obtain ⟨⟨cs', h3⟩, h4⟩ := he.box id cs hb
    have hk := hpre id (Nat.lt_of_lt_of_le (List.getElem?_eq_some_iff.1 hb).1 hm)
    obtain ⟨o, ho, _, _, ho'⟩ := h2 _ _ hk
    rw [h3] at ho; injection ho with ho; subst ho
    refine ⟨⟨_, ho'⟩, ?_⟩
    rw [subGr_get hk (by rw [hr.len]; exact (List.getElem?_eq_some_iff.1 h3).1), h4]
  · intro id et n hb
    have hk := hpre id (Nat.lt_of_lt_of_le (List.getElem?_eq_some_iff.1 hb).1 hm)
    obtain ⟨o, ho, _, _, ho'⟩ := h2 _ _ hk
    rcases he.vec id et n hb with ⟨n', l, h3, h4⟩ | h3
    · rw [h3] at ho; injection ho with ho; subst ho
      refine .inl ⟨n', l, ho', fun e => ?_⟩
      rw [subGr_get hk (by rw [hr.len]; exact (List.getElem?_eq_some_iff.1 h3).1), h4 e]
    · rw [h3] at ho; injection ho with ho; subst ho
      exact .inr ho'
  · intro id r hb
    obtain ⟨⟨r', h3⟩, h4⟩ := he.raw id r hb
    have hk := hpre id (Nat.lt_of_lt_of_le (List.getElem?_eq_some_iff.1 hb).1 hm)
    obtain ⟨o, ho, _, _, ho'⟩ := h2 _ _ hk
    rw [h3] at ho; injection ho with ho; subst ho
    refine ⟨⟨_, ho'⟩, ?_⟩
    rw [subGr_get hk (by rw [hr.len]; exact (List.getElem?_eq_some_iff.1 h3).1), h4]
  · intro id hd
    have h3 := he.dead id hd
    have hk := hpre id (Nat.lt_of_lt_of_le (List.getElem?_eq_some_iff.1 hd).1 hm)
    obtain ⟨o, ho, _, _, ho'⟩ := h2 _ _ hk
    have e : Ob.dead = o := Option.some.inj (h3.symm.trans ho)
    rw [← e] at ho'
    exact ho'
  · intro id b c hg
    obtain ⟨id', _, h4⟩ := subGr_back hg
    exact he.fresh id' b c h4

theorem tidy_ok {m : Nat} {live : List Nat} {fr1 : Fr} {σ1 σ0 : Heap} {ρ0 : Gr} {S0 : Cells} {w0 : World} {tm : Array Value} (h : tidy m live fr σ = some (fr1, σ1)) (hm : σ0.length ≤ m) (hr : Rel P σ ρ S w)
    (he : Ext σ0 ρ0 S0 w0 σ ρ S w) (hf : FR P σ ρ S w fr tm) : ∃ ρ1, Rel P σ1 ρ1 S w ∧ Ext σ0 ρ0 S0 w0 σ1 ρ1 S w ∧ FR P σ1 ρ1 S w fr1 tm := by
  unfold tidy at h
  simp only at h
  generalize hfr0 : (fr.zipIdx.map fun (p : AV × Nat) => if live.contains p.2 then p.1 else AV.undef) = fr0 at h
  have hf0 : FR P σ ρ S w fr0 tm := by
    refine ⟨by rw [← hfr0]; simp [hf.1], fun t v ht => ?_⟩
    rw [← hfr0, List.getElem?_map, List.getElem?_zipIdx] at ht
    cases hv : fr[t]? with
    | none => rw [hv] at ht; cases ht
    | some u =>
      rw [hv] at ht
      obtain ⟨cv, h3, h4⟩ := hf.2 t u hv
      refine ⟨cv, h3, ?_⟩
      simp at ht
      split at ht
      · subst ht; exact h4
      · subst ht; exact VA3_undef
  obtain ⟨rm, em⟩ := hr.more (nilsIn fr0)
  have hfm := hf0.mono em
  split at h
  · rename_i fr2 σ2 hp
    obtain ⟨l, r2, e2, f2⟩ := promoteS_ok fr0 (tm := tm.toList) hp rm (by simpa using hfm.1) (fun t v ht => by
      obtain ⟨cv, h3, h4⟩ := hfm.2 t v ht
      exact ⟨cv, by simpa using h3, h4⟩)
    obtain ⟨σ3, hs, h⟩ := Option.map_eq_some_iff.1 h
    injection h with h1 h2
    subst h1; subst h2
    obtain ⟨k1, k2, k3⟩ := keep_ok rfl hs hm r2 ((he.trans em).trans e2)
    refine ⟨_, k1, k2, by simp [hfm.1, l], fun t v ht => ?_⟩
    rw [List.getElem?_map] at ht
    obtain ⟨u, hu, rfl⟩ := Option.map_eq_some_iff.1 ht
    obtain ⟨cv, h3, h4⟩ := f2 t u hu
    exact ⟨cv, by simpa using h3, h4.sub r2.len hs fun x hx => k3 x (List.mem_flatMap.2 ⟨u, List.mem_of_getElem? hu, hx⟩)⟩
  · cases h

/-! ### Calls that are put off -/

/-- A call that is put off, as the model keeps it. -/
def DfR (P : Program) (σ : Heap) (ρ : Gr) (S : Cells) (w : World) (d : Df) (c : Deferred) : Prop :=
  ∃ cargs, c = { target := .fn (.func d.f) #[], args := cargs } ∧ ArgsOk P σ ρ S w d.args cargs

inductive DfsR (P : Program) (σ : Heap) (ρ : Gr) (S : Cells) (w : World) : List Df → List Deferred → Prop
  | nil : DfsR P σ ρ S w [] []
  | cons (d : Df) (c : Deferred) (ds : List Df) (cs : List Deferred) (h : DfR P σ ρ S w d c) (hs : DfsR P σ ρ S w ds cs) : DfsR P σ ρ S w (d :: ds) (c :: cs)

theorem DfR.mono {ρ' : Gr} {S' : Cells} {w' : World} (he : Ext σ ρ S w σ' ρ' S' w') {d : Df} {c : Deferred} (h : DfR P σ ρ S w d c) : DfR P σ' ρ' S' w' d c := by
  obtain ⟨cargs, h1, h2, h3⟩ := h
  exact ⟨cargs, h1, h2, fun j v hj => let ⟨cv, h4, h5⟩ := h3 j v hj; ⟨cv, h4, h5.mono he⟩⟩

theorem DfsR.mono {ρ' : Gr} {S' : Cells} {w' : World} (he : Ext σ ρ S w σ' ρ' S' w') {ds : List Df} {cs : List Deferred} (h : DfsR P σ ρ S w ds cs) : DfsR P σ' ρ' S' w' ds cs := by
  induction h with
  | nil => exact .nil
  | cons d c ds cs h _ ih => exact .cons d c ds cs (h.mono he) ih

theorem DfsR.nil_inv {cs : List Deferred} (h : DfsR P σ ρ S w [] cs) : cs = [] := by cases h; rfl

/-! ### Code -/

def ExR (P : Program) (S : Cells) (w : World) : Ex → Exit → Prop
  | .norm, e => e = .normal
  | .exit i, e => e = .exit i
  | .ret, e => e = .ret
  | .pan x, e => ∃ cv, e = .panic [{ v := cv, recovered := false }] ∧ VE P w S x cv

/-- What a piece of code came to; 'D' was put off before it began. -/
def OutPost (P : Program) (D : List Deferred) (out : Out) (σ0 : Heap) (ρ0 : Gr) (S0 : Cells) (w0 : World) (e : Exit) (a : Act) (w : World) : Prop :=
  ∃ ρ S ds, a.defers = ds ++ D ∧ DfsR P out.hp ρ S w out.df ds ∧ Rel P out.hp ρ S w ∧ Ext σ0 ρ0 S0 w0 out.hp ρ S w ∧ FR P out.hp ρ S w out.fr a.tmps ∧ ExR P S w out.ex e

def LoopOk (P : Program) (m : Nat) (loop : Code → Fr → Heap → Option Out) : Prop :=
  ∀ (b : Code) (fr : Fr) (σ : Heap) (out : Out), loop b fr σ = some out → ∀ (σ0 : Heap) (ρ0 : Gr) (S0 : Cells) (w0 : World) (D : List Deferred), σ0.length = m → ∀ (ρ : Gr) (S : Cells) (w : World) (a : Act),
    Rel P σ ρ S w → Ext σ0 ρ0 S0 w0 σ ρ S w → FR P σ ρ S w fr a.tmps → a.defers = D → LoopHead P b (fun e a w => out.df = [] ∧ OutPost P D out σ0 ρ0 S0 w0 e a w) a w
end

theorem Ex.way {e : Ex} {w : Way} (h : e.isWay w = true) : w.ex e = e := by
  cases e <;> cases w <;> simp [Ex.isWay] at h <;> first | rfl | (subst h; rfl)

theorem likeFr_ok {P : Program} {σ : Heap} {ρ : Gr} {S : Cells} {w : World} {p fr : Fr} {tm : Array Value} (h : okFr p fr = true) (hf : FR P σ ρ S w fr tm) : FR P σ ρ S w (likeFr p fr) tm := by
  unfold okFr at h
  rw [Bool.and_eq_true] at h
  have hl : p.length = fr.length := by simpa using h.1
  refine ⟨by rw [hf.1]; simp [likeFr, hl], fun t v ht => ?_⟩
  unfold likeFr at ht
  rw [List.getElem?_map, List.getElem?_zipIdx] at ht
  by_cases hj : t < p.length
  · have hjd : t < fr.length := by omega
    have hz : (p.zip fr)[t]? = some (p[t], fr[t]) := by rw [List.getElem?_zip_eq_some]; exact ⟨List.getElem?_eq_getElem hj, List.getElem?_eq_getElem hjd⟩
    have hok := List.all_eq_true.1 h.2 _ (List.mem_of_getElem? hz)
    rw [List.getElem?_eq_getElem hj] at ht
    simp only [Option.map_some, Nat.zero_add, List.getD_eq_getElem?_getD, List.getElem?_eq_getElem hjd, Option.getD_some, Option.some.injEq] at ht
    obtain ⟨cv, h3, h4⟩ := hf.2 t fr[t] (List.getElem?_eq_getElem hjd)
    refine ⟨cv, h3, ?_⟩
    rcases okSlot_ok hok with h5 | h5
    · rw [h5] at ht; subst ht; exact VA3_undef
    · rw [h5] at ht; subst ht; exact h4
  · rw [List.getElem?_eq_none (by omega)] at ht; cases ht

section
variable {R : Type} {run : RunF} {loop : Code → Fr → Heap → Option Out} {lr : Res → Heap → Option R} {lo : Out → Option R} {r : R}
variable {C : Ctx} {D : List Deferred} {σ0 : Heap} {ρ0 : Gr} {S0 : Cells} {w0 : World} {e : Exit} {a : Act} {w : World}

theorem outW_inv {K : Out → T} {o : Out} : ∀ {ws : List (Way × Fr × Heap)}, (outW K o ws).go run loop lr lo = some r →
    ∃ w pf ph, o.ex.isWay w = true ∧ okFr pf o.fr = true ∧ okHeap ph o.hp = true ∧ (K ⟨w.ex o.ex, likeFr pf o.fr, likeHeap ph o.hp, []⟩).go run loop lr lo = some r
  | [], h => by cases h
  | (w, pf, ph) :: rest, h => by
    unfold outW at h
    rcases go_br h with ⟨h1, h⟩ | ⟨h1, h⟩
    · obtain ⟨h2, h⟩ := go_must h
      rw [Bool.and_eq_true] at h2
      exact ⟨w, pf, ph, h1, h2.1, h2.2, h⟩
    · exact outW_inv h

theorem outK_ok {P : Program} {K : Out → T} {o : Out} {ws : List (Way × Fr × Heap)} (h : (outK ws K o).go run loop lr lo = some r) (hdf : o.df = [])
    (ho : OutPost P D o σ0 ρ0 S0 w0 e a w) : ∃ o', OutPost P D o' σ0 ρ0 S0 w0 e a w ∧ o'.df = [] ∧ (K o').go run loop lr lo = some r := by
  unfold outK at h
  split at h
  · exact ⟨o, ho, hdf, h⟩
  · obtain ⟨wy, pf, ph, h1, h2, h3, h4⟩ := outW_inv h
    obtain ⟨ρ, S, ds, k0, k1, k2, k3, k4, k5⟩ := ho
    rw [hdf] at k1
    have := k1.nil_inv; subst this
    obtain ⟨h5, _⟩ := likeHeap_ok h3
    refine ⟨_, ⟨ρ, S, [], k0, .nil, ?_, ?_, ?_, ?_⟩, rfl, h4⟩
    · rw [h5]; exact k2
    · rw [h5]; exact k3
    · rw [h5]; exact likeFr_ok h2 k4
    · rw [Ex.way h1]; exact k5

theorem trim_ok {P : Program} {m : Nat} {o : Out} {ws : List (Way × Fr × Heap)} (h : (trim m ws o).go run loop lr lo = some r) (hdf : o.df = []) (hm : σ0.length ≤ m)
    (ho : OutPost P D o σ0 ρ0 S0 w0 e a w) : ∃ out : Out, OutPost P D out σ0 ρ0 S0 w0 e a w ∧ out.df = [] ∧ lo out = some r := by
  obtain ⟨ρ, S, ds, k0, k1, k2, k3, k4, k5⟩ := ho
  rw [hdf] at k1
  have := k1.nil_inv; subst this
  unfold trim at h
  split at h
  · split at h
    · rename_i fr hp ht
      obtain ⟨ρ1, m1, m2, m3⟩ := tidy_ok ht hm k2 k3 k4
      exact ⟨⟨o.ex, fr, hp, []⟩, ⟨ρ1, S, [], k0, .nil, m1, m2, m3, k5⟩, rfl, h⟩
    · cases h
  · exact ⟨⟨o.ex, o.fr, o.hp, []⟩, ⟨ρ, S, [], k0, .nil, k2, k3, k4, k5⟩, rfl, h⟩

theorem resolve_func {ev : Operand → Value} {c : Call} {f : FuncId} {t : TypeId} (hc : c.callee = .value (.func f)) (he : ev (.func f) = .func (.func f) #[] #[]) (P : Program) (w : World) :
    (resolve ev c t).run P w = .ok { target := .fn (.func f) #[], args := c.args.map ev } w := by
  simp [resolve, hc, he, Deferred.ofValue, Sem.run_pure]

theorem denCode_ok (hm : C.P.follows .mixedOrders = true) (hp : PrimOk C.P C.H) (hrun : RunOk C.P run) (hloop : LoopOk C.P C.m loop) (h0 : σ0.length = C.m) : ∀ (c : Code) (fr : Fr) (σ : Heap) (df : List Df) (K : Out → T) (r : R) (Q : Exit → Act → World → Prop),
    (denCode C c fr σ df K).go run loop lr lo = some r → ∀ (ρ : Gr) (S : Cells) (w : World) (a : Act) (ds : List Deferred), Rel C.P σ ρ S w → Ext σ0 ρ0 S0 w0 σ ρ S w → FR C.P σ ρ S w fr a.tmps → a.defers = ds ++ D → DfsR C.P σ ρ S w df ds →
    (∀ (out : Out) (e : Exit) (a' : Act) (w' : World), OutPost C.P D out σ0 ρ0 S0 w0 e a' w' → (K out).go run loop lr lo = some r → Q e a' w') → c.wp C.P Q a w := by
  intro c
  induction c with
  | skip =>
    intro fr σ df K r Q h ρ S w a ds hr he hf hd hdf hK
    exact wp_skip (hK ⟨.norm, fr, σ, df⟩ .normal a w ⟨ρ, S, ds, hd, hdf, hr, he, hf, rfl⟩ h)
  | label l =>
    intro fr σ df K r Q h ρ S w a ds hr he hf hd hdf hK
    exact wp_label (hK ⟨.norm, fr, σ, df⟩ .normal a w ⟨ρ, S, ds, hd, hdf, hr, he, hf, rfl⟩ h)
  | region id ops draw =>
    intro fr σ df K r Q h ρ S w a ds hr he hf hd hdf hK
    unfold denCode at h
    cases draw with
    | true =>
      rw [if_pos rfl] at h
      split at h
      · rename_i l hl
        split at h
        · rename_i hc
          obtain ⟨c1, c2, c3, _⟩ := hc
          have hdr : Rel C.P σ ρ S { w with drawn := w.drawn + 1 } ∧ Ext σ ρ S w σ ρ S { w with drawn := w.drawn + 1 } ∧ FR C.P σ ρ S { w with drawn := w.drawn + 1 } fr a.tmps := by
            have hx : Ext σ ρ S w σ ρ S { w with drawn := w.drawn + 1 } :=
              ⟨fun _ _ h => ⟨h, rfl⟩, fun _ _ h => ⟨⟨_, h⟩, rfl⟩, fun _ _ n h => .inl ⟨n, Nat.le_refl _, h, fun _ => rfl⟩, fun _ _ h => ⟨⟨_, h⟩, rfl⟩, fun _ h => h, fun _ _ _ => rfl, fun i _ c h => .inr ⟨i, c, h⟩, fun _ _ h => .inl h, Nat.le_refl _, rfl, rfl, rfl⟩
            refine ⟨⟨hr.len, fun i cs h => ?_, hr.vec, hr.raw, hr.hole, hr.lt, hr.inj, hr.cells, hr.glob.mono hx⟩, hx, hf.mono hx⟩
            obtain ⟨b, c, arr, T, h1, h2, h3, h4, h5⟩ := hr.box i cs h
            exact ⟨b, c, arr, T, h1, h2, h3, fun j v hj => let ⟨h6, x, h7, h8⟩ := h4 j v hj; ⟨h6, x, h7, h8.mono hx⟩, h5⟩
          obtain ⟨r1, e1, f1⟩ := hdr
          obtain ⟨r2, e2⟩ := r1.more ((ops.toList.map (needs C.P ops.toList)).foldl (· + ·) 0)
          refine draw_ok hp hrun hm hl c1 c2 c3 h r2 (f1.mono e2) hd ?_ ?_
          · intro fr' σ' ρ' S' w' a' k1 k2 k3 k4 k5
            have hx := (e1.trans e2).trans k3
            exact hK ⟨.norm, fr', σ', df⟩ .normal a' w' ⟨ρ', S', ds, k1, hdf.mono hx, k2, he.trans hx, k4, rfl⟩ k5
          · intro x fr' σ' ρ' S' w' a' cv k1 k2 k3 k4 k5 k6
            have hx := (e1.trans e2).trans k3
            exact hK ⟨.pan x, fr', σ', df⟩ _ a' w' ⟨ρ', S', ds, k1, hdf.mono hx, k2, he.trans hx, k4, cv, rfl, k5⟩ k6
        · cases h
      · cases h
    | false =>
      rw [if_neg (by simp)] at h
      split at h
      · rename_i d f as hdef
        unfold deferOf at hdef
        split at hdef
        · rename_i o hops
          split at hdef
          · rename_i c hop hg
            split at hdef
            · rename_i f' hcal
              obtain ⟨⟨f2, as2⟩, hco, hdef⟩ := Option.map_eq_some_iff.1 hdef
              injection hdef with e1 hdef; injection hdef with e2 e3
              subst e1; subst e2; subst e3
              have hco' := hco
              unfold callOf at hco'
              split at hco'
              · rename_i hs
                split at hco'
                · rename_i as0 has
                  rw [hcal] at hco'
                  injection hco' with hco'; injection hco' with e1 e2
                  subst e1; subst e2
                  obtain ⟨h1, h2⟩ := args_ok hf hs has
                  refine wp_region_list ?_
                  rw [hops]
                  have hw : Region.wanted o (yielded ops a.tmps) = true := by unfold Region.wanted; rw [hg]
                  refine wpList_step fun N hN => ?_
                  rw [if_pos hw]
                  have hrun1 : (execOp a.eval o).run C.P w = .ok (.defer { target := .fn (.func f') #[], args := c.args.map a.eval }) w := by
                    simp only [execOp, hop, Sem.run_bind, resolve_func (t := o.type) hcal (eval_func a f') C.P w, Result.andThen_ok, Sem.run_pure]
                  unfold Oper.wp
                  rw [hrun1]
                  simp only [Oper.upon]
                  refine hN _ _ ?_
                  refine hK ⟨.norm, put fr o.dst (.tup []), σ, _⟩ .normal _ w ⟨ρ, S, { target := .fn (.func f') #[], args := c.args.map a.eval } :: ds, ?_, ?_, hr, he, ?_, rfl⟩ h
                  · rw [put_defers]; simp [hd]
                  · exact .cons _ _ _ _ ⟨_, rfl, args_calm h1 h2⟩ hdf
                  · exact FR.put (a := { a with defers := { target := .fn (.func f') #[], args := c.args.map a.eval } :: a.defers }) hf o.dst VA3_skip
                · cases hco'
              · cases hco'
            · cases hdef
          · cases hdef
        · cases hdef
      · refine wp_region_list (denOps_ok hp hrun (D := a.defers) _ _ fr σ _ _ r h ρ S w a hr hf rfl ?_ ?_)
        · intro fr' σ' ρ' S' w' a' k1 k2 k3 k4 k5
          exact hK ⟨.norm, fr', σ', df⟩ .normal a' w' ⟨ρ', S', ds, k1.trans hd, hdf.mono k3, k2, he.trans k3, k4, rfl⟩ k5
        · intro x fr' σ' ρ' S' w' a' cv k1 k2 k3 k4 k5 k6
          exact hK ⟨.pan x, fr', σ', df⟩ _ a' w' ⟨ρ', S', ds, k1.trans hd, hdf.mono k3, k2, he.trans k3, k4, cv, rfl, k5⟩ k6
  | seq x y ihx ihy =>
    intro fr σ df K r Q h ρ S w a ds hr he hf hd hdf hK
    unfold denCode at h
    refine wp_seq (ihx fr σ df _ r _ h ρ S w a ds hr he hf hd hdf ?_)
    rintro ⟨ex, fr', σ', df'⟩ e a' w' hout hk
    obtain ⟨ρ', S', ds', k0, k1, k2, k3, k4, k5⟩ := id hout
    cases ex with
    | norm =>
      have : e = .normal := k5
      subst this
      exact ihy fr' σ' df' K r Q hk ρ' S' w' a' ds' k2 k3 k4 k0 k1 hK
    | exit i => have : e = .exit i := k5; subst this; exact hK _ _ a' w' hout hk
    | ret => have : e = .ret := k5; subst this; exact hK _ _ a' w' hout hk
    | pan x => obtain ⟨cv, rfl, _⟩ := k5; exact hK _ _ a' w' hout hk
  | cond c x y ihx ihy =>
    intro fr σ df K r Q h ρ S w a ds hr he hf hd hdf hK
    unfold denCode at h
    split at h
    · rename_i b hb
      have hv := VA3_bool (evalO_ok hf hb)
      rcases go_br h with ⟨hbb, h⟩ | ⟨hbb, h⟩
      · subst hbb; exact wp_cond_true hv (ihx fr σ df K r Q h ρ S w a ds hr he hf hd hdf hK)
      · subst hbb; exact wp_cond_false hv (ihy fr σ df K r Q h ρ S w a ds hr he hf hd hdf hK)
    · cases h
  | block i b ih =>
    intro fr σ df K r Q h ρ S w a ds hr he hf hd hdf hK
    unfold denCode at h
    refine wp_block (ih fr σ df _ r _ h ρ S w a ds hr he hf hd hdf ?_)
    rintro ⟨ex, fr', σ', df'⟩ e a' w' hout hk
    obtain ⟨ρ', S', ds', k0, k1, k2, k3, k4, k5⟩ := id hout
    cases ex with
    | norm => have : e = .normal := k5; subst this; exact hK _ _ a' w' hout hk
    | ret => have : e = .ret := k5; subst this; exact hK _ _ a' w' hout hk
    | pan x => obtain ⟨cv, rfl, _⟩ := k5; exact hK _ _ a' w' hout hk
    | exit j =>
      have : e = .exit j := k5
      subst this
      simp only [Exit.inBlock]
      simp only at hk
      split
      · rename_i hj
        rw [if_pos hj] at hk
        exact hK ⟨.norm, fr', σ', df'⟩ .normal a' w' ⟨ρ', S', ds', k0, k1, k2, k3, k4, rfl⟩ hk
      · rename_i hj
        rw [if_neg hj] at hk
        exact hK _ _ a' w' hout hk
  | loop b _ =>
    intro fr σ df K r Q h ρ S w a ds hr he hf hd hdf hK
    unfold denCode at h
    split at h
    · rename_i i hi
      have := hdf.nil_inv; subst this
      split at h
      · rename_i fr1 σ1 ht
        obtain ⟨out, hout, hk⟩ := Option.bind_eq_some_iff.1 h
        obtain ⟨ρ1, k1, k2, k3⟩ := tidy_ok ht (Nat.le_of_eq h0) hr he hf
        have hl := hloop b fr1 σ1 out hout σ0 ρ0 S0 w0 D h0 ρ1 S w a k1 k2 k3 hd
        refine wp_mono hl.loop fun e a' w' ⟨hdo, ho⟩ => ?_
        obtain ⟨o', ho', hdo', hk'⟩ := outK_ok hk hdo ho
        refine hK _ e a' w' ?_ hk'
        obtain ⟨ρ', S', ds', m0, m1, m2, m3, m4, m5⟩ := ho'
        rw [hdo'] at m1
        exact ⟨ρ', S', ds', m0, m1, m2, m3, m4, m5⟩
      · cases h
    · cases h
  | exit i =>
    intro fr σ df K r Q h ρ S w a ds hr he hf hd hdf hK
    exact wp_exit (hK ⟨.exit i, fr, σ, df⟩ (.exit i) a w ⟨ρ, S, ds, hd, hdf, hr, he, hf, rfl⟩ h)
  | ret =>
    intro fr σ df K r Q h ρ S w a ds hr he hf hd hdf hK
    exact wp_ret (hK ⟨.ret, fr, σ, df⟩ .ret a w ⟨ρ, S, ds, hd, hdf, hr, he, hf, rfl⟩ h)
  | _ => intro fr σ df K r Q h; cases h

theorem round_ok (hm : C.P.follows .mixedOrders = true) (hp : PrimOk C.P C.H) (hrun : RunOk C.P run) (hloop : LoopOk C.P C.m loop) (h0 : σ0.length = C.m) {b : Code} {fr : Fr} {σ : Heap} {out : Out}
    (h : (round C b fr σ).outs run loop = some out) {ρ : Gr} {S : Cells} {w : World} {a : Act} (hr : Rel C.P σ ρ S w) (he : Ext σ0 ρ0 S0 w0 σ ρ S w) (hf : FR C.P σ ρ S w fr a.tmps) (hd : a.defers = D) :
    LoopHead C.P b (fun e a w => out.df = [] ∧ OutPost C.P D out σ0 ρ0 S0 w0 e a w) a w := by
  refine LoopHead.round ?_
  unfold round at h
  refine denCode_ok hm hp hrun hloop h0 b fr σ [] _ out _ h ρ S w a [] hr he hf hd .nil ?_
  rintro ⟨ex, fr', σ', df'⟩ e a' w' hout hk
  obtain ⟨ρ', S', ds', k0, k1, k2, k3, k4, k5⟩ := id hout
  unfold tailK at hk
  split at hk
  · rename_i i hfr hdf
    simp only at hdf
    subst hdf
    have := k1.nil_inv; subst this
    cases ex with
    | norm =>
      have : e = .normal := k5
      subst this
      simp only at hk
      split at hk
      · rename_i fr1 σ1 ht
        obtain ⟨ρ1, m1, m2, m3⟩ := tidy_ok ht (Nat.le_of_eq h0) k2 k3 k4
        obtain ⟨out', ho', hk'⟩ := Option.bind_eq_some_iff.1 hk
        injection hk' with hk'; subst hk'
        exact hloop b fr1 σ1 out' ho' σ0 ρ0 S0 w0 D h0 ρ1 S' w' a' m1 m2 m3 k0
      · cases hk
    | exit i =>
      have : e = .exit i := k5
      subst this
      obtain ⟨out', m1, m0, m2⟩ := trim_ok hk rfl (Nat.le_of_eq h0) hout
      injection m2 with m2; subst m2; exact ⟨m0, m1⟩
    | ret =>
      have : e = .ret := k5
      subst this
      obtain ⟨out', m1, m0, m2⟩ := trim_ok hk rfl (Nat.le_of_eq h0) hout
      injection m2 with m2; subst m2; exact ⟨m0, m1⟩
    | pan x =>
      obtain ⟨cv, rfl, _⟩ := id k5
      obtain ⟨out', m1, m0, m2⟩ := trim_ok hk rfl (Nat.le_of_eq h0) hout
      injection m2 with m2; subst m2; exact ⟨m0, m1⟩
  · cases hk
end
end Go.Den
