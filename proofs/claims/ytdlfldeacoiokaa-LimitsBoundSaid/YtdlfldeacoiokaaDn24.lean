/- Whole functions. -/
import Derived.Test.YtdlfldeacoiokaaDn23
import Derived.Recover
namespace Go.Den
open Go

section
variable {P : Program} {σ : Heap} {ρ : Gr} {S : Cells} {w : World} {fr : Fr} {a : Act} {m : Nat}

theorem loadVar_ok (hr : Rel P σ ρ S w) {t : TypeId} {id off n b c : Nat} {cs : List AV} {v : AV} (hid : ρ[id]? = some (some (b, c))) (hb : σ[id]? = some (.box cs)) (hs : sizeB P t = some n) (hl : off + n ≤ cs.length)
    (hv : (if isAggB P t then some (.agg ((cs.drop off).take n)) else if n = 1 then cs[off]? else none) = some v) :
    ∃ cv, (loadVar t ⟨b, off, none⟩).run P w = .ok cv w ∧ VA2 P σ ρ S w v cv := by
  have h1 := run_isAgg (w := w) hs
  have h2 := run_sizeOf (w := w) hs
  by_cases ha : isAggB P t = true
  · rw [if_pos ha] at hv
    injection hv with hv; subst hv
    have hlen : ((cs.drop off).take n).length = n := by simp; omega
    have hg : ∀ (j : Nat) (v : AV), ((cs.drop off).take n)[j]? = some v → cs[off + j]? = some v := by
      intro j v hj
      rw [List.getElem?_take] at hj
      split at hj
      · rwa [List.getElem?_drop] at hj
      · cases hj
    have hcell : ∀ (j : Nat) (v : AV), ((cs.drop off).take n)[j]? = some v → v.one = true ∧ ∃ y, w.cell? ⟨b, off + j, none⟩ = some y ∧ VA1 P σ ρ S w v y := fun j v hj => box_cell hr hb hid (hg j v hj)
    have h3 := run_loadCells_list (P := P) w ⟨b, off, none⟩ ((List.range n).map (fun j => (w.cell? ⟨b, off + j, none⟩).getD undef)) (fun j v hj => by
      obtain ⟨hj, rfl⟩ := map_range_get hj
      obtain ⟨_, y, hy, _⟩ := hcell j _ (List.getElem?_eq_getElem (by omega))
      rw [add_at, hy]; rfl)
    rw [show ((List.range n).map (fun j => (w.cell? ⟨b, off + j, none⟩).getD undef)).length = n by simp] at h3
    refine ⟨.agg ((List.range n).map (fun j => (w.cell? ⟨b, off + j, none⟩).getD undef)).toArray, by simp only [loadVar, Sem.run_bind, Sem.run_pure, Result.andThen_ok, h1, ha, if_true, h2, h3], _, rfl, by rw [hlen]; simp, ?_⟩
    intro j v hj
    obtain ⟨h1, y, hy, h2⟩ := hcell j v hj
    have hjn : j < n := by rw [← hlen]; exact (List.getElem?_eq_some_iff.1 hj).1
    refine ⟨h1, y, ?_, h2⟩
    rw [List.getElem?_toArray, map_range_put _ hjn, hy]; rfl
  · rw [if_neg ha] at hv
    split at hv
    · obtain ⟨h3, y, hy, h4⟩ := box_cell hr hb hid hv
      exact ⟨y, by simp only [loadVar, Sem.run_bind, Result.andThen_ok, h1, ha, Bool.false_eq_true, if_false, run_load, hy], h4.to2⟩
    · cases hv

def readVar (tmps : Array Value) : ResultVar → Sem Value
  | .tmp t => pure (tmps.getD t undef)
  | .cell a t => do loadVar t (← asAddr (tmps.getD a undef))

theorem readRes_ok (hr : Rel P σ ρ S w) (hf : FR P σ ρ S w fr a.tmps) {x : ResultVar} {v : AV} (h : readRes fr σ P x = some v) : ∃ cv, (readVar a.tmps x).run P w = .ok cv w ∧ VA3 P σ ρ S w v cv := by
  unfold readRes at h
  cases x with
  | tmp t =>
    obtain ⟨cv, h1, h2⟩ := hf.get h
    exact ⟨cv, by simp [readVar, go_sem, h1], h2⟩
  | cell p t =>
    simp only at h
    split at h
    · rename_i id off n hp hs
      split at h
      · rename_i cs hb
        by_cases hl : off + n ≤ cs.length
        · rw [if_pos hl] at h
          obtain ⟨cv, h1, h2⟩ := hf.get hp
          obtain ⟨b, c, hid, _, rfl⟩ : VA1 P σ ρ S w (.ptr id off) cv := h2
          obtain ⟨u, h3, h4⟩ := loadVar_ok hr hid hb hs hl h
          refine ⟨u, ?_, h4.to3⟩
          unfold readVar
          simp only [Sem.run_bind, Array.getD_eq_getD_getElem?, h1, Option.getD_some, asAddr, Sem.run_pure, Result.andThen_ok, h3]
        · rw [if_neg hl] at h; cases h
      · cases h
    · cases h

theorem run_mapM {α : Type} {f : α → Sem Value} : ∀ (l : List α) (vs : List Value), vs.length = l.length → (∀ (i : Nat) (x : α) (v : Value), l[i]? = some x → vs[i]? = some v → (f x).run P w = .ok v w) → (l.mapM f).run P w = .ok vs w
  | [], [], _, _ => rfl
  | x :: l, v :: vs, hl, h => by
    rw [List.mapM_cons, Sem.run_bind, h 0 x v rfl rfl, Result.andThen_ok, Sem.run_bind, run_mapM l vs (by simpa using hl) (fun i x v h1 h2 => h (i + 1) x v (by simpa using h1) (by simpa using h2))]
    rfl
  | [], _ :: _, hl, _ => by simp at hl
  | _ :: _, [], hl, _ => by simp at hl

theorem run_results {fn : Func} {tmps : Array Value} {vs : List Value} (hl : vs.length = fn.results.toList.length) (h : ∀ (i : Nat) (x : ResultVar) (v : Value), fn.results.toList[i]? = some x → vs[i]? = some v → (readVar tmps x).run P w = .ok v w) :
    (results fn tmps).run P w = .ok (if h : vs.toArray.size = 1 then vs.toArray[0] else .tuple vs.toArray) w := by
  have := run_mapM (P := P) (w := w) fn.results.toList vs hl h
  have he : results fn tmps = (do let vs ← fn.results.mapM (readVar tmps); pure (if h : vs.size = 1 then vs[0] else .tuple vs)) := rfl
  rw [he, Sem.run_bind, Array.mapM_eq_mapM_toList, Sem.run_map, this]
  simp [go_sem]


theorem leave_inv {m : Nat} {v u : AV} {σ σ1 : Heap} (h : leave m v σ = some (u, σ1)) : ∃ ids, closure σ 6 (addNew (List.range m) v.ids3) = ids ∧ subHeap σ ids = some σ1 ∧ u = v.ren3 (idx ids) := by
  unfold leave at h
  simp only [Option.map_eq_some_iff, Prod.mk.injEq] at h
  obtain ⟨σ', h1, h2, h3⟩ := h
  exact ⟨_, rfl, by rw [h1, h3], h2.symm⟩

/-- What the objects and the result are numbered behind a call. -/
theorem leave_ok {m : Nat} {v u : AV} {σ1 σ0 : Heap} {ρ0 : Gr} {S0 : Cells} {w0 : World} (h : leave m v σ = some (u, σ1)) (hm : σ0.length ≤ m) (hr : Rel P σ ρ S w) (he : Ext σ0 ρ0 S0 w0 σ ρ S w) :
    ∃ ρ1, Rel P σ1 ρ1 S w ∧ Ext σ0 ρ0 S0 w0 σ1 ρ1 S w ∧ ∀ cv, VA3 P σ ρ S w v cv → VA3 P σ1 ρ1 S w u cv := by
  obtain ⟨ids, hids, hs, rfl⟩ := leave_inv h
  obtain ⟨k1, k2, k3⟩ := keep_ok hids hs hm hr he
  exact ⟨_, k1, k2, fun cv hv => hv.sub hr.len hs k3⟩

section
variable {R : Type} {run : RunF} {loop : Code → Fr → Heap → Option Out} {r : Res} {σ' σ0 : Heap} {ρ0 : Gr} {S0 : Cells} {w0 : World} {fn : Func} {tm : Array Value}

theorem retOf_ok {vs : List AV} {cvs : List Value} (h1 : cvs.length = vs.length) (h3 : ∀ (i : Nat) (v : AV), vs[i]? = some v → ∃ cv, cvs[i]? = some cv ∧ VA3 P σ ρ S w v cv) :
    VA3 P σ ρ S w (retOf vs) (if h : cvs.toArray.size = 1 then cvs.toArray[0] else .tuple cvs.toArray) := by
  by_cases hl : vs.length = 1
  · match vs, hl with
    | [v], _ =>
      obtain ⟨cv, h5, h6⟩ := h3 0 v rfl
      have hcv : cvs = [cv] := by
        match cvs, h1, h5 with
        | [c], _, h5 => simp at h5; rw [h5]
      subst hcv
      simpa [retOf] using (calm_ok h6).to3
  · have hr : retOf vs = .tup (vs.map AV.calm) := by
      unfold retOf
      split
      · rename_i v; exact absurd rfl hl
      · rfl
    rw [hr]
    refine ⟨cvs.toArray, ?_, by simp [h1], fun j u hj => ?_⟩
    · rw [dif_neg]
      intro hs
      exact hl (by rw [← h1]; simpa using hs)
    · rw [List.getElem?_map] at hj
      obtain ⟨v, hv, rfl⟩ := Option.map_eq_some_iff.1 hj
      obtain ⟨cv, h5, h6⟩ := h3 j v hv
      exact ⟨cv, by simpa using h5, calm_ok h6⟩

/-- The results, where the call returns. -/
theorem finish_val {out : Out} {rcv : Bool} (h : (finish P fn σ0.length rcv out).runs run loop = some (r, σ')) (hex : out.ex = .norm ∨ out.ex = .ret) (hr : Rel P out.hp ρ S w) (he : Ext σ0 ρ0 S0 w0 out.hp ρ S w) (hf : FR P out.hp ρ S w out.fr a.tmps) :
    ∃ (u : AV) (cv : Value) (ρ' : Gr), r = (if rcv then .rcv u else .ret u) ∧ (results fn a.tmps).run P w = .ok cv w ∧ Rel P σ' ρ' S w ∧ Ext σ0 ρ0 S0 w0 σ' ρ' S w ∧ VA3 P σ' ρ' S w u cv := by
  have h' : (finishV P fn σ0.length rcv out).runs run loop = some (r, σ') := by
    unfold finish at h
    rcases hex with hex | hex <;> rw [hex] at h <;> exact h
  clear h
  unfold finishV at h'
  have hrd : ∀ (vs : List AV), fn.results.toList.mapM (readRes out.fr out.hp P) = some vs → ∃ cvs : List Value, cvs.length = vs.length ∧ vs.length = fn.results.toList.length ∧
      (∀ (i : Nat) (v : AV), vs[i]? = some v → ∃ cv, cvs[i]? = some cv ∧ VA3 P out.hp ρ S w v cv) ∧ (results fn a.tmps).run P w = .ok (if h : cvs.toArray.size = 1 then cvs.toArray[0] else .tuple cvs.toArray) w := by
    intro vs hvs
    obtain ⟨h1, h2⟩ := mapM_some_get hvs
    have hex : ∀ i, i < vs.length → ∃ cv, (∃ x, fn.results.toList[i]? = some x ∧ (readVar a.tmps x).run P w = .ok cv w) ∧ ∃ v, vs[i]? = some v ∧ VA3 P out.hp ρ S w v cv := fun i hi => by
      have hi' : i < fn.results.toList.length := by omega
      obtain ⟨v, h3, h4⟩ := h2 i _ (List.getElem?_eq_getElem hi')
      obtain ⟨cv, h5, h6⟩ := readRes_ok hr hf h3
      exact ⟨cv, ⟨_, List.getElem?_eq_getElem hi', h5⟩, v, h4, h6⟩
    let g : Nat → Value := fun i => if hi : i < vs.length then (hex i hi).choose else undef
    have hg : ∀ i (hi : i < vs.length), (∃ x, fn.results.toList[i]? = some x ∧ (readVar a.tmps x).run P w = .ok (g i) w) ∧ ∃ v, vs[i]? = some v ∧ VA3 P out.hp ρ S w v (g i) := fun i hi => by
      have : g i = (hex i hi).choose := by simp [g, hi]
      rw [this]; exact (hex i hi).choose_spec
    refine ⟨(List.range vs.length).map g, by simp, h1, fun i v hi => ?_, ?_⟩
    · have hl := (List.getElem?_eq_some_iff.1 hi).1
      obtain ⟨_, u, h3, h4⟩ := hg i hl
      rw [hi] at h3; injection h3 with h3; subst h3
      exact ⟨g i, map_range_put _ hl, h4⟩
    · refine run_results (by simpa using h1) fun i x v hi hv => ?_
      obtain ⟨hl, rfl⟩ := map_range_get hv
      obtain ⟨⟨x', h3, h4⟩, _⟩ := hg i hl
      rw [hi] at h3; injection h3 with h3; subst h3
      exact h4
  split at h'
  · rename_i vs hvs
    obtain ⟨cvs, h1, h2, h3, h4⟩ := hrd _ hvs
    split at h'
    · rename_i u σ1 hl
      injection h' with h'; injection h' with e1 e2
      subst e1; subst e2
      obtain ⟨ρ', k1, k2, k3⟩ := leave_ok hl (Nat.le_refl _) hr he
      exact ⟨u, _, ρ', rfl, h4, k1, k2, k3 _ (retOf_ok h1 h3)⟩
    · cases h'
  · cases h'

/-- .. and where it panics. -/
theorem finish_pan {out : Out} {rcv : Bool} {x : E} (h : (finish P fn σ0.length rcv out).runs run loop = some (r, σ')) (hex : out.ex = .pan x) (hr : Rel P out.hp ρ S w) (he : Ext σ0 ρ0 S0 w0 out.hp ρ S w) :
    r = .pan x ∧ ∃ ρ', Rel P σ' ρ' S w ∧ Ext σ0 ρ0 S0 w0 σ' ρ' S w := by
  unfold finish at h
  rw [hex] at h
  simp only at h
  split at h
  · rename_i u σ1 hl
    injection h with h; injection h with e1 e2
    subst e1; subst e2
    obtain ⟨ρ', k1, k2, _⟩ := leave_ok hl (Nat.le_refl _) hr he
    exact ⟨rfl, ρ', k1, k2⟩
  · cases h

theorem finish_ok {out : Out} {e : Exit} (h : (finish P fn σ0.length false out).runs run loop = some (r, σ')) (hr : Rel P out.hp ρ S w) (he : Ext σ0 ρ0 S0 w0 out.hp ρ S w) (hf : FR P out.hp ρ S w out.fr a.tmps) (hx : ExR P S w out.ex e) (hd : a.defers = []) :
    bodyPostD P fn (RunPost P r σ' σ0 ρ0 S0 w0) e a w := by
  have hret : (out.ex = .norm ∨ out.ex = .ret) → Leaves P fn a.tmps (RunPost P r σ' σ0 ρ0 S0 w0) a.defers .returning w := fun hex => by
    obtain ⟨u, cv, ρ', h1, h2, h3, h4, h5⟩ := finish_val h hex hr he hf
    rw [hd]
    subst h1
    exact ⟨cv, h2, ρ', S, h3, h4, cv, rfl, h5⟩
  cases hex : out.ex with
  | norm => rw [hex] at hx; have : e = .normal := hx; subst this; exact hret (.inl hex)
  | ret => rw [hex] at hx; have : e = .ret := hx; subst this; exact hret (.inr hex)
  | pan x =>
    rw [hex] at hx
    obtain ⟨cv, rfl, hv⟩ := hx
    obtain ⟨rfl, ρ', h3, h4⟩ := finish_pan h hex hr he
    show Leaves P fn a.tmps _ a.defers _ w
    rw [hd]
    exact ⟨ρ', S, h3, h4, cv, rfl, hv⟩
  | exit i => unfold finish at h; rw [hex] at h; cases h
end

/-! ### The calls that were put off -/

theorem run_invoke_fn {f : FuncId} {args : Array Value} (hf : Enters P f) : (invoke (.fn (.func f) #[]) args).run P w = .ok (.enter f args) w := by
  simp only [invoke]
  have := run_callFunc (P := P) (w := w) (args := args ++ #[]) hf
  simpa using this

/-- How a call is left: it returns, or it panics. -/
def LvR (P : Program) (S : Cells) (w : World) : Ex → FrameMode → Prop
  | .norm, u | .ret, u => u = .returning
  | .pan x, u => ∃ cv, u = .panicking [{ v := cv, recovered := false }] ∧ VE P w S x cv
  | .exit _, _ => False

theorem leaving_ok {C : Ctx} {run : RunF} {loop : Code → Fr → Heap → Option Out} {r : Res} {σ' σ0 : Heap} {ρ0 : Gr} {S0 : Cells} {w0 : World} {fn : Func} {o : Out} {tm : Array Value} (hrun : RunOk C.P run) (h0 : σ0.length = C.m) :
    ∀ (ds : List Df) (σ : Heap) (ex : Ex) (cs : List Deferred) (ρ : Gr) (S : Cells) (w : World) (u : FrameMode), (leaving C fn o ds σ ex).runs run loop = some (r, σ') → Rel C.P σ ρ S w → Ext σ0 ρ0 S0 w0 σ ρ S w → FR C.P σ ρ S w o.fr tm →
      DfsR C.P σ ρ S w ds cs → LvR C.P S w ex u → Leaves C.P fn tm (RunPost C.P r σ' σ0 ρ0 S0 w0) cs u w := by
  intro ds
  induction ds with
  | nil =>
    intro σ ex cs ρ S w u h hr he hf hd hu
    have := hd.nil_inv; subst this
    unfold leaving at h
    rw [← h0] at h
    cases ex with
    | norm =>
      have : u = .returning := hu
      subst this
      obtain ⟨v, cv, ρ', h1, h2, h3, h4, h5⟩ := finish_val (a := { tmps := tm, defers := [] }) h (.inl rfl) hr he hf
      subst h1
      exact ⟨cv, h2, ρ', S, h3, h4, cv, rfl, h5⟩
    | ret =>
      have : u = .returning := hu
      subst this
      obtain ⟨v, cv, ρ', h1, h2, h3, h4, h5⟩ := finish_val (a := { tmps := tm, defers := [] }) h (.inr rfl) hr he hf
      subst h1
      exact ⟨cv, h2, ρ', S, h3, h4, cv, rfl, h5⟩
    | pan x =>
      obtain ⟨cv, rfl, hv⟩ := hu
      obtain ⟨rfl, ρ', h3, h4⟩ := finish_pan h rfl hr he
      exact ⟨ρ', S, h3, h4, cv, rfl, hv⟩
    | exit i => exact hu.elim
  | cons d ds ih =>
    intro σ ex cs ρ S w u h hr he hf hd hu
    cases hd with
    | cons d c ds cs hd hds =>
      obtain ⟨cargs, rfl, hargs⟩ := hd
      unfold leaving at h
      simp only at h
      generalize hids : closure σ 6 (addNew [] (d.args.flatMap AV.ids2)) = ids at h
      have hn : ids.Nodup := by rw [← hids]; exact closure_nodup _ _ _ (addNew_nodup _ _ (by simp))
      have hin : ∀ x ∈ d.args.flatMap AV.ids2, x ∈ ids := fun x hx => by rw [← hids]; exact closure_mem _ _ _ _ (addNew_mem _ _ _ hx)
      clear hids
      -- behind the call
      have hback : ∀ (σc h' : Heap) (rr : Res) (ρ1' : Gr) (S' : Cells) (w' : World), subHeap σ ids = some σc → okHeap σc h' = true → Rel C.P h' ρ1' S' w' → Ext σc (subGr ρ ids) S w h' ρ1' S' w' →
          ∃ ρ', Rel C.P (backTo ids (likeHeap σc h') σ) ρ' S' w' ∧ Ext σ ρ S w (backTo ids (likeHeap σc h') σ) ρ' S' w' := by
        intro σc h' rr ρ1' S' w' hs hok h1 h2
        obtain ⟨e1, e2⟩ := likeHeap_ok hok
        rw [e1]
        obtain ⟨h4, h5, _⟩ := back_ok hr hn hs h1 h2 (by omega)
        exact ⟨_, h4, h5⟩
      split at h
      · cases h
      · rename_i σc hs
        have hret : LvR C.P S w .ret u → (T.call (some none) d.f (d.args.map (AV.ren2 (idx ids))) σc fun rh =>
            match rh with
            | (.ret _, h) => .br (okHeap σc h) (leaving C fn o ds (backTo ids (likeHeap σc h) σ) .ret) .fail
            | _ => .fail).runs run loop = some (r, σ') → Leaves C.P fn tm (RunPost C.P r σ' σ0 ρ0 S0 w0) ({ target := .fn (.func d.f) #[], args := cargs } :: cs) u w := by
          intro hu h
          have hu' : u = .returning := hu
          subst hu'
          obtain ⟨⟨rr, h'⟩, hrn, hk⟩ := Option.bind_eq_some_iff.1 h
          obtain ⟨hen, hcall⟩ := hrun _ _ _ _ _ _ hrn
          have hc := hcall (subGr ρ ids) S w cargs (hr.sub hn hs) (args_sub hr.len hs hin hargs) .returning rfl
          refine leaves_cons (by simp) (run_invoke_fn hen) (CallsD.mono hc ?_)
          rintro e u' w' ⟨ρ1', S', h1, h2, ⟨cv', rfl⟩, hm⟩
          cases rr with
          | ret v =>
            have : u' = .returning := hm
            subst this
            simp only at hk
            obtain ⟨hok, hk⟩ := go_must hk
            obtain ⟨ρ', h4, h5⟩ := hback σc h' (.ret v) ρ1' S' w' hs hok h1 h2
            exact ih _ .ret cs ρ' S' w' _ hk h4 (he.trans h5) (hf.mono h5) (hds.mono h5) rfl
          | rcv v => cases hk
          | pan y => cases hk
        cases ex with
        | norm => exact hret hu h
        | ret => exact hret hu h
        | exit i => exact hu.elim
        | pan x =>
          obtain ⟨⟨rr, h'⟩, hrn, hk⟩ := Option.bind_eq_some_iff.1 h
          obtain ⟨hen, hcall⟩ := hrun _ _ _ _ _ _ hrn
          obtain ⟨cv, rfl, hv⟩ := hu
          have hc := hcall (subGr ρ ids) S w cargs (hr.sub hn hs) (args_sub hr.len hs hin hargs) (.panicking [{ v := cv, recovered := false }]) ⟨cv, hv, rfl⟩
          refine leaves_cons (by simp) (run_invoke_fn hen) (CallsD.mono hc ?_)
          rintro e u' w' ⟨ρ1', S', h1, h2, ⟨cv', rfl⟩, hm⟩
          cases rr with
          | rcv v =>
            obtain ⟨cv2, rfl⟩ := hm
            simp only at hk
            obtain ⟨hok, hk⟩ := go_must hk
            obtain ⟨ρ', h4, h5⟩ := hback σc h' (.rcv v) ρ1' S' w' hs hok h1 h2
            exact ih _ .ret cs ρ' S' w' _ hk h4 (he.trans h5) (hf.mono h5) (hds.mono h5) rfl
          | ret v =>
            have : u' = .panicking [{ v := cv, recovered := false }] := hm
            subst this
            simp only at hk
            obtain ⟨hok, hk⟩ := go_must hk
            obtain ⟨ρ', h4, h5⟩ := hback σc h' (.ret v) ρ1' S' w' hs hok h1 h2
            exact ih _ (.pan x) cs ρ' S' w' _ hk h4 (he.trans h5) (hf.mono h5) (hds.mono h5) ⟨cv, rfl, hv.mono h5.cell⟩
          | pan y => exact hm.elim

end
end Go.Den
