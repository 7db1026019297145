/- Calls: what a callee's results and objects are, is said by their types; and the caller goes on with them. -/
import Derived.Test.YtdlfldeacoiokaaDen15
namespace Go.Den
open Go

section
variable {P : Program}

theorem okCells_spec {ft : List TypeId} {rs : List AV} (h : okCells P ft rs = true) : rs.length = ft.length ∧
    ∀ (j : Nat) (ct : TypeId) (v : AV), ft[j]? = some ct → rs[j]? = some v → ∃ x, v = .e x ∧ okCell P ct x = true := by
  unfold okCells at h
  rw [Bool.and_eq_true] at h
  refine ⟨by simpa using h.1, fun j ct v h1 h2 => ?_⟩
  have hz : (ft.zip rs)[j]? = some (ct, v) := by rw [List.getElem?_zip_eq_some]; exact ⟨h1, h2⟩
  have := List.all_eq_true.1 h.2 _ (List.mem_of_getElem? hz)
  cases v <;> simp at this
  exact ⟨_, rfl, this⟩

theorem seal1_e {x : E} : (AV.e x).seal1 = some x := rfl

theorem seal_cells : ∀ {rs : List AV}, (∀ (j : Nat) (v : AV), rs[j]? = some v → ∃ x, v = .e x) → ∃ xs : List E, rs = xs.map AV.e ∧ rs.mapM AV.seal1 = some xs
  | [], _ => ⟨[], rfl, rfl⟩
  | v :: rs, h => by
    obtain ⟨x, rfl⟩ := h 0 v rfl
    obtain ⟨xs, h1, h2⟩ := seal_cells (rs := rs) fun j v hj => h (j + 1) v (by simpa using hj)
    exact ⟨x :: xs, by simp [h1], by simp [List.mapM_cons, seal1_e, h2]⟩

theorem canonRes1_ok {t : TypeId} {r v : AV} (h : okRes1 P t r = true) (hc : canonRes1 P t r = some v) : v = r ∧ (∀ f, r.ren2 f = r) ∧ ∀ cs, r ≠ .tup cs := by
  unfold okRes1 at h
  unfold canonRes1 at hc
  by_cases ha : isAggB P t = true
  · rw [if_pos ha] at h hc
    cases hf : flat P depth t with
    | none => rw [hf] at h; cases h
    | some ft =>
      cases r with
      | agg rs =>
        simp only [hf] at h hc
        obtain ⟨h1, h2⟩ := okCells_spec h
        have he : ∀ (j : Nat) (v : AV), rs[j]? = some v → ∃ x, v = .e x := fun j v hj => by
          have hl : j < ft.length := by rw [← h1]; exact (List.getElem?_eq_some_iff.1 hj).1
          obtain ⟨x, hx, _⟩ := h2 j ft[j] v (by simp [hl]) hj
          exact ⟨x, hx⟩
        obtain ⟨xs, hx1, hx2⟩ := seal_cells he
        have hd : (AV.agg rs).data = .agg xs := by simp [AV.data, AV.dat, hx2]
        obtain ⟨cs, hcs, rfl⟩ := Option.map_eq_some_iff.1 hc
        obtain ⟨h3, h4⟩ := mapM_some_get hcs
        refine ⟨?_, fun f => ?_, fun cs e => by cases e⟩
        · congr 1
          apply List.ext_getElem?
          intro j
          by_cases hj : j < ft.length
          · obtain ⟨y, hy, hy'⟩ := h4 j (ft[j], j) (by simp [hj])
            rw [hy']
            obtain ⟨u, hu, rfl⟩ := Option.map_eq_some_iff.1 hy
            have hjr : j < rs.length := by omega
            obtain ⟨x, hx, hok⟩ := h2 j ft[j] rs[j] (by simp [hj]) (by simp [hjr])
            have hxs : xs[j]? = some x := by
              have : (xs.map AV.e)[j]? = some (.e x) := by rw [← hx1]; simp [hjr, hx]
              rw [List.getElem?_map] at this
              obtain ⟨z, hz, hz'⟩ := Option.map_eq_some_iff.1 this
              cases hz'; exact hz
            rw [hd, E.cell_of (y := .agg xs) (x := x) (by exact hxs)] at hu
            rw [canon_ok hu hok, List.getElem?_eq_getElem hjr, hx]
          · rw [List.getElem?_eq_none (by rw [h3]; simp; omega), List.getElem?_eq_none (by omega)]
        · simp only [AV.ren2]
          congr 1
          rw [hx1]
          simp [AV.ren1]
      | e _ | nils _ | own _ _ _ | tup _ | ptr _ _ | nilp | pin _ _ _ | fn _ | undef => simp [hf] at h
  · rw [if_neg ha] at h hc
    cases r with
    | e x =>
      obtain ⟨u, hu, rfl⟩ := Option.map_eq_some_iff.1 hc
      cases x with
      | agg cs => have := okCell_one h; simp [AV.one] at this
      | int k n => exact ⟨by rw [canon_ok hu (by simpa [AV.data, AV.dat, AV.seal1] using h)]; rfl, fun f => rfl, fun cs e => by cases e⟩
      | bool b => exact ⟨by rw [canon_ok hu (by simpa [AV.data, AV.dat, AV.seal1] using h)]; rfl, fun f => rfl, fun cs e => by cases e⟩
      | str s => exact ⟨by rw [canon_ok hu (by simpa [AV.data, AV.dat, AV.seal1] using h)]; rfl, fun f => rfl, fun cs e => by cases e⟩
      | sl e xs => exact ⟨by rw [canon_ok hu (by simpa [AV.data, AV.dat, AV.seal1] using h)]; rfl, fun f => rfl, fun cs e => by cases e⟩
      | ifc t x => exact ⟨by rw [canon_ok hu (by simpa [AV.data, AV.dat, AV.seal1] using h)]; rfl, fun f => rfl, fun cs e => by cases e⟩
      | nili => exact ⟨by rw [canon_ok hu (by simpa [AV.data, AV.dat, AV.seal1] using h)]; rfl, fun f => rfl, fun cs e => by cases e⟩
    | nils _ | own _ _ _ | agg _ | tup _ | ptr _ _ | nilp | pin _ _ _ | fn _ | undef => simp at h

theorem canonRes_ok {t : TypeId} {r : Res} {v : AV} (h : okRes P t r = true) (hc : canonRes P t r.val = some v) : ∃ u, r = .ret u ∧ v = u ∧ ∀ f, u.ren3 f = u := by
  unfold okRes at h
  cases r with
  | pan x => cases h
  | ret u =>
    refine ⟨u, rfl, ?_⟩
    simp only [Res.val] at hc
    unfold canonRes at hc
    simp only at h
    split at h
    · rename_i ts hu
      rw [hu] at hc
      split at h
      · rename_i vs
        simp only at hc
        rw [Bool.and_eq_true] at h
        obtain ⟨ws, hws, rfl⟩ := Option.map_eq_some_iff.1 hc
        obtain ⟨h3, h4⟩ := mapM_some_get hws
        have hlen : vs.length = ts.toList.length := by simpa using h.1
        have hall : ∀ (j : Nat) (hj : j < vs.length), ws[j]? = some vs[j] ∧ ∀ f, vs[j].ren2 f = vs[j] := fun j hj => by
          have hjt : j < ts.toList.length := by omega
          obtain ⟨y, hy, hy'⟩ := h4 j (ts.toList[j], j) (by simp [List.getElem?_zipIdx])
          have hz : (ts.toList.zip vs)[j]? = some (ts.toList[j], vs[j]) := by
            rw [List.getElem?_zip_eq_some]; exact ⟨List.getElem?_eq_getElem hjt, List.getElem?_eq_getElem hj⟩
          have hok := List.all_eq_true.1 h.2 _ (List.mem_of_getElem? hz)
          have hcomp : AV.comp (.tup vs) j = vs[j] := by simp [AV.comp, List.getD_eq_getElem?_getD, hj]
          rw [hcomp] at hy
          obtain ⟨h5, h6, _⟩ := canonRes1_ok hok hy
          exact ⟨by rw [hy', h5], h6⟩
        refine ⟨?_, fun f => ?_⟩
        · congr 1
          apply List.ext_getElem?
          intro j
          by_cases hj : j < vs.length
          · rw [(hall j hj).1, List.getElem?_eq_getElem hj]
          · rw [List.getElem?_eq_none (by rw [h3]; simp at hlen ⊢; omega), List.getElem?_eq_none (by omega)]
        · simp only [AV.ren3]
          congr 1
          apply List.ext_getElem?
          intro j
          rw [List.getElem?_map]
          by_cases hj : j < vs.length
          · rw [List.getElem?_eq_getElem hj]; simp [(hall j hj).2]
          · rw [List.getElem?_eq_none (by omega)]; rfl
      · cases h
    · rename_i h0 hu
      rw [hu] at hc
      have hc' : canonRes1 P t u = some v := by
        rename_i x
        cases x <;> first | exact hc | exact absurd rfl (h0 _)
      obtain ⟨h5, h6, h7⟩ := canonRes1_ok h hc'
      exact ⟨h5, fun f => by rw [(ren2_tup f h7).1]; exact h6 f⟩
    · cases h

theorem likeCell_ok {c d : AV} (h : okLike c d = true) : likeCell c d = d := by
  unfold okLike at h
  split at h <;> first | cases h; done | skip
  · simp at h; subst h; rfl
  · rfl
  · rfl
  · simp at h; subst h; rfl
  · simp at h; obtain ⟨h1, h2⟩ := h; subst h1; subst h2; rfl
  · simp at h; obtain ⟨h1, h2⟩ := h; subst h1; subst h2; rfl
  · rfl
  · simp at h; subst h; rfl

theorem likeHeap_ok {σ h : Heap} (ho : okHeap σ h = true) : likeHeap σ h = h ∧ h.length = σ.length := by
  unfold okHeap at ho
  rw [Bool.and_eq_true] at ho
  have hlen : σ.length = h.length := by simpa using ho.1
  refine ⟨?_, hlen.symm⟩
  apply List.ext_getElem?
  intro k
  unfold likeHeap
  rw [List.getElem?_map, List.getElem?_zipIdx]
  by_cases hk : k < σ.length
  · have hkh : k < h.length := by omega
    have hz : (σ.zip h)[k]? = some (σ[k], h[k]) := by rw [List.getElem?_zip_eq_some]; exact ⟨List.getElem?_eq_getElem hk, List.getElem?_eq_getElem hkh⟩
    have hok := List.all_eq_true.1 ho.2 _ (List.mem_of_getElem? hz)
    have hob : Heap.ob h k = h[k] := by simp [Heap.ob, List.getD_eq_getElem?_getD, hkh]
    rw [List.getElem?_eq_getElem hk, List.getElem?_eq_getElem hkh]
    simp only [Option.map_some, Nat.zero_add, hob]
    congr 1
    generalize σ[k] = o at *
    generalize h[k] = q at *
    cases o <;> cases q <;> simp at hok
    · rename_i cs ds
      simp only
      congr 1
      apply List.ext_getElem?
      intro j
      rw [List.getElem?_map, List.getElem?_zipIdx]
      by_cases hj : j < cs.length
      · have hjd : j < ds.length := by omega
        have hz : (cs.zip ds)[j]? = some (cs[j], ds[j]) := by rw [List.getElem?_zip_eq_some]; exact ⟨List.getElem?_eq_getElem hj, List.getElem?_eq_getElem hjd⟩
        have := hok.2 _ _ (List.mem_of_getElem? hz)
        rw [List.getElem?_eq_getElem hj, List.getElem?_eq_getElem hjd]
        simp only [Option.map_some, Nat.zero_add, Ob.cell, List.getD_eq_getElem?_getD, List.getElem?_eq_getElem hjd, Option.getD_some]
        rw [likeCell_ok this]
      · rw [List.getElem?_eq_none (by omega), List.getElem?_eq_none (by omega)]; rfl
    · subst hok; rfl
  · rw [List.getElem?_eq_none (by omega), List.getElem?_eq_none (by omega)]; rfl

/-- What a call of a Go function comes to. -/
inductive Come where
  | ret (v : AV) (h : Heap)
  | pan (x : E) (h : Heap)

def CallOut (C : Ctx) (f : FuncId) (args : List AV) (σ : Heap) (out : Come) : Prop :=
  ∃ (ids : List Nat) (σc : Heap) (r : Res) (h : Heap), ids = closure σ 6 (addNew [] ((args.map AV.calm).flatMap AV.ids2)) ∧ subHeap σ ids = some σc ∧
    C.run f ((args.map AV.calm).map (AV.ren2 (idx ids))) σc = some (r, h) ∧ h.length = σc.length ∧
    out = match r with | .ret v => .ret (v.ren3 (unidx ids)) (backTo ids h σ) | .pan x => .pan x (backTo ids h σ)

theorem callK_inv {R : Type} {C : Ctx} {t : TypeId} {f : FuncId} {args : List AV} {σ : Heap} {K : AV → Heap → Option R} {Kp : E → Heap → Option R} {r : R}
    (h : callK C t f args σ K Kp = some r) : ∃ out, CallOut C f args σ out ∧ (match out with | .ret v h => K v h | .pan x h => Kp x h) = some r := by
  unfold callK at h
  simp only at h
  split at h
  · cases h
  · rename_i σc hs
    obtain ⟨rh, hrun, h⟩ := Option.bind_eq_some_iff.1 h
    obtain ⟨h1, _⟩ := subHeap_spec hs
    split at h
    · -- no objects
      have hid : closure σ 6 (addNew [] ((args.map AV.calm).flatMap AV.ids2)) = [] := by
        apply List.eq_nil_of_length_eq_zero; rw [← h1]; rfl
      split at h
      · rename_i v hc
        have hb : backTo (closure σ 6 (addNew [] ((args.map AV.calm).flatMap AV.ids2))) [] σ = σ := by rw [hid]; rfl
        have hret : okRes C.P t rh.1 = true → rh.2.isEmpty = true → K v σ = some r → ∃ out, CallOut C f args σ out ∧ (match out with | .ret v h => K v h | .pan x h => Kp x h) = some r := by
          intro h2 h3 h4
          obtain ⟨u, hu, hv, hren⟩ := canonRes_ok h2 hc
          subst hv
          have h3' : rh.2 = [] := by simpa using h3
          refine ⟨.ret v σ, ⟨_, _, rh.1, rh.2, rfl, hs, hrun, by rw [h3'], ?_⟩, h4⟩
          rw [hu, h3', hb]
          simp only
          rw [hren]
        split at h
        · cases he : rh.2.isEmpty with
          | false => rw [he] at h; cases h
          | true =>
            rw [he, cond_true] at h
            cases hp : rh.1.isPan with
            | true =>
              rw [hp, cond_true] at h
              cases hr : rh.1 with
              | ret u => rw [hr] at hp; cases hp
              | pan x =>
                have h3' : rh.2 = [] := by simpa using he
                refine ⟨.pan x σ, ⟨_, _, rh.1, rh.2, rfl, hs, hrun, by rw [h3'], ?_⟩, ?_⟩
                · rw [hr, h3', hb]
                · rw [hr] at h; exact h
            | false =>
              rw [hp, cond_false] at h
              cases ho : okRes C.P t rh.1 with
              | false => rw [ho] at h; cases h
              | true => rw [ho, cond_true] at h; exact hret ho he h
        · cases ho : okRes C.P t rh.1 && rh.2.isEmpty with
          | false => rw [ho] at h; cases h
          | true => rw [ho, cond_true] at h; rw [Bool.and_eq_true] at ho; exact hret ho.1 ho.2 h
      · cases h
    · split at h
      · rename_i v hc
        have hret : okRes C.P t rh.1 = true → okHeap σc rh.2 = true → K (v.ren3 (unidx (closure σ 6 (addNew [] ((args.map AV.calm).flatMap AV.ids2)))))
            (backTo (closure σ 6 (addNew [] ((args.map AV.calm).flatMap AV.ids2))) (likeHeap σc rh.2) σ) = some r →
            ∃ out, CallOut C f args σ out ∧ (match out with | .ret v h => K v h | .pan x h => Kp x h) = some r := by
          intro h2 h3 h4
          obtain ⟨u, hu, hv, hren⟩ := canonRes_ok h2 hc
          subst hv
          obtain ⟨h5, h6⟩ := likeHeap_ok h3
          rw [h5] at h4
          exact ⟨.ret _ _, ⟨_, _, rh.1, rh.2, rfl, hs, hrun, h6, by rw [hu]⟩, h4⟩
        split at h
        · cases he : okHeap σc rh.2 with
          | false => rw [he] at h; cases h
          | true =>
            rw [he, cond_true] at h
            cases hp : rh.1.isPan with
            | true =>
              rw [hp, cond_true] at h
              cases hr : rh.1 with
              | ret u => rw [hr] at hp; cases hp
              | pan x =>
                obtain ⟨h5, h6⟩ := likeHeap_ok he
                rw [h5] at h
                refine ⟨.pan x _, ⟨_, _, rh.1, rh.2, rfl, hs, hrun, h6, by rw [hr]⟩, ?_⟩
                rw [hr] at h; exact h
            | false =>
              rw [hp, cond_false] at h
              cases ho : okRes C.P t rh.1 with
              | false => rw [ho] at h; cases h
              | true => rw [ho, cond_true] at h; exact hret ho he h
        · cases ho : okRes C.P t rh.1 && okHeap σc rh.2 with
          | false => rw [ho] at h; cases h
          | true => rw [ho, cond_true] at h; rw [Bool.and_eq_true] at ho; exact hret ho.1 ho.2 h
      · cases h

end

/-- A Go function's run, of which the interpreter says what it comes to. -/
def RunPost (P : Program) (r : Res) (σ' : Heap) (σ : Heap) (ρ : Gr) (S : Cells) (w : World) (e : Ending) (w' : World) : Prop :=
  ∃ ρ' S', Rel P σ' ρ' S' w' ∧ Ext σ ρ S w σ' ρ' S' w' ∧
    match r with
    | .ret v => ∃ cv, e = .returned cv ∧ VA3 P σ' ρ' S' w' v cv
    | .pan x => ∃ cv, e = .panicked [{ v := cv, recovered := false }] ∧ VE P w' S' x cv

/-- The call of this function enters its body. -/
def Enters (P : Program) (f : FuncId) : Prop := ∃ fn, P.funcs[f]? = some fn ∧ (fn.name == "runtime.NumGoroutine") = false ∧ fn.body.isNone = false

def RunOk (P : Program) (run : FuncId → List AV → Heap → Option (Res × Heap)) : Prop :=
  ∀ (f : FuncId) (args : List AV) (σ : Heap) (r : Res) (σ' : Heap), run f args σ = some (r, σ') → Enters P f ∧ ∀ (ρ : Gr) (S : Cells) (w : World) (cargs : Array Value), Rel P σ ρ S w →
    cargs.size = args.length → (∀ (j : Nat) (v : AV), args[j]? = some v → ∃ cv, cargs[j]? = some cv ∧ VA2 P σ ρ S w v cv) → Calls P f cargs w (RunPost P r σ' σ ρ S w)

section
variable {P : Program} {σ : Heap} {ρ : Gr} {S : Cells} {w : World}

theorem calm1_ok {v : AV} {cv : Value} (hv : VA1 P σ ρ S w v cv) : VA1 P σ ρ S w v.calm1 cv := by
  unfold AV.calm1
  split
  · rename_i x h
    exact seal1_ok h hv
  · exact hv

theorem calm1_one {v : AV} (h : v.one = true) : v.calm1.one = true := by
  cases v <;> simp [AV.calm1, AV.seal1] <;> first | exact h | rfl

theorem calm_ok {v : AV} {cv : Value} (hv : VA3 P σ ρ S w v cv) : VA2 P σ ρ S w v.calm cv := by
  unfold AV.calm
  split
  · rename_i cs
    obtain ⟨arr, h1, h2, h3⟩ : ∃ arr : Array Value, cv = .agg arr ∧ arr.size = cs.length ∧ ∀ (j : Nat) (v : AV), cs[j]? = some v → v.one = true ∧ ∃ x, arr[j]? = some x ∧ VA1 P σ ρ S w v x := hv
    refine ⟨arr, h1, by simpa using h2, fun j u hj => ?_⟩
    rw [List.getElem?_map] at hj
    obtain ⟨v, hv, rfl⟩ := Option.map_eq_some_iff.1 hj
    obtain ⟨ho, x, h4, h5⟩ := h3 j v hv
    exact ⟨calm1_one ho, x, h4, calm1_ok h5⟩
  · trivial
  · rename_i h1 h2
    rw [VA3_eq h2, VA2_eq h1] at hv
    exact (calm1_ok hv).to2

theorem CallOut_ok {C : Ctx} (hrun : RunOk P C.run) {f : FuncId} {args : List AV} {cargs : Array Value} {out : Come} (hr : Rel P σ ρ S w) (hsz : cargs.size = args.length)
    (ha : ∀ (j : Nat) (v : AV), args[j]? = some v → ∃ cv, cargs[j]? = some cv ∧ VA3 P σ ρ S w v cv) (h : CallOut C f args σ out) :
    Enters P f ∧ Calls P f cargs w fun e w' => ∃ ρ' S', match out with
      | .ret v σ' => Rel P σ' ρ' S' w' ∧ Ext σ ρ S w σ' ρ' S' w' ∧ ∃ cv, e = .returned cv ∧ VA3 P σ' ρ' S' w' v cv
      | .pan x σ' => Rel P σ' ρ' S' w' ∧ Ext σ ρ S w σ' ρ' S' w' ∧ ∃ cv, e = .panicked [{ v := cv, recovered := false }] ∧ VE P w' S' x cv := by
  obtain ⟨ids, σc, r, h', hids, hs, hrun', hlen, hout⟩ := h
  have hn : ids.Nodup := by rw [hids]; exact closure_nodup _ _ _ (addNew_nodup _ _ (by simp))
  refine ⟨(hrun f _ σc r h' hrun').1, Calls.mono ((hrun f _ σc r h' hrun').2 (subGr ρ ids) S w cargs (hr.sub hn hs) (by simpa using hsz) ?_) ?_⟩
  · intro j v hj
    rw [List.getElem?_map, List.getElem?_map, Option.map_map] at hj
    obtain ⟨u, hu, rfl⟩ := Option.map_eq_some_iff.1 hj
    obtain ⟨cv, h1, h2⟩ := ha j u hu
    refine ⟨cv, h1, VA2.sub hr.len hs (calm_ok h2) fun x hx => ?_⟩
    rw [hids]
    exact closure_mem _ _ _ _ (addNew_mem _ _ _ (List.mem_flatMap.2 ⟨u.calm, List.mem_map.2 ⟨u, List.mem_of_getElem? hu, rfl⟩, hx⟩))
  · rintro e w' ⟨ρ1', S', h1, h2, h3⟩
    obtain ⟨h4, h5, h6⟩ := back_ok hr hn hs h1 h2 hlen
    refine ⟨backGr ids ρ1' ρ, S', ?_⟩
    subst hout
    cases r with
    | ret v =>
      obtain ⟨cv, h7, h8⟩ := h3
      exact ⟨h4, h5, cv, h7, lift3 (G := fun _ => True) (fun v cv h _ => h6 v cv h) h8 (fun _ _ => trivial)⟩
    | pan x =>
      obtain ⟨cv, h7, h8⟩ := h3
      exact ⟨h4, h5, cv, h7, h8⟩

end
end Go.Den
