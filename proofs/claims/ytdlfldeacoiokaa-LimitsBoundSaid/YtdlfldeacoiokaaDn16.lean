/- Calls: what a callee's results and objects are, is said by their types; and the caller goes on with them. -/
import Derived.Test.YtdlfldeacoiokaaDn15
import Derived.Recover
namespace Go.Den
open Go

section
variable {P : Program}

theorem okCells_spec {ft : List TypeId} {rs : List AV} (h : okCells P ft rs = true) : rs.length = ft.length ∧
    ∀ (j : Nat) (ct : TypeId) (v : AV), ft[j]? = some ct → rs[j]? = some v → ∃ x, v = .e x ∧ okCell P ct x = true := by
  unfold okCells at h
  rw [Bool.and_eq_true] at h
  refine ⟨by simpa using h.1, fun j ct v h1 h2 => ?_⟩
  have hz : (ft.zip rs)[j]? = some (ct, v) := by rw [List.getElem?_zip_eq_some]; exact ⟨h1, h2⟩
  have := List.all_eq_true.1 h.2 _ (List.mem_of_getElem? hz)
  cases v <;> simp at this
  exact ⟨_, rfl, this⟩

theorem seal1_e {x : E} : (AV.e x).seal1 = some x := rfl

theorem seal_cells : ∀ {rs : List AV}, (∀ (j : Nat) (v : AV), rs[j]? = some v → ∃ x, v = .e x) → ∃ xs : List E, rs = xs.map AV.e ∧ rs.mapM AV.seal1 = some xs
  | [], _ => ⟨[], rfl, rfl⟩
  | v :: rs, h => by
    obtain ⟨x, rfl⟩ := h 0 v rfl
    obtain ⟨xs, h1, h2⟩ := seal_cells (rs := rs) fun j v hj => h (j + 1) v (by simpa using hj)
    exact ⟨x :: xs, by simp [h1], by simp [List.mapM_cons, seal1_e, h2]⟩

theorem canonRes1_ok {t : TypeId} {r v : AV} (h : okRes1 P t r = true) (hc : canonRes1 P t r = some v) : v = r ∧ (∀ f, r.ren2 f = r) ∧ ∀ cs, r ≠ .tup cs := by
  unfold okRes1 at h
  unfold canonRes1 at hc
  by_cases ha : isAggB P t = true
  · rw [if_pos ha] at h hc
    cases hf : flat P depth t with
    | none => rw [hf] at h; cases h
    | some ft =>
      cases r with
      | agg rs =>
        simp only [hf] at h hc
        obtain ⟨h1, h2⟩ := okCells_spec h
        have he : ∀ (j : Nat) (v : AV), rs[j]? = some v → ∃ x, v = .e x := fun j v hj => by
          have hl : j < ft.length := by rw [← h1]; exact (List.getElem?_eq_some_iff.1 hj).1
          obtain ⟨x, hx, _⟩ := h2 j ft[j] v (by simp [hl]) hj
          exact ⟨x, hx⟩
        obtain ⟨xs, hx1, hx2⟩ := seal_cells he
        have hd : (AV.agg rs).data = .agg xs := by simp [AV.data, AV.dat, hx2]
        obtain ⟨cs, hcs, rfl⟩ := Option.map_eq_some_iff.1 hc
        obtain ⟨h3, h4⟩ := mapM_some_get hcs
        refine ⟨?_, fun f => ?_, fun cs e => by cases e⟩
        · congr 1
          apply List.ext_getElem?
          intro j
          by_cases hj : j < ft.length
          · obtain ⟨y, hy, hy'⟩ := h4 j (ft[j], j) (by simp [hj])
            rw [hy']
            obtain ⟨u, hu, rfl⟩ := Option.map_eq_some_iff.1 hy
            have hjr : j < rs.length := by omega
            obtain ⟨x, hx, hok⟩ := h2 j ft[j] rs[j] (by simp [hj]) (by simp [hjr])
            have hxs : xs[j]? = some x := by
              have : (xs.map AV.e)[j]? = some (.e x) := by rw [← hx1]; simp [hjr, hx]
              rw [List.getElem?_map] at this
              obtain ⟨z, hz, hz'⟩ := Option.map_eq_some_iff.1 this
              cases hz'; exact hz
            rw [hd, E.cell_of (y := .agg xs) (x := x) (by exact hxs)] at hu
            rw [canon_ok hu hok, List.getElem?_eq_getElem hjr, hx]
          · rw [List.getElem?_eq_none (by rw [h3]; simp; omega), List.getElem?_eq_none (by omega)]
        · simp only [AV.ren2]
          congr 1
          rw [hx1]
          simp [AV.ren1]
      | _ => simp [hf] at h
  · rw [if_neg ha] at h hc
    cases r with
    | e x =>
      obtain ⟨u, hu, rfl⟩ := Option.map_eq_some_iff.1 hc
      cases x with
      | agg cs => have := okCell_one h; simp [AV.one] at this
      | int k n => exact ⟨by rw [canon_ok hu (by simpa [AV.data, AV.dat, AV.seal1] using h)]; rfl, fun f => rfl, fun cs e => by cases e⟩
      | bool b => exact ⟨by rw [canon_ok hu (by simpa [AV.data, AV.dat, AV.seal1] using h)]; rfl, fun f => rfl, fun cs e => by cases e⟩
      | str s => exact ⟨by rw [canon_ok hu (by simpa [AV.data, AV.dat, AV.seal1] using h)]; rfl, fun f => rfl, fun cs e => by cases e⟩
      | sl e xs => exact ⟨by rw [canon_ok hu (by simpa [AV.data, AV.dat, AV.seal1] using h)]; rfl, fun f => rfl, fun cs e => by cases e⟩
      | ifc t x => exact ⟨by rw [canon_ok hu (by simpa [AV.data, AV.dat, AV.seal1] using h)]; rfl, fun f => rfl, fun cs e => by cases e⟩
      | nili => exact ⟨by rw [canon_ok hu (by simpa [AV.data, AV.dat, AV.seal1] using h)]; rfl, fun f => rfl, fun cs e => by cases e⟩
    | _ => simp at h

theorem canonRes_ok {t : TypeId} {r : Res} {v : AV} (h : okRes P t r = true) (hc : canonRes P t r.val = some v) : ∃ u, r = .ret u ∧ v = u ∧ ∀ f, u.ren3 f = u := by
  unfold okRes at h
  cases r with
  | pan x => cases h
  | rcv x => cases h
  | ret u =>
    refine ⟨u, rfl, ?_⟩
    simp only [Res.val] at hc
    unfold canonRes at hc
    simp only at h
    split at h
    · rename_i ts hu
      rw [hu] at hc
      split at h
      · rename_i vs
        simp only at hc
        rw [Bool.and_eq_true] at h
        obtain ⟨ws, hws, rfl⟩ := Option.map_eq_some_iff.1 hc
        obtain ⟨h3, h4⟩ := mapM_some_get hws
        have hlen : vs.length = ts.toList.length := by simpa using h.1
        have hall : ∀ (j : Nat) (hj : j < vs.length), ws[j]? = some vs[j] ∧ ∀ f, vs[j].ren2 f = vs[j] := fun j hj => by
          have hjt : j < ts.toList.length := by omega
          obtain ⟨y, hy, hy'⟩ := h4 j (ts.toList[j], j) (by simp [List.getElem?_zipIdx])
          have hz : (ts.toList.zip vs)[j]? = some (ts.toList[j], vs[j]) := by
            rw [List.getElem?_zip_eq_some]; exact ⟨List.getElem?_eq_getElem hjt, List.getElem?_eq_getElem hj⟩
          have hok := List.all_eq_true.1 h.2 _ (List.mem_of_getElem? hz)
          have hcomp : AV.comp (.tup vs) j = vs[j] := by simp [AV.comp, List.getD_eq_getElem?_getD, hj]
          rw [hcomp] at hy
          obtain ⟨h5, h6, _⟩ := canonRes1_ok hok hy
          exact ⟨by rw [hy', h5], h6⟩
        refine ⟨?_, fun f => ?_⟩
        · congr 1
          apply List.ext_getElem?
          intro j
          by_cases hj : j < vs.length
          · rw [(hall j hj).1, List.getElem?_eq_getElem hj]
          · rw [List.getElem?_eq_none (by rw [h3]; simp at hlen ⊢; omega), List.getElem?_eq_none (by omega)]
        · simp only [AV.ren3]
          congr 1
          apply List.ext_getElem?
          intro j
          rw [List.getElem?_map]
          by_cases hj : j < vs.length
          · rw [List.getElem?_eq_getElem hj]; simp [(hall j hj).2]
          · rw [List.getElem?_eq_none (by omega)]; rfl
      · cases h
    · rename_i h0 hu
      rw [hu] at hc
      have hc' : canonRes1 P t u = some v := by
        rename_i x
        cases x <;> first | exact hc | exact absurd rfl (h0 _)
      obtain ⟨h5, h6, h7⟩ := canonRes1_ok h hc'
      exact ⟨h5, fun f => by rw [(ren2_tup f h7).1]; exact h6 f⟩
    · cases h

theorem likeCell_ok {c d : AV} (h : okLike c d = true) : likeCell c d = d := by
  unfold okLike at h
  split at h <;> first | (cases h; done) | skip
  · simp at h; subst h; rfl
  · rfl
  · rfl
  · simp at h; subst h; rfl
  · simp at h; obtain ⟨h1, h2⟩ := h; subst h1; subst h2; rfl
  · simp at h; obtain ⟨h1, h2⟩ := h; subst h1; subst h2; rfl
  · rfl
  · simp at h; subst h; rfl
  · simp at h; subst h; rfl
  · simp at h; subst h; rfl
  · simp at h; obtain ⟨h1, h2⟩ := h; subst h1; subst h2; rfl

theorem likeCells_ok {cs ds : List AV} (hl : cs.length = ds.length) (h : ((cs.zip ds).all fun (c, d) => okLike c d) = true) (dflt : AV) : (cs.zipIdx.map fun (c, j) => likeCell c (ds.getD j dflt)) = ds := by
  apply List.ext_getElem?
  intro j
  rw [List.getElem?_map, List.getElem?_zipIdx]
  by_cases hj : j < cs.length
  · have hjd : j < ds.length := by omega
    have hz : (cs.zip ds)[j]? = some (cs[j], ds[j]) := by rw [List.getElem?_zip_eq_some]; exact ⟨List.getElem?_eq_getElem hj, List.getElem?_eq_getElem hjd⟩
    have := List.all_eq_true.1 h _ (List.mem_of_getElem? hz)
    rw [List.getElem?_eq_getElem hj, List.getElem?_eq_getElem hjd]
    simp only [Option.map_some, Nat.zero_add, List.getD_eq_getElem?_getD, List.getElem?_eq_getElem hjd, Option.getD_some]
    rw [likeCell_ok this]
  · rw [List.getElem?_eq_none (by omega), List.getElem?_eq_none (by omega)]; rfl

theorem likeHeap_ok {σ h : Heap} (ho : okHeap σ h = true) : likeHeap σ h = h ∧ h.length = σ.length := by
  unfold okHeap at ho
  rw [Bool.and_eq_true] at ho
  have hlen : σ.length = h.length := by simpa using ho.1
  refine ⟨?_, hlen.symm⟩
  apply List.ext_getElem?
  intro k
  unfold likeHeap
  rw [List.getElem?_map, List.getElem?_zipIdx]
  by_cases hk : k < σ.length
  · have hkh : k < h.length := by omega
    have hz : (σ.zip h)[k]? = some (σ[k], h[k]) := by rw [List.getElem?_zip_eq_some]; exact ⟨List.getElem?_eq_getElem hk, List.getElem?_eq_getElem hkh⟩
    have hok := List.all_eq_true.1 ho.2 _ (List.mem_of_getElem? hz)
    have hob : Heap.ob h k = h[k] := by simp [Heap.ob, List.getD_eq_getElem?_getD, hkh]
    rw [List.getElem?_eq_getElem hk, List.getElem?_eq_getElem hkh]
    simp only [Option.map_some, Nat.zero_add, hob]
    congr 1
    generalize σ[k] = o at *
    generalize h[k] = q at *
    cases o with
    | box cs =>
      cases q with
      | box ds =>
        simp only [Bool.and_eq_true, beq_iff_eq] at hok
        simp only
        congr 1
        exact likeCells_ok hok.1 hok.2 .undef
      | _ => cases hok
    | vec t n =>
      cases q with
      | vec t' n' =>
        have : t = t' := by simpa using hok
        subst this; rfl
      | _ => cases hok
    | raw r =>
      cases r
      cases q with
      | raw r' => cases r'; rfl
      | _ => cases hok
    | dead => cases q <;> first | rfl | cases hok
    | hole => cases q <;> first | rfl | cases hok
  · rw [List.getElem?_eq_none (by omega), List.getElem?_eq_none (by omega)]; rfl

theorem okSlot_ok {p v : AV} (h : okSlot p v = true) : likeSlot p v = .undef ∨ likeSlot p v = v := by
  unfold okSlot at h
  split at h
  · exact .inl rfl
  · rename_i cs ds
    right
    rw [Bool.and_eq_true] at h
    simp only [likeSlot]
    congr 1
    exact likeCells_ok (by simpa using h.1) h.2 .undef
  · right
    cases p with
    | undef => rename_i h1 _; exact (h1 rfl).elim
    | agg cs => simp [okLike] at h
    | _ => exact likeCell_ok h

/-- A value of which less is said. -/
def Weaker (v u : AV) : Prop := ∀ (P : Program) (σ : Heap) (ρ : Gr) (S : Cells) (w : World) (cv : Value), VA3 P σ ρ S w u cv → VA3 P σ ρ S w v cv
theorem Weaker.refl (v : AV) : Weaker v v := fun _ _ _ _ _ _ h => h
theorem Weaker.undef (v : AV) : Weaker .undef v := fun _ _ _ _ _ _ _ => trivial

theorem okVal_ok {p v : AV} (h : okVal p v = true) : Weaker (likeVal p v) v := by
  unfold okVal at h
  split at h
  · rename_i ps vs
    rw [Bool.and_eq_true] at h
    have hl : ps.length = vs.length := by simpa using h.1
    have : likeVal (.tup ps) (.tup vs) = .tup vs := by
      simp only [likeVal]
      congr 1
      apply List.ext_getElem?
      intro j
      rw [List.getElem?_map, List.getElem?_zipIdx]
      by_cases hj : j < ps.length
      · have hjd : j < vs.length := by omega
        have hz : (ps.zip vs)[j]? = some (ps[j], vs[j]) := by rw [List.getElem?_zip_eq_some]; exact ⟨List.getElem?_eq_getElem hj, List.getElem?_eq_getElem hjd⟩
        have h3 := List.all_eq_true.1 h.2 _ (List.mem_of_getElem? hz)
        rw [Bool.and_eq_true] at h3
        rw [List.getElem?_eq_getElem hj, List.getElem?_eq_getElem hjd]
        simp only [Option.map_some, Nat.zero_add, AV.comp, List.getD_eq_getElem?_getD, List.getElem?_eq_getElem hjd, Option.getD_some]
        rcases okSlot_ok h3.1 with h4 | h4
        · exfalso
          have h5 := h3.2
          have h6 := h3.1
          generalize ps[j] = a at *
          generalize vs[j] = b at *
          have h7 : a ≠ .undef := by rintro rfl; cases h5
          have h8 : okSlot a .undef = false := by cases a <;> first | rfl | exact absurd rfl h7 | (rename_i x; cases x <;> rfl)
          by_cases hag : ∃ cs, a = .agg cs
          · obtain ⟨cs, rfl⟩ := hag
            cases b <;> simp [okSlot, okLike] at h6
            simp [likeSlot] at h4
          · have e1 : likeSlot a b = likeCell a b := by cases a <;> first | rfl | exact absurd rfl h7 | exact absurd ⟨_, rfl⟩ hag
            have e2 : okSlot a b = okLike a b := by cases a <;> cases b <;> first | rfl | exact absurd rfl h7 | exact absurd ⟨_, rfl⟩ hag
            rw [e1, likeCell_ok (e2 ▸ h6)] at h4
            subst h4
            rw [h8] at h6; cases h6
        · rw [h4]
      · rw [List.getElem?_eq_none (by omega), List.getElem?_eq_none (by omega)]; rfl
    rw [this]
    exact Weaker.refl _
  · rename_i h0
    have hl : likeVal p v = likeSlot p v := by
      cases p <;> first | rfl | skip
      rename_i ps
      cases v <;> first | (simp [okSlot, okLike] at h; done) | exact (h0 _ _ rfl rfl).elim
    rw [hl]
    rcases okSlot_ok h with h1 | h1 <;> rw [h1]
    · exact Weaker.undef _
    · exact Weaker.refl _

/-- What a call of a Go function comes to. -/
inductive Come where
  | ret (v : AV) (h : Heap)
  | pan (x : E) (h : Heap)

end

section
variable {R : Type} {run : RunF} {loop : Code → Fr → Heap → Option Out} {lr : Res → Heap → Option R} {lo : Out → Option R} {r : R}

theorem go_br {b : Bool} {x y : T} (h : (T.br b x y).go run loop lr lo = some r) : (b = true ∧ x.go run loop lr lo = some r) ∨ (b = false ∧ y.go run loop lr lo = some r) := by
  cases b with
  | true => exact .inl ⟨rfl, h⟩
  | false => exact .inr ⟨rfl, h⟩
theorem go_must {b : Bool} {x : T} (h : (T.br b x .fail).go run loop lr lo = some r) : b = true ∧ x.go run loop lr lo = some r := by
  rcases go_br h with h | ⟨_, h⟩
  · exact h
  · cases h

theorem splice_inv {k : Res × Heap → T} : ∀ {t : T}, (t.splice k).go run loop lr lo = some r → ∃ rh, t.quick = some rh ∧ (k rh).go run loop lr lo = some r
  | .res q h, he => ⟨(q, h), rfl, he⟩
  | .br b x y, he => by
    rcases go_br (show (T.br b (x.splice k) (y.splice k)).go run loop lr lo = some r from he) with ⟨rfl, he⟩ | ⟨rfl, he⟩
    · exact splice_inv (t := x) he
    · exact splice_inv (t := y) he
  | .fail, he => by cases he
  | .out _, he => by cases he
  | .call .., he => by cases he
  | .loop .., he => by cases he

theorem spliceO_inv {k : Out → T} : ∀ {t : T}, (t.spliceO k).go run loop lr lo = some r → ∃ o, t.quickO = some o ∧ (k o).go run loop lr lo = some r
  | .out o, he => ⟨o, rfl, he⟩
  | .br b x y, he => by
    rcases go_br (show (T.br b (x.spliceO k) (y.spliceO k)).go run loop lr lo = some r from he) with ⟨rfl, he⟩ | ⟨rfl, he⟩
    · exact spliceO_inv (t := x) he
    · exact spliceO_inv (t := y) he
  | .fail, he => by cases he
  | .res _ _, he => by cases he
  | .call .., he => by cases he
  | .loop .., he => by cases he

/-- What a function comes to, by its contract or its run. -/
def RunsTo (H : Hints) (run : RunF) (md : Mode) (f : FuncId) (as : List AV) (σ : Heap) (rh : Res × Heap) : Prop :=
  (∃ g, H.prim md f = some g ∧ (g as σ).quick = some rh) ∨ run md f as σ = some rh

def CallOut (H : Hints) (run : RunF) (f : FuncId) (args : List AV) (σ : Heap) (out : Come) : Prop :=
  ∃ (ids : List Nat) (σc : Heap) (q : Res) (h : Heap), ids = closure σ 6 (addNew [] ((args.map AV.calm).flatMap AV.ids2)) ∧ subHeap σ ids = some σc ∧
    RunsTo H run none f ((args.map AV.calm).map (AV.ren2 (idx ids))) σc (q, h) ∧ σc.length ≤ h.length ∧
    ((∃ u v, q = .ret u ∧ Weaker v u ∧ out = .ret (v.ren3 (renum ids σ.length)) (backTo ids h σ)) ∨ ∃ x, q = .pan x ∧ out = .pan x (backTo ids h σ))

theorem callT_inv {C : Ctx} {t : TypeId} {f : FuncId} {args : List AV} {σ : Heap} {K : AV → Heap → T} {Kp : E → Heap → T}
    (h : (callT C t f args σ K Kp).go run loop lr lo = some r) : ∃ out, CallOut C.H run f args σ out ∧ (match out with | .ret v h => K v h | .pan x h => Kp x h).go run loop lr lo = some r := by
  unfold callT at h
  simp only at h
  generalize hids : closure σ 6 (addNew [] ((args.map AV.calm).flatMap AV.ids2)) = ids at h
  split at h
  · cases h
  · rename_i σc hs
    have mkRet : ∀ (q : Heap) (u v : AV), RunsTo C.H run none f ((args.map AV.calm).map (AV.ren2 (idx ids))) σc (.ret u, q) → σc.length ≤ q.length → Weaker v u → (K (v.ren3 (renum ids σ.length)) (backTo ids q σ)).go run loop lr lo = some r →
        ∃ out, CallOut C.H run f args σ out ∧ (match out with | .ret v h => K v h | .pan x h => Kp x h).go run loop lr lo = some r :=
      fun q u v h1 h2 h3 h4 => ⟨.ret _ _, ⟨ids, σc, .ret u, q, hids.symm, hs, h1, h2, .inl ⟨u, v, rfl, h3, rfl⟩⟩, h4⟩
    have mkPan : ∀ (q : Heap) (x : E), RunsTo C.H run none f ((args.map AV.calm).map (AV.ren2 (idx ids))) σc (.pan x, q) → σc.length ≤ q.length → (Kp x (backTo ids q σ)).go run loop lr lo = some r →
        ∃ out, CallOut C.H run f args σ out ∧ (match out with | .ret v h => K v h | .pan x h => Kp x h).go run loop lr lo = some r :=
      fun q x h1 h2 h4 => ⟨.pan _ _, ⟨ids, σc, .pan x, q, hids.symm, hs, h1, h2, .inr ⟨x, rfl, rfl⟩⟩, h4⟩
    split at h
    · -- a contract
      rename_i g hg
      obtain ⟨⟨q, qh⟩, hq, h⟩ := splice_inv h
      have hrun : RunsTo C.H run none f ((args.map AV.calm).map (AV.ren2 (idx ids))) σc (q, qh) := .inl ⟨g, hg, hq⟩
      split at h
      · rename_i heq
        injection heq with h1 h2; subst h1; subst h2
        split at h
        · rename_i hl; exact mkRet _ _ _ hrun hl (Weaker.refl _) h
        · cases h
      · rename_i heq
        injection heq with h1 h2; subst h1; subst h2
        split at h
        · rename_i hl; exact mkPan _ _ hrun hl h
        · cases h
      · cases h
    · -- a run
      obtain ⟨⟨q, qh⟩, hq, h⟩ := Option.bind_eq_some_iff.1 (show (run none f ((args.map AV.calm).map (AV.ren2 (idx ids))) σc).bind (fun rh => (backT C t f ids σc σ K Kp rh).go run loop lr lo) = some r from h)
      have hrun : RunsTo C.H run none f ((args.map AV.calm).map (AV.ren2 (idx ids))) σc (q, qh) := .inr hq
      have viaType : ∀ (v : AV), canonRes C.P t q.val = some v → okRes C.P t q = true → σc.length ≤ qh.length → (K (v.ren3 (renum ids σ.length)) (backTo ids qh σ)).go run loop lr lo = some r →
          ∃ out, CallOut C.H run f args σ out ∧ (match out with | .ret v h => K v h | .pan x h => Kp x h).go run loop lr lo = some r := fun v hc ho hl hk => by
        obtain ⟨u, hu, hv, _⟩ := canonRes_ok ho hc
        subst hv; subst hu
        exact mkRet _ _ _ hrun hl (Weaker.refl _) hk
      unfold backT at h
      split at h
      · -- as it is
        split at h
        · rename_i heq
          injection heq with h1 h2; subst h1; subst h2
          split at h
          · rename_i hl; exact mkRet _ _ _ hrun hl (Weaker.refl _) h
          · cases h
        · rename_i heq
          injection heq with h1 h2; subst h1; subst h2
          split at h
          · rename_i hl; exact mkPan _ _ hrun hl h
          · cases h
        · cases h
      · -- by its type
        split at h
        · rename_i v hc
          obtain ⟨ho, h⟩ := go_must h
          obtain ⟨e1, e2⟩ := likeHeap_ok ho
          simp only at e1 e2
          rw [e1] at h
          split at h
          · rcases go_br h with ⟨hp, h⟩ | ⟨hp, h⟩
            · cases q with
              | pan x => exact mkPan _ _ hrun (by omega) h
              | ret u => cases hp
              | rcv u => cases hp
            · obtain ⟨ho, h⟩ := go_must h
              exact viaType v hc ho (by omega) h
          · obtain ⟨ho, h⟩ := go_must h
            exact viaType v hc ho (by omega) h
        · cases h
      · -- as it is foretold
        rename_i pv ph _ _
        split at h
        · rename_i hpl
          obtain ⟨ho, h⟩ := go_must h
          obtain ⟨e1, e2⟩ := likeHeap_ok ho
          simp only at e1 e2
          rw [e1] at h
          rcases go_br h with ⟨hp, h⟩ | ⟨hp, h⟩
          · split at h
            · cases q with
              | pan x => exact mkPan _ _ hrun (by omega) h
              | ret u => cases hp
              | rcv u => cases hp
            · cases h
          · cases pv with
            | some p =>
              simp only at h
              obtain ⟨hv, h⟩ := go_must h
              rw [Bool.and_eq_true] at hv
              cases q with
              | ret u => exact mkRet _ u _ hrun (by omega) (okVal_ok hv.2) h
              | pan x => cases hv.1
              | rcv u => cases hv.1
            | none =>
              simp only at h
              split at h
              · rename_i v hc
                obtain ⟨ho, h⟩ := go_must h
                exact viaType v hc ho (by omega) h
              · cases h
        · cases h
end

/-- A caller's state, when a call that it put off begins. -/
def ModeOk (P : Program) (w : World) (S : Cells) : Option E → FrameMode → Prop
  | none, u => u = .returning
  | some x, u => ∃ cv, VE P w S x cv ∧ u = .panicking [{ v := cv, recovered := false }]

/-- .. and when it has ended. -/
def ModeEnd (u : FrameMode) : Res → FrameMode → Prop
  | .ret _, u' => u' = u
  | .rcv _, u' => ∃ cv, u' = .panicking [{ v := cv, recovered := true }]
  | .pan _, _ => False

/-- A Go function's run, of which the interpreter says what it comes to. -/
def RunPost (P : Program) (r : Res) (σ' : Heap) (σ : Heap) (ρ : Gr) (S : Cells) (w : World) (e : Ending) (w' : World) : Prop :=
  ∃ ρ' S', Rel P σ' ρ' S' w' ∧ Ext σ ρ S w σ' ρ' S' w' ∧
    match r with
    | .ret v => ∃ cv, e = .returned cv ∧ VA3 P σ' ρ' S' w' v cv
    | .pan x => ∃ cv, e = .panicked [{ v := cv, recovered := false }] ∧ VE P w' S' x cv
    | .rcv _ => False

def RunPostD (P : Program) (u : FrameMode) (r : Res) (σ' : Heap) (σ : Heap) (ρ : Gr) (S : Cells) (w : World) (e : Ending) (u' : FrameMode) (w' : World) : Prop :=
  ∃ ρ' S', Rel P σ' ρ' S' w' ∧ Ext σ ρ S w σ' ρ' S' w' ∧ (∃ cv, e = .returned cv) ∧ ModeEnd u r u'

/-- The call of this function enters its body. -/
def Enters (P : Program) (f : FuncId) : Prop := ∃ fn, P.funcs[f]? = some fn ∧ (fn.name == "runtime.NumGoroutine") = false ∧ fn.body.isNone = false

def ArgsOk (P : Program) (σ : Heap) (ρ : Gr) (S : Cells) (w : World) (args : List AV) (cargs : Array Value) : Prop :=
  cargs.size = args.length ∧ ∀ (j : Nat) (v : AV), args[j]? = some v → ∃ cv, cargs[j]? = some cv ∧ VA2 P σ ρ S w v cv

/-- A function, called on these arguments, comes to this. -/
def ComesTo (P : Program) (md : Mode) (f : FuncId) (args : List AV) (σ : Heap) (r : Res) (σ' : Heap) : Prop :=
  Enters P f ∧ ∀ (ρ : Gr) (S : Cells) (w : World) (cargs : Array Value), Rel P σ ρ S w → ArgsOk P σ ρ S w args cargs →
    match md with
    | none => Calls P f cargs w (RunPost P r σ' σ ρ S w)
    | some pv => ∀ u, ModeOk P w S pv u → CallsD P f cargs u w (RunPostD P u r σ' σ ρ S w)

def RunOk (P : Program) (run : RunF) : Prop := ∀ (md : Mode) (f : FuncId) (args : List AV) (σ : Heap) (r : Res) (σ' : Heap), run md f args σ = some (r, σ') → ComesTo P md f args σ r σ'

/-- The contracts that are known. -/
def PrimOk (P : Program) (H : Hints) : Prop :=
  ∀ (md : Mode) (f : FuncId) (g : List AV → Heap → T) (args : List AV) (σ : Heap) (r : Res) (σ' : Heap), H.prim md f = some g → (g args σ).quick = some (r, σ') → ComesTo P md f args σ r σ'

theorem RunsTo.ok {P : Program} {H : Hints} {run : RunF} (hp : PrimOk P H) (hr : RunOk P run) {md : Mode} {f : FuncId} {as : List AV} {σ : Heap} {r : Res} {σ' : Heap} (h : RunsTo H run md f as σ (r, σ')) : ComesTo P md f as σ r σ' := by
  rcases h with ⟨g, h1, h2⟩ | h
  · exact hp md f g as σ r σ' h1 h2
  · exact hr md f as σ r σ' h

section
variable {P : Program} {σ : Heap} {ρ : Gr} {S : Cells} {w : World}

theorem calm1_ok {v : AV} {cv : Value} (hv : VA1 P σ ρ S w v cv) : VA1 P σ ρ S w v.calm1 cv := by
  unfold AV.calm1
  split
  · rename_i x h
    exact seal1_ok h hv
  · exact hv

theorem calm1_one {v : AV} (h : v.one = true) : v.calm1.one = true := by
  cases v <;> simp [AV.calm1, AV.seal1] <;> first | exact h | rfl

theorem calm_ok {v : AV} {cv : Value} (hv : VA3 P σ ρ S w v cv) : VA2 P σ ρ S w v.calm cv := by
  unfold AV.calm
  split
  · rename_i cs
    obtain ⟨arr, h1, h2, h3⟩ : ∃ arr : Array Value, cv = .agg arr ∧ arr.size = cs.length ∧ ∀ (j : Nat) (v : AV), cs[j]? = some v → v.one = true ∧ ∃ x, arr[j]? = some x ∧ VA1 P σ ρ S w v x := hv
    refine ⟨arr, h1, by simpa using h2, fun j u hj => ?_⟩
    rw [List.getElem?_map] at hj
    obtain ⟨v, hv, rfl⟩ := Option.map_eq_some_iff.1 hj
    obtain ⟨ho, x, h4, h5⟩ := h3 j v hv
    exact ⟨calm1_one ho, x, h4, calm1_ok h5⟩
  · trivial
  · rename_i h1 h2
    rw [VA3_eq h2, VA2_eq h1] at hv
    exact (calm1_ok hv).to2

/-- The arguments, in the callee's numbers. -/
theorem args_sub {ids : List Nat} {σc : Heap} {as : List AV} {cargs : Array Value} (hl : ρ.length = σ.length) (hs : subHeap σ ids = some σc) (hi : ∀ x ∈ as.flatMap AV.ids2, x ∈ ids) (ha : ArgsOk P σ ρ S w as cargs) :
    ArgsOk P σc (subGr ρ ids) S w (as.map (AV.ren2 (idx ids))) cargs := by
  refine ⟨by simpa using ha.1, fun j v hj => ?_⟩
  rw [List.getElem?_map] at hj
  obtain ⟨u, hu, rfl⟩ := Option.map_eq_some_iff.1 hj
  obtain ⟨cv, h1, h2⟩ := ha.2 j u hu
  exact ⟨cv, h1, VA2.sub hl hs h2 fun x hx => hi x (List.mem_flatMap.2 ⟨u, List.mem_of_getElem? hu, hx⟩)⟩

theorem args_calm {as : List AV} {cargs : Array Value} (hsz : cargs.size = as.length) (ha : ∀ (j : Nat) (v : AV), as[j]? = some v → ∃ cv, cargs[j]? = some cv ∧ VA3 P σ ρ S w v cv) : ArgsOk P σ ρ S w (as.map AV.calm) cargs := by
  refine ⟨by simpa using hsz, fun j v hj => ?_⟩
  rw [List.getElem?_map] at hj
  obtain ⟨u, hu, rfl⟩ := Option.map_eq_some_iff.1 hj
  obtain ⟨cv, h1, h2⟩ := ha j u hu
  exact ⟨cv, h1, calm_ok h2⟩

theorem CallOut_ok {H : Hints} {run : RunF} (hp : PrimOk P H) (hrun : RunOk P run) {f : FuncId} {args : List AV} {cargs : Array Value} {out : Come} (hr : Rel P σ ρ S w) (hsz : cargs.size = args.length)
    (ha : ∀ (j : Nat) (v : AV), args[j]? = some v → ∃ cv, cargs[j]? = some cv ∧ VA3 P σ ρ S w v cv) (h : CallOut H run f args σ out) :
    Enters P f ∧ Calls P f cargs w fun e w' => ∃ ρ' S', match out with
      | .ret v σ' => Rel P σ' ρ' S' w' ∧ Ext σ ρ S w σ' ρ' S' w' ∧ ∃ cv, e = .returned cv ∧ VA3 P σ' ρ' S' w' v cv
      | .pan x σ' => Rel P σ' ρ' S' w' ∧ Ext σ ρ S w σ' ρ' S' w' ∧ ∃ cv, e = .panicked [{ v := cv, recovered := false }] ∧ VE P w' S' x cv := by
  obtain ⟨ids, σc, q, h', hids, hs, hrun', hlen, hout⟩ := h
  have hn : ids.Nodup := by rw [hids]; exact closure_nodup _ _ _ (addNew_nodup _ _ (by simp))
  obtain ⟨hen, hc⟩ := RunsTo.ok hp hrun hrun'
  have hargs := args_sub hr.len hs (fun x hx => by rw [hids]; exact closure_mem _ _ _ _ (addNew_mem _ _ _ hx)) (args_calm hsz ha)
  refine ⟨hen, Calls.mono (hc (subGr ρ ids) S w cargs (hr.sub hn hs) hargs) ?_⟩
  rintro e w' ⟨ρ1', S', h1, h2, h3⟩
  obtain ⟨h4, h5, h6⟩ := back_ok hr hn hs h1 h2 hlen
  refine ⟨backGr ids ρ1' ρ, S', ?_⟩
  rcases hout with ⟨u, v, rfl, hw, rfl⟩ | ⟨x, rfl, rfl⟩
  · obtain ⟨cv, h7, h8⟩ := h3
    exact ⟨h4, h5, cv, h7, lift3 (G := fun _ => True) (fun v cv h _ => h6 v cv h) (hw _ _ _ _ _ _ h8) (fun _ _ => trivial)⟩
  · obtain ⟨cv, h7, h8⟩ := h3
    exact ⟨h4, h5, cv, h7, h8⟩

end
end Go.Den
