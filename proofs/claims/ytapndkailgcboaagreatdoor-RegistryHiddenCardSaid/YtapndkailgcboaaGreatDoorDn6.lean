/- Dn6: texts Ze20 .. Ze25 in one. -/
import Derived.Test.YtapndkailgcboaaGreatDoorDn5
import Derived.Orders
import Derived.Scope
import Derived.LoopN
import Derived.Laws.Sem
import Derived.Recover
/- Two operations that have nothing in common may change places: so a region may be carried out in any of its orders. -/
namespace Go.Den
open Go

section
variable {P : Program} {H : Hints} {run : RunF} {sp ops : List Oper} {fr fr' : Fr} {σ σ' : Heap} {k : Nat} {o : Oper} {v : AV}

/-! ### What an operation looks at in the frame -/

theorem evalT_congr {t : TypeId} {x : Operand} (h : evalO fr' x = evalO fr x) : evalT P t fr' x = evalT P t fr x := by
  unfold evalT
  split <;> first | rfl | exact h

theorem zip_mapM_congr {xs : List Operand} {ts : List TypeId} (h : ∀ x ∈ xs, evalO fr' x = evalO fr x) : ((xs.zip ts).mapM fun (x, t) => evalT P t fr' x) = (xs.zip ts).mapM fun (x, t) => evalT P t fr x :=
  mapM_congr fun p hp => evalT_congr (h p.1 (List.of_mem_zip hp).1)

theorem parts_congr {ty : Nat → Option TypeId} {ps : Array (Nat × Operand)} (h : ∀ p ∈ ps, evalO fr' p.2 = evalO fr p.2) :
    (ps.toList.mapM fun p => partOf P fr' (ty p.1) p) = ps.toList.mapM fun p => partOf P fr (ty p.1) p :=
  mapM_congr fun p hp => by
    unfold partOf
    cases ty p.1 with
    | none => rfl
    | some t => simp only [evalT_congr (h p (by simpa using hp))]

theorem sliceLit_congr {t : TypeId} {n : Nat} {ps : Array (Nat × Operand)} (h : ∀ p ∈ ps, evalO fr' p.2 = evalO fr p.2) : sliceLit P fr' t n ps = sliceLit P fr t n ps := by
  unfold sliceLit
  split
  · rename_i et hu
    rw [parts_congr (P := P) (ty := fun _ => some et) h]
  · rfl

theorem sliceL_congr {x : Option Operand} (h : ∀ y, x = some y → evalO fr' y = evalO fr y) : sliceL fr' x = sliceL fr x := by
  unfold sliceL
  cases x with
  | none => rfl
  | some y => simp only [h y rfl]
theorem sliceH_congr {x : Option Operand} {n : Nat} (h : ∀ y, x = some y → evalO fr' y = evalO fr y) : sliceH fr' n x = sliceH fr n x := by
  unfold sliceH
  cases x with
  | none => rfl
  | some y => simp only [h y rfl]

theorem map_evalO_congr {xs : List Operand} (h : ∀ x ∈ xs, evalO fr' x = evalO fr x) : xs.map (evalO fr') = xs.map (evalO fr) := List.map_congr_left h

set_option maxHeartbeats 1000000 in
theorem evalPure_congr (h : ∀ x ∈ o.op.operands, evalO fr' x = evalO fr x) : evalPure P ops fr' o = evalPure P ops fr o := by
  obtain ⟨dst, op, type, pos, after, guard⟩ := o
  cases op with
  | move x => have h1 := h x (by simp [Op.operands]); simp only [evalPure, evalT_congr h1]
  | assign x => have h1 := h x (by simp [Op.operands]); simp only [evalPure, evalT_congr h1]
  | pick c a b =>
    have h1 := h c (by simp [Op.operands]); have h2 := h a (by simp [Op.operands]); have h3 := h b (by simp [Op.operands])
    simp only [evalPure, h1, h2, h3]
  | build t ps =>
    have hp : ∀ p ∈ ps, evalO fr' p.2 = evalO fr p.2 := fun p hp => h p.2 (by simp [Op.operands]; exact ⟨p.1, hp⟩)
    simp only [evalPure]
    split
    · rename_i zs fs hz hu
      rw [parts_congr (P := P) (ty := fun i => (fs[i]?).map (·.type)) hp]
    · rfl
  | buildSlice t n ps =>
    have hp : ∀ p ∈ ps, evalO fr' p.2 = evalO fr p.2 := fun p hp => h p.2 (by simp [Op.operands]; exact ⟨p.1, hp⟩)
    simp only [evalPure, sliceLit_congr hp]
  | load t a => have h1 := h a (by simp [Op.operands]); simp only [evalPure, h1]
  | nilCheck a => have h1 := h a (by simp [Op.operands]); simp only [evalPure, h1]
  | binOp op t x y t' =>
    have h1 := h x (by simp [Op.operands]); have h2 := h y (by simp [Op.operands])
    simp only [evalPure, evalT_congr h1, evalT_congr h2]
  | unOp op t x => have h1 := h x (by simp [Op.operands]); simp only [evalPure, h1]
  | convert s d x => have h1 := h x (by simp [Op.operands]); simp only [evalPure, h1]
  | makeInterface t x => have h1 := h x (by simp [Op.operands]); simp only [evalPure, h1]
  | slice t x lo hi mx =>
    have h1 := h x (by simp [Op.operands])
    cases mx with
    | none =>
      have h2 : sliceL fr' lo = sliceL fr lo := sliceL_congr fun y hy => h y (by subst hy; simp [Op.operands])
      have h3 : ∀ n, sliceH fr' n hi = sliceH fr n hi := fun n => sliceH_congr fun y hy => h y (by subst hy; simp [Op.operands])
      simp only [evalPure, h1, h2, h3]
    | some m =>
      have h2 : sliceL fr' lo = sliceL fr lo := sliceL_congr fun y hy => h y (by subst hy; simp [Op.operands])
      have h3 : ∀ n, sliceH fr' n hi = sliceH fr n hi := fun n => sliceH_congr fun y hy => h y (by subst hy; simp [Op.operands])
      have h4 := h m (by simp [Op.operands])
      simp only [evalPure, h1, h2, h3, h4]
  | fieldAddr s x i => have h1 := h x (by simp [Op.operands]); simp only [evalPure, h1]
  | field t x i => have h1 := h x (by simp [Op.operands]); simp only [evalPure, h1]
  | indexAddr t x i =>
    have h1 := h x (by simp [Op.operands]); have h2 := h i (by simp [Op.operands])
    simp only [evalPure, h1, h2]
  | index t x i =>
    have h1 := h x (by simp [Op.operands]); have h2 := h i (by simp [Op.operands])
    simp only [evalPure, h1, h2]
  | typeAssert x t u ok => have h1 := h x (by simp [Op.operands]); simp only [evalPure, h1]
  | extract x i => have h1 := h x (by simp [Op.operands]); simp only [evalPure, h1]
  | makeFunc f first captured =>
    cases f with
    | func f =>
      have : captured.toList.mapM (ptrOf fr') = captured.toList.mapM (ptrOf fr) :=
        mapM_congr fun x hx => by unfold ptrOf; rw [h x (by simp [Op.operands]; exact .inr (by simpa using hx))]
      simp only [evalPure, this]
    | _ => rfl
  | call c =>
    obtain ⟨ce, args, ats⟩ := c
    cases ce with
    | builtin b =>
      have hm := map_evalO_congr (fr := fr) (fr' := fr') (xs := args.toList) fun x hx => h x (by simp [Op.operands, Call.operands]; simpa using hx)
      cases b <;> first | rfl | simp only [evalPure, hm]
    | _ => rfl
  | _ => rfl

theorem evalHeap_congr (h : ∀ x ∈ o.op.operands, evalO fr' x = evalO fr x) : evalHeap P ops fr' σ k o = evalHeap P ops fr σ k o := by
  obtain ⟨dst, op, type, pos, after, guard⟩ := o
  cases op with
  | box t x => have h1 := h x (by simp [Op.operands]); simp only [evalHeap, evalT_congr h1]
  | alloc t => rfl
  | buildSlice t n ps =>
    have hp : ∀ p ∈ ps, evalO fr' p.2 = evalO fr p.2 := fun p hp => h p.2 (by simp [Op.operands]; exact ⟨p.1, hp⟩)
    simp only [evalHeap, sliceLit_congr hp]
  | load t a => have h1 := h a (by simp [Op.operands]); simp only [evalHeap, h1]
  | store t a x =>
    have h1 := h a (by simp [Op.operands]); have h2 := h x (by simp [Op.operands])
    simp only [evalHeap, h1, evalT_congr h2]
  | range t x => have h1 := h x (by simp [Op.operands]); simp only [evalHeap, h1]
  | makeSlice t x y =>
    have h1 := h x (by simp [Op.operands]); have h2 := h y (by simp [Op.operands])
    simp only [evalHeap, h1, h2]
  | call c =>
    obtain ⟨ce, args, ats⟩ := c
    cases ce with
    | builtin b =>
      cases b with
      | append =>
        have hx : ∀ x ∈ args.toList, evalO fr' x = evalO fr x := fun x hx => h x (by simp [Op.operands, Call.operands]; simpa using hx)
        generalize hl : args.toList = l at hx
        simp only [evalHeap, hl]
        split
        · rename_i x y _
          have h1 := hx x (by simp); have h2 := hx y (by simp)
          simp only [evalT_congr h1, evalT_congr h2]
        · rfl
      | _ => rfl
    | _ => rfl
  | _ => rfl

theorem sliceLitA_congr {t : TypeId} {n : Nat} {ps : Array (Nat × Operand)} (h : ∀ p ∈ ps, evalO fr' p.2 = evalO fr p.2) : sliceLitA P fr' t n ps = sliceLitA P fr t n ps := by
  unfold sliceLitA
  split
  · rename_i et _
    rw [parts_congr (P := P) (ty := fun _ => some et) h]
  · rfl

theorem evalArr_congr (h : ∀ x ∈ o.op.operands, evalO fr' x = evalO fr x) : evalArr P fr' σ k o = evalArr P fr σ k o := by
  obtain ⟨dst, op, type, pos, after, guard⟩ := o
  cases op with
  | buildSlice t n ps =>
    have hp : ∀ p ∈ ps, evalO fr' p.2 = evalO fr p.2 := fun p hp => h p.2 (by simp [Op.operands]; exact ⟨p.1, hp⟩)
    simp only [evalArr, sliceLitA_congr hp]
  | makeSlice t x y =>
    have h1 := h x (by simp [Op.operands]); have h2 := h y (by simp [Op.operands])
    simp only [evalArr, h1, h2]
  | call c =>
    obtain ⟨ce, args, ats⟩ := c
    cases ce with
    | builtin b =>
      cases b with
      | append =>
        have hx : ∀ x ∈ args.toList, evalO fr' x = evalO fr x := fun x hx => h x (by simp [Op.operands, Call.operands]; simpa using hx)
        generalize hl : args.toList = l at hx
        simp only [evalArr, hl]
        split
        · rename_i x y _
          have h1 := hx x (by simp); have h2 := hx y (by simp)
          simp only [evalT_congr h1, evalT_congr h2]
        · rfl
      | _ => rfl
    | _ => rfl
  | _ => rfl

theorem roomless_congr (h : ∀ x ∈ o.op.operands, evalO fr' x = evalO fr x) : roomless P fr' o = roomless P fr o := by
  obtain ⟨dst, op, type, pos, after, guard⟩ := o
  cases op with
  | buildSlice t len parts => cases len <;> rfl
  | call c =>
    obtain ⟨ce, args, ats⟩ := c
    cases ce with
    | builtin b =>
      cases b with
      | append =>
        have hx : ∀ x ∈ args.toList, evalO fr' x = evalO fr x := fun x hx => h x (by simp [Op.operands, Call.operands]; simpa using hx)
        generalize hl : args.toList = l at hx
        simp only [roomless, hl]
        split
        · rename_i x y _
          have h1 := hx x (by simp); have h2 := hx y (by simp)
          simp only [h1, evalT_congr h2]
        · rfl
      | _ => rfl
    | _ => rfl
  | _ => rfl

theorem rdsOf_congr {ys : List Operand} (h : ∀ y ∈ ys, evalO fr' y = evalO fr y) : rdsOf fr' ys = rdsOf fr ys := by
  unfold rdsOf
  induction ys with
  | nil => rfl
  | cons y ys ih => simp only [List.flatMap_cons]; rw [h y (by simp), ih fun z hz => h z (by simp [hz])]

theorem callOf_congr {c : Call} (h : ∀ x ∈ c.operands, evalO fr' x = evalO fr x) : callOf P fr' c = callOf P fr c := by
  obtain ⟨ce, args, ats⟩ := c
  have hz : ((args.toList.zip ats.toList).mapM fun (x, t) => evalT P t fr' x) = (args.toList.zip ats.toList).mapM fun (x, t) => evalT P t fr x :=
    zip_mapM_congr fun x hx => h x (by simp only [Call.operands, Array.mem_append]; exact .inr (by simpa using hx))
  unfold callOf
  simp only [hz]
  cases ce with
  | value f =>
    cases f with
    | tmp u =>
      have h1 : fr'[u]? = fr[u]? := h (.tmp u) (by simp [Call.operands])
      simp only [h1]
    | _ => rfl
  | invoke r m =>
    cases r with
    | tmp u =>
      have h1 : fr'[u]? = fr[u]? := h (.tmp u) (by simp [Call.operands])
      simp only [h1]
    | _ => rfl
  | builtin b => rfl

theorem footOf_congr (h : ∀ x ∈ o.op.operands, evalO fr' x = evalO fr x) : footOf P H.own ops fr' σ k o = footOf P H.own ops fr σ k o := by
  have hpu := evalPure_congr (P := P) (ops := ops) h
  obtain ⟨dst, op, type, pos, after, guard⟩ := o
  cases op with
  | box t x => have h1 := h x (by simp [Op.operands]); simp only [footOf, evalT_congr h1]
  | load t a => have h1 := h a (by simp [Op.operands]); simp only [footOf, h1]
  | next a s => have h1 := h a (by simp [Op.operands]); simp only [footOf, h1]
  | store t a x =>
    have h1 := h a (by simp [Op.operands]); have h2 := h x (by simp [Op.operands])
    simp only [footOf, h1, evalT_congr h2]
  | call c =>
    have hc : callOf P fr' c = callOf P fr c := callOf_congr fun x hx => h x hx
    obtain ⟨ce, args, ats⟩ := c
    cases ce with
    | builtin b =>
      simp only [footOf, hpu]
      split
      · rename_i x l _ hl
        have : x ∈ args.toList := by rw [hl]; simp
        rw [h x (by simp [Op.operands, Call.operands]; simpa using this), rdsOf_congr (fr' := fr') (fr := fr) (ys := l) fun y hy => h y (by
          have : y ∈ args.toList := by rw [hl]; simp [hy]
          simp [Op.operands, Call.operands]; simpa using this)]
      · rfl
    | _ => simp only [footOf, hc]
  | _ => rfl

theorem Does.congr (h : ∀ x ∈ o.op.operands, evalO fr' x = evalO fr x) (hd : Does P H run ops o fr σ k v σ') : Does P H run ops o fr' σ k v σ' := by
  cases hd with
  | op v σ' he hb => exact .op _ _ (by unfold evalOp at he ⊢; rw [evalPure_congr h, evalHeap_congr h]; exact he) hb
  | arr v σ' he hb h0 => exact .arr _ _ (by rw [evalArr_congr h]; exact he) hb h0
  | none et he hb => exact .none et (by rw [roomless_congr h]; exact he) hb
  | call c f as v σ' ho hc hout => exact .call c f as v σ' ho (by rw [callOf_congr fun x hx => h x (by rw [ho]; exact hx)]; exact hc) hout
  | more x id s p q ho hx hs hp hq => exact .more x id s p q ho (by rw [h x (by rw [ho]; simp [Op.operands])]; exact hx) hs hp hq
  | over x id s p ho hx hs hp => exact .over x id s p ho (by rw [h x (by rw [ho]; simp [Op.operands])]; exact hx) hs hp

theorem Pans.congr {x : E} (h : ∀ x ∈ o.op.operands, evalO fr' x = evalO fr x) (hd : Pans P H run o fr σ x σ') : Pans P H run o fr' σ x σ' := by
  cases hd with
  | panic y t u ho hx => exact .panic y t u ho (by rw [h y (by rw [ho]; simp [Op.operands])]; exact hx)
  | call c f as x σ' ho hc hout => exact .call c f as x σ' ho (by rw [callOf_congr fun x hx => h x (by rw [ho]; exact hx)]; exact hc) hout

/-! ### One step of a region -/

/-- Is the operation wanted? -/
def Wanted (ops : List Oper) (fr : Fr) (o : Oper) : Prop := o.guard = none ∨ ∃ j w dj, o.guard = some (j, w) ∧ dstOf ops j = some dj ∧ fr[dj]? = some (.e (.bool w))
def Skipped (ops : List Oper) (fr : Fr) (o : Oper) : Prop := ∃ j w dj, o.guard = some (j, w) ∧ dstOf ops j = some dj ∧ (fr[dj]? = some (.tup []) ∨ ∃ b, b ≠ w ∧ fr[dj]? = some (.e (.bool b)))

inductive Step (P : Program) (H : Hints) (run : RunF) (sp ops : List Oper) (o : Oper) (k : Nat) (fr : Fr) (σ : Heap) : AV → Heap → Foot → Prop
  | skip (h : Skipped ops fr o) : Step P H run sp ops o k fr σ (.tup []) σ .no
  | does (v : AV) (σ' : Heap) (hw : Wanted ops fr o) (h : Does P H run sp o fr σ k v σ') : Step P H run sp ops o k fr σ v σ' ((footOf P H.own sp fr σ k o).with σ.length σ'.length)

/-- The frame at the places that an operation looks at. -/
def SameAt (arr : Array Oper) (o : Oper) (fr fr' : Fr) : Prop := ∀ t ∈ o.looksAt arr, fr'[t]? = fr[t]?

theorem SameAt.operands {arr : Array Oper} (h : SameAt arr o fr fr') : ∀ x ∈ o.op.operands, evalO fr' x = evalO fr x := by
  intro x hx
  cases x with
  | tmp t =>
    refine h t ?_
    unfold Oper.looksAt
    exact List.mem_append_left _ (List.mem_filterMap.2 ⟨.tmp t, by simpa using hx, rfl⟩)
  | const c => cases c <;> first | rfl | (rename_i p; cases p <;> rfl)
  | _ => rfl

theorem SameAt.guard {arr : Array Oper} (h : SameAt arr o fr fr') {j dj : Nat} {w : Bool} (hg : o.guard = some (j, w)) (hd : dstOf arr.toList j = some dj) : fr'[dj]? = fr[dj]? := by
  refine h dj ?_
  unfold Oper.looksAt
  refine List.mem_append_right _ ?_
  rw [hg]
  have : (arr[j]?).bind (·.dst) = some dj := by unfold dstOf at hd; simpa using hd
  simp [this]

theorem Step.congr {arr : Array Oper} (h : SameAt arr o fr fr') {ft : Foot} (hs : Step P H run sp arr.toList o k fr σ v σ' ft) : Step P H run sp arr.toList o k fr' σ v σ' ft := by
  cases hs with
  | skip hs =>
    obtain ⟨j, w, dj, h1, h2, h3⟩ := hs
    exact .skip ⟨j, w, dj, h1, h2, by rw [h.guard h1 h2]; exact h3⟩
  | does v σ' hw hd =>
    rw [← footOf_congr h.operands]
    refine .does v σ' ?_ (hd.congr h.operands)
    rcases hw with hw | ⟨j, w, dj, h1, h2, h3⟩
    · exact .inl hw
    · exact .inr ⟨j, w, dj, h1, h2, by rw [h.guard h1 h2]; exact h3⟩

theorem Foot.with_wr {f : Foot} {n n' i : Nat} (h : i ∈ f.wr) : i ∈ (f.with n n').wr := by
  unfold Foot.with; split
  · exact h
  · exact List.mem_append_left _ h
theorem Foot.with_rd {f : Foot} {n n' : Nat} : (f.with n n').rd = f.rd := by unfold Foot.with; split <;> rfl
theorem Foot.with_dep {f : Foot} {n n' : Nat} : (f.with n n').dep = f.dep := by unfold Foot.with; split <;> rfl

/-- A step elsewhere. -/
theorem Step.local {ft : Foot} (hs : Step P H run sp ops o k fr σ v σ' ft) :
    ∃ (pat : Nat → Option Ob) (e : List Ob), (∀ i, pat i ≠ none → i ∈ ft.wr) ∧ (e ≠ [] → ft.ext = true ∧ ft.dep = true) ∧ (∀ i, σ.length ≤ i → i < σ.length + e.length → i ∈ ft.wr) ∧ σ' = patch pat e σ ∧
      ∀ τ : Heap, (∀ i, i ∈ ft.rd ∨ i ∈ ft.wr → τ[i]? = σ[i]?) → (ft.dep = true → τ.length = σ.length) → Step P H run sp ops o k fr τ v (patch pat e τ) ft := by
  cases hs with
  | skip h => exact ⟨nopat, [], fun i hi => absurd rfl hi, fun h => absurd rfl h, fun i h1 h2 => by simp at h2; omega, patch_nop.symm, fun τ _ _ => by rw [patch_nop]; exact .skip h⟩
  | does v σ' hw h =>
    obtain ⟨pat, e, h1, h2, h3, h4⟩ := h.local
    have hl : σ'.length = σ.length + e.length := by rw [h3, patch_len]
    refine ⟨pat, e, fun i hi => Foot.with_wr (h1 i hi), fun he => ?_, fun i hi1 hi2 => ?_, h3, fun τ ht hd => ?_⟩
    · refine ⟨?_, by rw [Foot.with_dep]; exact h2 he⟩
      have : e.length ≠ 0 := fun h0 => he (List.eq_nil_of_length_eq_zero h0)
      unfold Foot.with
      rw [if_neg (by omega)]
    · unfold Foot.with
      rw [if_neg (by omega)]
      exact List.mem_append_right _ (List.mem_range'_1.2 ⟨hi1, by omega⟩)
    · rw [Foot.with_dep] at hd
      obtain ⟨h5, h6⟩ := h4 τ (fun i hi => ht i (hi.imp (fun h => by rw [Foot.with_rd]; exact h) Foot.with_wr)) hd
      have hft : (footOf P H.own sp fr σ k o).with σ.length σ'.length = (footOf P H.own sp fr τ k o).with τ.length (patch pat e τ).length := by
        rw [h6]
        unfold Foot.with
        rw [patch_len, hl]
        by_cases he : e = []
        · subst he; simp
        · have : e.length ≠ 0 := fun h0 => he (List.eq_nil_of_length_eq_zero h0)
          rw [if_neg (by omega), if_neg (by omega), hd (h2 he)]
      rw [hft]
      exact .does v _ hw h5

theorem apartF_spec {f g : Foot} (h : apartF f g = true) : (∀ i ∈ f.wr, i ∉ g.rd ∧ i ∉ g.wr) ∧ (∀ i ∈ g.wr, i ∉ f.rd) ∧ (f.ext = true → g.dep = true → False) ∧ (g.ext = true → f.dep = true → False) ∧ (f.ext = true → g.ext = true → False) := by
  unfold apartF at h
  simp only [Bool.and_eq_true, List.all_eq_true, Bool.not_eq_true', List.contains_eq_mem, decide_eq_false_iff_not] at h
  obtain ⟨⟨⟨⟨h1, h2⟩, h3⟩, h4⟩, h5⟩ := h
  refine ⟨h1, h2, fun a b => ?_, fun a b => ?_, fun a b => ?_⟩
  · rw [a, b] at h3; cases h3
  · rw [a, b] at h4; cases h4
  · rw [a, b] at h5; cases h5

theorem patch_swap {p1 p2 : Nat → Option Ob} {e1 e2 : List Ob} {σ : Heap} (hd : ∀ i, p1 i = none ∨ p2 i = none) (he : e1 = [] ∨ e2 = []) (h1 : ∀ i, σ.length ≤ i → i < σ.length + e1.length → p2 i = none) (h2 : ∀ i, σ.length ≤ i → i < σ.length + e2.length → p1 i = none) :
    patch p2 e2 (patch p1 e1 σ) = patch p1 e1 (patch p2 e2 σ) := by
  apply List.ext_getElem?
  intro i
  rcases Nat.lt_or_ge i σ.length with h | h
  · rw [patch_lt (σ := patch p1 e1 σ) (by rw [patch_len]; omega), patch_lt (σ := patch p2 e2 σ) (by rw [patch_len]; omega), patch_lt (σ := σ) h, patch_lt (σ := σ) h]
    simp only [Option.map_map]
    cases σ[i]? with
    | none => rfl
    | some o =>
      simp only [Option.map_some, Function.comp]
      rcases hd i with h | h <;> rw [h] <;> simp
  · rcases he with rfl | rfl
    · rw [patch_ge (by rw [patch_len]; simpa using h), patch_len]
      simp only [List.length_nil, Nat.add_zero]
      rcases Nat.lt_or_ge i (σ.length + e2.length) with hl | hl
      · rw [patch_lt (by rw [patch_len]; exact hl), patch_ge h, h2 i h hl]
        cases e2[i - σ.length]? <;> rfl
      · rw [patch_ge (by rw [patch_len]; exact hl)]
        simp
        omega
    · rw [patch_ge (σ := patch p2 [] σ) (by rw [patch_len]; simpa using h), patch_len]
      simp only [List.length_nil, Nat.add_zero]
      rcases Nat.lt_or_ge i (σ.length + e1.length) with hl | hl
      · rw [patch_lt (by rw [patch_len]; exact hl), patch_ge h, h1 i h hl]
        cases e1[i - σ.length]? <;> rfl
      · rw [patch_ge (by rw [patch_len]; exact hl)]
        simp
        omega

theorem put_comm' {fr : Fr} {x y : Option Nat} {v u : AV} (h : ∀ d, x = some d → y ≠ some d) : put (put fr x v) y u = put (put fr y u) x v := by
  cases x with
  | none => rfl
  | some d =>
    cases y with
    | none => rfl
    | some d' =>
      simp only [put]
      exact List.set_comm _ _ (fun e => h d rfl (by rw [e]))

theorem same_put {arr : Array Oper} {d : Option Nat} {u : AV} (h : ∀ x, d = some x → x ∉ o.looksAt arr) : SameAt arr o fr (put fr d u) := by
  intro t ht
  exact put_ne (fun e => h t e ht)
theorem SameAt.symm {arr : Array Oper} (h : SameAt arr o fr fr') : SameAt arr o fr' fr := fun t ht => (h t ht).symm

/-- Two steps change places. -/
theorem Step.swap {arr : Array Oper} {o1 o2 : Oper} {k1 k2 : Nat} {v1 v2 : AV} {σ1 σ2 : Heap} {f1 f2 : Foot} (ha : o1.apart arr o2 = true) (hf : apartF f1 f2 = true)
    (h1 : Step P H run sp arr.toList o1 k1 fr σ v1 σ1 f1) (h2 : Step P H run sp arr.toList o2 k2 (put fr o1.dst v1) σ1 v2 σ2 f2) :
    ∃ τ, Step P H run sp arr.toList o2 k2 fr σ v2 τ f2 ∧ Step P H run sp arr.toList o1 k1 (put fr o2.dst v2) τ v1 σ2 f1 ∧ put (put fr o1.dst v1) o2.dst v2 = put (put fr o2.dst v2) o1.dst v1 := by
  obtain ⟨a1, a2, a3⟩ := Oper.apart_spec ha
  obtain ⟨b1, b2, b3, b4, b5⟩ := apartF_spec hf
  have h2' : Step P H run sp arr.toList o2 k2 fr σ1 v2 σ2 f2 := h2.congr (SameAt.symm (same_put a1))
  obtain ⟨p1, e1, c1, c2, c3, c4, c5⟩ := h1.local
  obtain ⟨p2, e2, d1, d2, d3, d4, d5⟩ := h2'.local
  have hp1 : ∀ i, i ∈ f2.rd ∨ i ∈ f2.wr → p1 i = none := fun i hi => by
    cases hpi : p1 i with
    | none => rfl
    | some q =>
      have := b1 i (c1 i (by rw [hpi]; simp))
      rcases hi with hi | hi
      · exact absurd hi this.1
      · exact absurd hi this.2
  have hp2 : ∀ i, i ∈ f1.rd ∨ i ∈ f1.wr → p2 i = none := fun i hi => by
    cases hpi : p2 i with
    | none => rfl
    | some q =>
      have hw := d1 i (by rw [hpi]; simp)
      rcases hi with hi | hi
      · exact absurd hi (b2 i hw)
      · exact absurd hw (b1 i hi).2
  have hpat : ∀ {p : Nat → Option Ob} {e : List Ob} {i : Nat} {τ : Heap}, p i = none → (τ.length ≤ i → ¬ i < τ.length + e.length) → (patch p e τ)[i]? = τ[i]? := fun {p e i τ} hn hi => by
    rcases Nat.lt_or_ge i τ.length with hl | hl
    · rw [patch_lt hl, hn]; cases τ[i]? <;> rfl
    · have := hi hl
      rw [patch_ge hl, List.getElem?_eq_none hl, List.getElem?_eq_none (by omega)]
  -- the second one first
  have hl1 : f2.dep = true → e1 = [] := fun hd => by
    by_cases he : e1 = []
    · exact he
    · exact (b3 (c2 he).1 hd).elim
  have s2 := d5 σ (fun i hi => by
    rw [c4]
    exact (hpat (hp1 i hi) fun hl hlt => by
      have hw := c3 i hl hlt
      rcases hi with hi | hi
      · exact (b1 i hw).1 hi
      · exact (b1 i hw).2 hi).symm) (fun hd => by rw [c4, patch_len, hl1 hd]; simp)
  have hlen1 : σ1.length = σ.length + e1.length := by rw [c4, patch_len]
  have hnew2 : e2 ≠ [] → σ1.length = σ.length := fun he => by
    have := hl1 (d2 he).2
    rw [hlen1, this]; simp
  have hl2 : f1.dep = true → e2 = [] := fun hd => by
    by_cases he : e2 = []
    · exact he
    · exact (b4 (d2 he).1 hd).elim
  have d3' : ∀ i, σ.length ≤ i → i < σ.length + e2.length → i ∈ f2.wr := fun i hi hlt => by
    by_cases he : e2 = []
    · subst he; simp at hlt; omega
    · have := hnew2 he
      exact d3 i (by omega) (by omega)
  have s1 := c5 (patch p2 e2 σ) (fun i hi => hpat (hp2 i hi) fun hl hlt => by
    have hw := d3' i hl hlt
    rcases hi with hi | hi
    · exact b2 i hw hi
    · exact (b1 i hi).2 hw) (fun hd => by rw [patch_len, hl2 hd]; simp)
  have hee : e1 = [] ∨ e2 = [] := by
    by_cases h1 : e1 = []
    · exact .inl h1
    · by_cases h2 : e2 = []
      · exact .inr h2
      · exact (b5 (c2 h1).1 (d2 h2).1).elim
  have heq : patch p1 e1 (patch p2 e2 σ) = σ2 := by
    rw [d4, c4]
    refine (patch_swap (fun i => ?_) hee (fun i hi hlt => hp2 i (.inr (c3 i hi hlt))) (fun i hi hlt => hp1 i (.inr (d3' i hi hlt)))).symm
    cases hpi : p1 i with
    | none => exact .inl rfl
    | some q => exact .inr (hp2 i (.inr (c1 i (by rw [hpi]; simp))))
  rw [heq] at s1
  refine ⟨_, s2, s1.congr (same_put a3), put_comm' a2⟩

end
end Go.Den

/- Regions that draw their order. -/
namespace Go.Den
open Go

/-! ### What comes ahead of what -/

theorem ancs_keep : ∀ (l : List Oper) (acc : List Nat) (j : Nat), j < acc.length → (ancs l acc)[j]? = acc[j]?
  | [], _, _, _ => rfl
  | o :: l, acc, j, h => by
    unfold ancs
    rw [ancs_keep l _ j (by simp; omega), List.getElem?_append_left h]

theorem fold_bits {acc : List Nat} {t : Nat} : ∀ (es : List Edge) (s : Nat), (es.foldl (fun s e => if Region.binds .any e then s ||| 2 ^ e.on ||| acc.getD e.on 0 else s) s).testBit t = true →
    s.testBit t = true ∨ ∃ e ∈ es, Region.binds .any e = true ∧ (e.on = t ∨ (acc.getD e.on 0).testBit t = true)
  | [], s, h => .inl h
  | e :: es, s, h => by
    simp only [List.foldl_cons] at h
    rcases fold_bits es _ h with h | ⟨e', h1, h2⟩
    · split at h
      · rename_i hb
        rw [Nat.testBit_or, Nat.testBit_or, Nat.testBit_two_pow] at h
        simp only [Bool.or_eq_true, decide_eq_true_eq] at h
        rcases h with (h | h) | h
        · exact .inl h
        · exact .inr ⟨e, by simp, hb, .inl h⟩
        · exact .inr ⟨e, by simp, hb, .inr h⟩
      · exact .inl h
    · exact .inr ⟨e', by simp [h1], h2⟩

theorem ancs_spec' : ∀ (l : List Oper) (acc : List Nat) (i : Nat) (o : Oper) (t : Nat), l[i]? = some o → ((ancs l acc).getD (acc.length + i) 0).testBit t = true →
    ∃ e ∈ o.after.toList, Region.binds .any e = true ∧ (e.on = t ∨ ((ancs l acc).getD e.on 0).testBit t = true)
  | [], _, _, _, _, h, _ => by simp at h
  | o :: l, acc, 0, o', t, h, hb => by
    simp at h; subst h
    unfold ancs at hb ⊢
    rw [List.getD_eq_getElem?_getD, ancs_keep _ _ _ (by simp), Nat.add_zero, List.getElem?_append_right (Nat.le_refl _), Nat.sub_self] at hb
    simp only [List.getElem?_cons_zero, Option.getD_some] at hb
    rcases fold_bits _ _ hb with hb | ⟨e, h1, h2, h3⟩
    · simp at hb
    · refine ⟨e, h1, h2, h3.imp (fun h => h) fun h3 => ?_⟩
      have hl : e.on < acc.length := by
        rcases Nat.lt_or_ge e.on acc.length with h | h
        · exact h
        · rw [List.getD_eq_getElem?_getD, List.getElem?_eq_none h] at h3; simp at h3
      rw [List.getD_eq_getElem?_getD, ancs_keep _ _ _ (by simp; omega), List.getElem?_append_left hl, ← List.getD_eq_getElem?_getD]
      exact h3
  | o :: l, acc, i + 1, o', t, h, hb => by
    unfold ancs at hb ⊢
    refine ancs_spec' l _ i o' t (by simpa using h) ?_
    rw [List.length_append, List.length_singleton, show acc.length + 1 + i = acc.length + (i + 1) from by omega]
    exact hb

abbrev Item.op (q : Item) : Oper := q.1
abbrev Item.at (q : Item) : Nat := q.2.1
abbrev Item.an (q : Item) : Nat := q.2.2.1
abbrev Item.new (q : Item) : Nat := q.2.2.2

/-- Of two operations the second comes once more, and the first does not wait for it. -/
def Ahead (p q : Item) : Prop := p.at ≠ q.at ∧ ∀ e ∈ p.op.after, Region.binds .any e = true → e.on ≠ q.at

theorem orderOk_not : ∀ (l : List Item) (d : Nat), orderOk l d = true → ∀ q ∈ l, d.testBit q.at = false
  | [], _, _, _, h => by cases h
  | (o, i, an, k) :: l, d, h, q, hq => by
    simp only [orderOk, Bool.and_eq_true, Bool.not_eq_true'] at h
    rcases List.mem_cons.1 hq with rfl | hq
    · exact h.1.1
    · have := orderOk_not l _ h.2 q hq
      rw [Nat.testBit_or] at this
      simp only [Bool.or_eq_false_iff] at this
      exact this.1

theorem orderOk_spec : ∀ (l : List Item) (d : Nat), orderOk l d = true → l.Pairwise Ahead ∧ ∀ q ∈ l, ∀ e ∈ q.op.after, Region.binds .any e = true → e.on ≠ q.at ∧ (d.testBit e.on = true ∨ ∃ p ∈ l, p.at = e.on)
  | [], _, _ => ⟨.nil, fun q h => by cases h⟩
  | (o, i, an, k) :: l, d, h => by
    have hno := orderOk_not _ _ h
    simp only [orderOk, Bool.and_eq_true, Bool.not_eq_true', List.all_eq_true, Bool.or_eq_true] at h
    obtain ⟨⟨h1, h2⟩, h3⟩ := h
    have hno' := orderOk_not _ _ h3
    obtain ⟨ih1, ih2⟩ := orderOk_spec l _ h3
    have hd : ∀ e ∈ o.after, Region.binds .any e = true → d.testBit e.on = true := fun e he hb => (h2 e (by simpa using he)).resolve_left (by simp [hb])
    refine ⟨List.pairwise_cons.2 ⟨fun q hq => ⟨?_, fun e he hb heq => ?_⟩, ih1⟩, fun q hq => ?_⟩
    · intro heq
      have := hno' q hq
      rw [← show i = q.at from heq, Nat.testBit_or, Nat.testBit_two_pow] at this
      simp at this
    · have h4 := hd e he hb
      have h5 := hno q (by simp [hq])
      rw [heq] at h4; rw [h4] at h5; cases h5
    · rcases List.mem_cons.1 hq with rfl | hq
      · intro e he hb
        refine ⟨fun heq => ?_, .inl (hd e he hb)⟩
        have h4 := hd e he hb
        rw [heq] at h4
        exact absurd h4 (by simp only [Item.at]; rw [h1]; simp)
      · intro e he hb
        obtain ⟨h4, h5⟩ := ih2 q hq e he hb
        refine ⟨h4, ?_⟩
        rcases h5 with h5 | ⟨p, h5, h6⟩
        · rw [Nat.testBit_or, Nat.testBit_two_pow] at h5
          simp only [Bool.or_eq_true, decide_eq_true_eq] at h5
          rcases h5 with h5 | h5
          · exact .inl h5
          · exact .inr ⟨(o, i, an, k), by simp, h5⟩
        · exact .inr ⟨p, by simp [h5], h6⟩

theorem laid_spec {P : Program} {sp ops : List Oper} {as : List Nat} : ∀ (l : List Nat) (n : Nat) (r : List Item), laid P sp ops as l n = some r → ∀ q ∈ r, ops[q.at]? = some q.op ∧ q.an = as.getD q.at 0
  | [], _, _, h, q, hq => by injection h with h; subst h; cases hq
  | i :: l, n, r, h, q, hq => by
    unfold laid at h
    split at h
    · rename_i o ho
      obtain ⟨r', hr', rfl⟩ := Option.map_eq_some_iff.1 h
      rcases List.mem_cons.1 hq with rfl | hq
      · exact ⟨ho, rfl⟩
      · exact laid_spec l _ r' hr' q hq
    · cases h

theorem apartOk_spec {arr : Array Oper} : ∀ (l : List Item), apartOk arr l = true → l.Pairwise fun p q => q.an.testBit p.at = true ∨ p.op.apart arr q.op = true
  | [], _ => .nil
  | (o, i, an, k) :: l, h => by
    simp only [apartOk, Bool.and_eq_true, List.all_eq_true, Bool.or_eq_true] at h
    exact List.pairwise_cons.2 ⟨fun q hq => h.1 q hq, apartOk_spec l h.2⟩

/-- What is still to come, and what has come. -/
structure Left (arr : Array Oper) (anc : Nat → Nat) (listed : Array Bool) (rem : List Item) : Prop where
  size : listed.size = arr.size
  mem : ∀ j, listed.getD j true = false ↔ ∃ q ∈ rem, q.at = j
  op : ∀ q ∈ rem, arr[q.at]? = some q.op ∧ q.an = anc q.at
  order : rem.Pairwise Ahead
  self : ∀ q ∈ rem, ∀ e ∈ q.op.after, Region.binds .any e = true → e.on ≠ q.at ∧ e.on < arr.size
  down : ∀ j, listed.getD j false = true → ∀ t, (anc j).testBit t = true → listed.getD t false = true
  anc : ∀ q ∈ rem, ∀ t, (anc q.at).testBit t = true → ∃ e ∈ q.op.after, Region.binds .any e = true ∧ (e.on = t ∨ (anc e.on).testBit t = true)

section
variable {arr : Array Oper} {anc : Nat → Nat} {listed : Array Bool} {rem : List Item}

theorem getD_tf {listed : Array Bool} {j : Nat} (h : j < listed.size) : listed.getD j false = !(!listed.getD j true) := by simp [h]

theorem Left.come (h : Left arr anc listed rem) {j : Nat} (hj : j < arr.size) (hn : ∀ q ∈ rem, q.at ≠ j) : listed.getD j false = true := by
  have hj' : j < listed.size := by rw [h.size]; exact hj
  cases hb : listed.getD j true with
  | false => obtain ⟨q, h1, h2⟩ := (h.mem j).1 hb; exact absurd h2 (hn q h1)
  | true => simp [hj'] at hb ⊢; exact hb

theorem Left.unlisted (h : Left arr anc listed rem) {q : Item} (hq : q ∈ rem) : listed.getD q.at false = false := by
  have h1 := (h.mem q.at).2 ⟨q, hq, rfl⟩
  have hj' : q.at < listed.size := by rw [h.size]; exact (Array.getElem?_eq_some_iff.1 (h.op q hq).1).1
  simp [hj'] at h1 ⊢; exact h1

/-- What is ready is among what is to come, and nothing of that comes ahead of it. -/
theorem Left.ready (h : Left arr anc listed rem) {j : Nat} (hj : j ∈ Region.ready .any arr listed) : ∃ q ∈ rem, q.at = j ∧ ∀ p ∈ rem, q.an.testBit p.at = false := by
  obtain ⟨h1, o, ho, h2⟩ := mem_ready.1 hj
  obtain ⟨q, hq, rfl⟩ := (h.mem j).1 h1
  refine ⟨q, hq, rfl, fun p hp => ?_⟩
  obtain ⟨h3, h4⟩ := h.op q hq
  rw [ho] at h3; injection h3 with h3; subst h3
  cases hb : q.an.testBit p.at with
  | false => rfl
  | true =>
    exfalso
    rw [h4] at hb
    obtain ⟨e, he, hbi, hor⟩ := h.anc q hq _ hb
    have h5 := h2 e he hbi
    have h6 := h.unlisted hp
    rcases hor with hor | hor
    · rw [hor, h6] at h5; cases h5
    · have := h.down _ h5 _ hor
      rw [h6] at this; cases this

theorem Left.first (h : Left arr anc listed rem) {q : Item} {l : List Item} (hr : rem = q :: l) : q.at ∈ Region.ready .any arr listed := by
  have hq : q ∈ rem := by rw [hr]; simp
  rw [mem_ready]
  refine ⟨(h.mem _).2 ⟨q, hq, rfl⟩, q.op, (h.op q hq).1, fun e he hb => ?_⟩
  obtain ⟨h1, h2⟩ := h.self q hq e he hb
  refine h.come h2 fun p hp heq => ?_
  have ho := h.order
  rw [hr] at ho hp
  rcases List.mem_cons.1 hp with rfl | hp
  · exact h1 heq.symm
  · exact ((List.pairwise_cons.1 ho).1 p hp).2 e he hb heq.symm

theorem Left.none (h : Left arr anc listed []) : Region.ready .any arr listed = [] := by
  cases hr : Region.ready .any arr listed with
  | nil => rfl
  | cons j js =>
    obtain ⟨q, hq, _⟩ := h.ready (j := j) (by rw [hr]; simp)
    cases hq

theorem Left.take {pre post : List Item} {q : Item} (h : Left arr anc listed (pre ++ q :: post)) (hr : q.at ∈ Region.ready .any arr listed) : Left arr anc (listed.setIfInBounds q.at true) (pre ++ post) := by
  have hsub : (pre ++ post).Sublist (pre ++ q :: post) := List.Sublist.append_left (List.sublist_cons_self q post) pre
  have hqm : q ∈ pre ++ q :: post := by simp
  have hqs : q.at < listed.size := by rw [h.size]; exact (Array.getElem?_eq_some_iff.1 (h.op q hqm).1).1
  have hne : ∀ p ∈ pre ++ post, p.at ≠ q.at := by
    intro p hp
    have ho := List.pairwise_append.1 h.order
    rcases List.mem_append.1 hp with hp | hp
    · exact (ho.2.2 p hp q (by simp)).1
    · exact fun e => ((List.pairwise_cons.1 ho.2.1).1 p hp).1 e.symm
  refine ⟨by simpa using h.size, fun j => ?_, fun p hp => h.op p (hsub.subset hp), h.order.sublist hsub, fun p hp => h.self p (hsub.subset hp), ?_, fun p hp => h.anc p (hsub.subset hp)⟩
  · by_cases hj : q.at = j
    · subst hj
      constructor
      · intro h1; simp [hqs] at h1
      · rintro ⟨p, hp, he⟩; exact absurd he (hne p hp)
    · rw [getD_set_ne true hj, h.mem j]
      constructor
      · rintro ⟨p, hp, rfl⟩
        refine ⟨p, ?_, rfl⟩
        rcases List.mem_append.1 hp with hp | hp
        · exact List.mem_append_left _ hp
        · rcases List.mem_cons.1 hp with rfl | hp
          · exact absurd rfl hj
          · exact List.mem_append_right _ hp
      · rintro ⟨p, hp, rfl⟩; exact ⟨p, hsub.subset hp, rfl⟩
  · intro j hj t ht
    by_cases hjq : q.at = j
    · subst hjq
      obtain ⟨e, he, hb, hor⟩ := h.anc q hqm t ht
      obtain ⟨_, o, ho, h2⟩ := mem_ready.1 hr
      rw [(h.op q hqm).1] at ho; injection ho with ho; subst ho
      have h5 := h2 e he hb
      rcases hor with rfl | hor
      · exact getD_set_true h5
      · exact getD_set_true (h.down _ h5 _ hor)
    · rw [getD_set_ne false hjq] at hj
      exact getD_set_true (h.down j hj t ht)

end

/-! ### The steps of a region, one behind the other -/

abbrev Ev := Item × AV × Foot

section
variable {P : Program} {H : Hints} {run : RunF} {sp : List Oper} {arr : Array Oper} {fr fr2 : Fr} {σ σ2 : Heap}

inductive Trace (P : Program) (H : Hints) (run : RunF) (sp ops : List Oper) : List Ev → Fr → Heap → Fr → Heap → Prop
  | nil (fr : Fr) (σ : Heap) : Trace P H run sp ops [] fr σ fr σ
  | cons (q : Item) (v : AV) (ft : Foot) (l : List Ev) (fr : Fr) (σ σ1 : Heap) (fr2 : Fr) (σ2 : Heap) (h : Step P H run sp ops q.op q.new fr σ v σ1 ft) (hl : Trace P H run sp ops l (put fr q.op.dst v) σ1 fr2 σ2) :
      Trace P H run sp ops ((q, v, ft) :: l) fr σ fr2 σ2

/-- Two steps of which the first comes ahead of the second, or may change places with it. -/
def Free (arr : Array Oper) (p q : Ev) : Prop := q.1.an.testBit p.1.at = true ∨ (apartF p.2.2 q.2.2 = true ∧ p.1.op.apart arr q.1.op = true)

theorem Trace.bubble {q : Item} {v : AV} {ft : Foot} {post : List Ev} : ∀ (pre : List Ev) (fr : Fr) (σ : Heap), Trace P H run sp arr.toList (pre ++ (q, v, ft) :: post) fr σ fr2 σ2 →
    (∀ p ∈ pre, apartF p.2.2 ft = true ∧ p.1.op.apart arr q.op = true) → ∃ σ1, Step P H run sp arr.toList q.op q.new fr σ v σ1 ft ∧ Trace P H run sp arr.toList (pre ++ post) (put fr q.op.dst v) σ1 fr2 σ2
  | [], fr, σ, h, _ => by
    cases h with
    | cons q v ft l fr σ σ1 fr2 σ2 h hl => exact ⟨σ1, h, hl⟩
  | p :: pre, fr, σ, h, hf => by
    cases h with
    | cons q' v' ft' l fr σ σ1 fr2 σ2 h hl =>
      obtain ⟨σ3, h1, h2⟩ := Trace.bubble pre _ _ hl fun p' hp => hf p' (by simp [hp])
      obtain ⟨ha, hb⟩ := hf (q', v', ft') (by simp)
      obtain ⟨τ, h3, h4, h5⟩ := h.swap hb ha h1
      refine ⟨τ, h3, .cons q' v' ft' _ _ _ _ _ _ h4 ?_⟩
      rw [← h5]; exact h2

theorem put_put (fr : Fr) (d : Option Nat) (v u : AV) : put (put fr d v) d u = put fr d u := by
  cases d with
  | none => rfl
  | some d => simp [put]

theorem foldl_undef_put : ∀ (ops : List Oper) (fr : Fr) (d : Option Nat) (v : AV), (∃ o ∈ ops, o.dst = d) → ops.foldl (fun f q => put f q.dst .undef) (put fr d v) = ops.foldl (fun f q => put f q.dst .undef) fr
  | [], _, _, _, ⟨o, h, _⟩ => by cases h
  | q :: ops, fr, d, v, ⟨o, h, hd⟩ => by
    simp only [List.foldl_cons]
    by_cases hq : q.dst = d
    · subst hq; rw [put_put]
    · have ho : ∃ o ∈ ops, o.dst = d := by
        rcases List.mem_cons.1 h with rfl | h
        · exact absurd hd hq
        · exact ⟨o, h, hd⟩
      have : put (put fr d v) q.dst .undef = put (put fr q.dst .undef) d v := put_comm' fun x hx hy => hq (hx ▸ hy)
      rw [this]
      exact foldl_undef_put ops _ d v ho

theorem Trace.undef {ops : List Oper} {l : List Ev} (h : Trace P H run sp ops l fr σ fr2 σ2) (ho : ∀ e ∈ l, e.1.op ∈ ops) : ops.foldl (fun f q => put f q.dst .undef) fr2 = ops.foldl (fun f q => put f q.dst .undef) fr := by
  induction h with
  | nil fr σ => rfl
  | cons q v ft l fr σ σ1 fr2 σ2 h hl ih =>
    rw [ih fun e he => ho e (by simp [he])]
    exact foldl_undef_put _ _ _ _ ⟨q.op, ho (q, v, ft) (by simp), rfl⟩

theorem Step.idle {ops : List Oper} {o : Oper} {k : Nat} {v : AV} {ft : Foot} (h : Step P H run sp ops o k fr σ v σ2 ft) (hw : ft.wr = []) : σ2 = σ := by
  obtain ⟨pat, e, h1, h2, h3, h4, _⟩ := h.local
  have he : e = [] := by
    cases e with
    | nil => rfl
    | cons x e =>
      have := h3 σ.length (Nat.le_refl _) (by simp)
      rw [hw] at this; cases this
  subst he
  rw [h4]
  have : pat = nopat := by
    funext i
    cases hp : pat i with
    | none => rfl
    | some q =>
      have := h1 i (by rw [hp]; simp)
      rw [hw] at this; cases this
  rw [this, patch_nop]

theorem Trace.idle {ops : List Oper} {l : List Ev} (h : Trace P H run sp ops l fr σ fr2 σ2) (hw : ∀ e ∈ l, e.2.2.wr = []) : σ2 = σ := by
  induction h with
  | nil fr σ => rfl
  | cons q v ft l fr σ σ1 fr2 σ2 h hl ih =>
    rw [ih fun e he => hw e (by simp [he])]
    exact h.idle (hw (q, v, ft) (by simp))

theorem Trace.same {o : Oper} {l : List Ev} (h : Trace P H run sp arr.toList l fr σ fr2 σ2) (ha : ∀ e ∈ l, e.1.op.apart arr o = true) : SameAt arr o fr2 fr := by
  induction h with
  | nil fr σ => exact fun t _ => rfl
  | cons q v ft l fr σ σ1 fr2 σ2 h hl ih =>
    have h1 := ih fun e he => ha e (by simp [he])
    obtain ⟨a1, _, _⟩ := Oper.apart_spec (ha (q, v, ft) (by simp))
    have h2 : SameAt arr o fr (put fr q.op.dst v) := same_put a1
    exact fun t ht => (h2 t ht).symm.trans (h1 t ht)

theorem apartF_no (f : Foot) : apartF f .no = true := by simp [apartF, Foot.no]

end
end Go.Den

/- Whichever order is drawn. -/
namespace Go.Den
open Go

section
variable {R : Type} {run : RunF} {loop : Code → Fr → Heap → Option Out} {lr : Res → Heap → Option R} {lo : Out → Option R} {r : R}
variable {C : Ctx} {D : List Deferred} {arr : Array Oper}

theorem set_same {α : Type} {l : List α} {j : Nat} {x : α} (h : l[j]? = some x) : l.set j x = l := by
  apply List.ext_getElem?
  intro i
  rw [List.getElem?_set]
  split
  · rename_i e
    subst e
    split
    · exact h.symm
    · rename_i hl; rw [List.getElem?_eq_none (by omega)] at h; cases h
  · rfl

/-- What a region in one of its orders comes to: all its steps, or a panic in the middle. -/
structure EndN (C : Ctx) (run : RunF) (loop : Code → Fr → Heap → Option Out) (lr : Res → Heap → Option R) (lo : Out → Option R) (r : R) (arr : Array Oper) (items : List Item) (acc : List (Nat × Foot)) (fr : Fr) (σ : Heap) (K : Fr → Heap → T) : Prop where
  ex : ∃ (l : List Ev) (frE : Fr) (σE : Heap), l.map (·.1) = items ∧ Trace C.P C.H run (C.sp arr.toList) arr.toList l fr σ frE σE ∧ l.Pairwise (Free arr) ∧
    (∀ e ∈ l, ∀ q ∈ acc, e.1.an.testBit q.1 = true ∨ apartF q.2 e.2.2 = true) ∧ (K frE σE).go run loop lr lo = some r

structure EndP (C : Ctx) (run : RunF) (loop : Code → Fr → Heap → Option Out) (lr : Res → Heap → Option R) (lo : Out → Option R) (r : R) (arr : Array Oper) (items : List Item) (acc : List (Nat × Foot)) (fr : Fr) (σ : Heap) (Kp : E → Fr → Heap → T) : Prop where
  ex : ∃ (l : List Ev) (q : Item) (rest : List Item) (frE : Fr) (σE : Heap) (x : E) (σ' : Heap), items = l.map (·.1) ++ q :: rest ∧ Trace C.P C.H run (C.sp arr.toList) arr.toList l fr σ frE σE ∧ l.Pairwise (Free arr) ∧
    (∀ e ∈ l, ∀ q ∈ acc, e.1.an.testBit q.1 = true ∨ apartF q.2 e.2.2 = true) ∧
    Wanted arr.toList frE q.op ∧ Pans C.P C.H run q.op frE σE x σ' ∧ (∀ p ∈ acc, q.an.testBit p.1 = true ∨ p.2.wr = []) ∧ (∀ e ∈ l, q.an.testBit e.1.at = true ∨ e.2.2.wr = []) ∧ (∀ p ∈ rest, p.an.testBit q.at = true) ∧
    (∀ e ∈ l, q.an.testBit e.1.at = true ∨ e.1.op.apart arr q.op = true) ∧
    (Kp x (arr.toList.foldl (fun f q => put f q.dst .undef) frE) σ').go run loop lr lo = some r

theorem denDraw_inv {K : Fr → Heap → T} {Kp : E → Fr → Heap → T} : ∀ (items : List Item) (acc : List (Nat × Foot)) (fr : Fr) (σ : Heap), apartOk arr items = true → (denDraw C arr.toList items acc fr σ K Kp).go run loop lr lo = some r →
    EndN C run loop lr lo r arr items acc fr σ K ∨ EndP C run loop lr lo r arr items acc fr σ Kp
  | [], acc, fr, σ, _, h => .inl ⟨[], fr, σ, rfl, .nil _ _, .nil, fun e h => (by cases h), h⟩
  | (o, i, an, k) :: rest, acc, fr, σ, hap, h => by
    have hap' : (∀ q ∈ rest, q.an.testBit i = true ∨ o.apart arr q.op = true) ∧ apartOk arr rest = true := by
      simp only [apartOk, Bool.and_eq_true, List.all_eq_true, Bool.or_eq_true] at hap
      exact hap
    -- behind a step
    have hnext : ∀ (v : AV) (ft : Foot) (σ1 : Heap), Step C.P C.H run (C.sp arr.toList) arr.toList o k fr σ v σ1 ft → (∀ q ∈ acc, an.testBit q.1 = true ∨ apartF q.2 ft = true) →
        (denDraw C arr.toList rest (acc ++ [(i, ft)]) (put fr o.dst v) σ1 K Kp).go run loop lr lo = some r →
        EndN C run loop lr lo r arr ((o, i, an, k) :: rest) acc fr σ K ∨ EndP C run loop lr lo r arr ((o, i, an, k) :: rest) acc fr σ Kp := by
      intro v ft σ1 hs hacc hk
      rcases denDraw_inv rest _ _ _ hap'.2 hk with ⟨l, frE, σE, h1, h2, h3, h4, h5⟩ | ⟨l, q, rs, frE, σE, x, σ', h1, h2, h3, h4, h5, h6, h7, h8, h9, h10, h11⟩
      · refine .inl ⟨((o, i, an, k), v, ft) :: l, frE, σE, by simp [h1], .cons (o, i, an, k) v ft l _ _ _ _ _ hs h2, ?_, ?_, h5⟩
        · refine List.pairwise_cons.2 ⟨fun e he => ?_, h3⟩
          rcases h4 e he (i, ft) (by simp) with h | h
          · exact .inl h
          · rcases hap'.1 e.1 (by rw [← h1]; exact List.mem_map.2 ⟨e, he, rfl⟩) with g | g
            · exact .inl g
            · exact .inr ⟨h, g⟩
        · intro e he q hq
          rcases List.mem_cons.1 he with rfl | he
          · exact hacc q hq
          · exact h4 e he q (by simp [hq])
      · refine .inr ⟨((o, i, an, k), v, ft) :: l, q, rs, frE, σE, x, σ', by simp [h1], .cons (o, i, an, k) v ft l _ _ _ _ _ hs h2, ?_, ?_, h5, h6, fun p hp => h7 p (by simp [hp]), ?_, h9, ?_, h11⟩
        · refine List.pairwise_cons.2 ⟨fun e he => ?_, h3⟩
          rcases h4 e he (i, ft) (by simp) with h | h
          · exact .inl h
          · rcases hap'.1 e.1 (by rw [h1]; exact List.mem_append_left _ (List.mem_map.2 ⟨e, he, rfl⟩)) with g | g
            · exact .inl g
            · exact .inr ⟨h, g⟩
        · intro e he q hq
          rcases List.mem_cons.1 he with rfl | he
          · exact hacc q hq
          · exact h4 e he q (by simp [hq])
        · intro e he
          rcases List.mem_cons.1 he with rfl | he
          · exact h7 (i, ft) (by simp)
          · exact h8 e he
        · intro e he
          rcases List.mem_cons.1 he with rfl | he
          · exact hap'.1 q (by rw [h1]; simp)
          · exact h10 e he
    have hgo : Wanted arr.toList fr o → (denGo C (C.sp arr.toList) o fr σ k (fun fr' σ' =>
          if acc.all (fun q => an.testBit q.1 || apartF q.2 ((footOf C.P C.H.own (C.sp arr.toList) fr σ k o).with σ.length σ'.length)) then denDraw C arr.toList rest (acc ++ [(i, (footOf C.P C.H.own (C.sp arr.toList) fr σ k o).with σ.length σ'.length)]) fr' σ' K Kp else .fail)
        (fun x σ' => if acc.all (fun q => an.testBit q.1 || q.2.wr.isEmpty) && rest.all (fun q => q.2.2.1.testBit i) then Kp x (arr.toList.foldl (fun f q => put f q.dst .undef) fr) σ' else .fail)).go run loop lr lo = some r →
        EndN C run loop lr lo r arr ((o, i, an, k) :: rest) acc fr σ K ∨ EndP C run loop lr lo r arr ((o, i, an, k) :: rest) acc fr σ Kp := by
      intro hw hg
      rcases denGo_inv sp_nil hg with ⟨v, σ', hd, hk⟩ | ⟨x, σ', hd, hk⟩
      · split at hk
        · rename_i hacc
          simp only [List.all_eq_true, Bool.or_eq_true] at hacc
          exact hnext v _ σ' (.does v σ' hw hd) hacc hk
        · cases hk
      · split at hk
        · rename_i hacc
          simp only [Bool.and_eq_true, List.all_eq_true, Bool.or_eq_true, List.isEmpty_iff] at hacc
          refine .inr ⟨[], (o, i, an, k), rest, fr, σ, x, σ', rfl, .nil _ _, .nil, fun e h => (by cases h), hw, hd, hacc.1, fun e h => (by cases h), hacc.2, fun e h => (by cases h), hk⟩
        · cases hk
    have hskip : Skipped arr.toList fr o → (denDraw C arr.toList rest (acc ++ [(i, .no)]) (put fr o.dst (.tup [])) σ K Kp).go run loop lr lo = some r →
        EndN C run loop lr lo r arr ((o, i, an, k) :: rest) acc fr σ K ∨ EndP C run loop lr lo r arr ((o, i, an, k) :: rest) acc fr σ Kp :=
      fun hs hk => hnext _ .no σ (.skip hs) (fun q _ => .inr (apartF_no _)) hk
    unfold denDraw at h
    simp only at h
    split at h
    · rename_i hg
      exact hgo (.inl hg) h
    · rename_i j w0 hg
      split at h
      · cases h
      · rename_i dj hdj
        split at h
        · rename_i b hb
          rcases go_br h with ⟨hbw, h⟩ | ⟨hbw, h⟩
          · have : b = w0 := by simpa using hbw
            subst this
            rw [set_same hb] at h
            exact hgo (.inr ⟨j, b, dj, hg, hdj, hb⟩) h
          · have hne : b ≠ w0 := by simpa using hbw
            have : (!w0) = b := by cases b <;> cases w0 <;> simp at hne ⊢
            rw [this, set_same hb] at h
            exact hskip ⟨j, w0, dj, hg, hdj, .inr ⟨b, hne, hb⟩⟩ h
        · rename_i hb
          exact hskip ⟨j, w0, dj, hg, hdj, .inl hb⟩ h
        · cases h

/-- A step, carried out. -/
theorem Step.wpOp (hp : PrimOk C.P C.H) (hrun : RunOk C.P run) {q : Item} {v : AV} {ft : Foot} {fr : Fr} {σ σ' : Heap} {ρ : Gr} {S : Cells} {w : World} {a : Act} {N : Act → World → Prop} {Q : Exit → Act → World → Prop}
    (ho : arr[q.at]? = some q.op) (hs : Step C.P C.H run (C.sp arr.toList) arr.toList q.op q.new fr σ v σ' ft) (hr : Rel C.P σ ρ S w) (hf : FR C.P σ ρ S w fr a.tmps)
    (hN : ∀ (cv : Value) (ρ' : Gr) (S' : Cells) (w' : World), Rel C.P σ' ρ' S' w' → Ext σ ρ S w σ' ρ' S' w' → VA3 C.P σ' ρ' S' w' v cv → N (a.put q.op.dst cv) w') : wpOp C.P arr Q q.at N a w := by
  unfold Go.wpOp
  simp only [ho]
  cases hs with
  | skip hs =>
    obtain ⟨j, w0, dj, hg, hdj, hb⟩ := hs
    have hw : Region.wanted q.op (yielded arr a.tmps) = false := by
      unfold Region.wanted
      rw [hg]
      rcases hb with hb | ⟨b, hne, hb⟩
      · obtain ⟨cv, h1, h2⟩ := hf.get hb
        rw [VA3_skip_inv h2] at h1
        simp [yielded_undef hdj h1]
      · simpa [yielded_bool hdj (hf.bool hb)] using hne
    rw [hw]
    exact hN undef ρ S w hr (Ext.refl _ _ _ _) VA3_skip
  | does v σ' hw hd =>
    have hw' : Region.wanted q.op (yielded arr a.tmps) = true := by
      unfold Region.wanted
      rcases hw with hg | ⟨j, w0, dj, hg, hdj, hb⟩
      · rw [hg]
      · rw [hg]
        simp [yielded_bool hdj (hf.bool hb)]
    rw [if_pos hw']
    exact .inl (hd.wp hp hrun hr hf hN)

theorem foldl_forget {P : Program} {σ : Heap} {ρ : Gr} {S : Cells} {w : World} {a : Act} : ∀ (ops : List Oper) (fr : Fr), FR P σ ρ S w fr a.tmps → FR P σ ρ S w (ops.foldl (fun f o => put f o.dst .undef) fr) a.tmps
  | [], _, h => h
  | o :: ops, fr, h => by
    simp only [List.foldl_cons]
    refine foldl_forget ops _ ?_
    refine ⟨by rw [put_len]; exact h.1, fun t v ht => ?_⟩
    by_cases hd : o.dst = some t
    · rw [hd] at ht
      simp only [put] at ht
      rw [List.getElem?_set] at ht
      simp only [if_true] at ht
      split at ht
      · rename_i hl
        injection ht with ht; subst ht
        exact ⟨_, Array.getElem?_eq_getElem (by rw [h.1]; exact hl), VA3_undef⟩
      · cases ht
    · rw [put_ne hd] at ht
      exact h.2 t v ht

/-- Taking one of the steps that are ready. -/
theorem take_free {l : List Ev} {e : Ev} (hm : e ∈ l) (hpw : l.Pairwise (Free arr)) (hno : ∀ p ∈ l, e.1.an.testBit p.1.at = false) :
    ∃ pre post, l = pre ++ e :: post ∧ (∀ p ∈ pre, apartF p.2.2 e.2.2 = true ∧ p.1.op.apart arr e.1.op = true) ∧ (pre ++ post).Pairwise (Free arr) := by
  obtain ⟨pre, post, rfl⟩ := List.append_of_mem hm
  refine ⟨pre, post, rfl, fun p hp => ?_, hpw.sublist (List.Sublist.append_left (List.sublist_cons_self e post) pre)⟩
  rcases (List.pairwise_append.1 hpw).2.2 p hp e (by simp) with h | h
  · rw [hno p (List.mem_append_left _ hp)] at h; cases h
  · exact h

theorem norm_ok (hp : PrimOk C.P C.H) (hrun : RunOk C.P run) {anc : Nat → Nat} {frE : Fr} {σE σ0 : Heap} {ρ0 : Gr} {S0 : Cells} {w0 : World} {Q : Exit → Act → World → Prop}
    (hQ : ∀ (ρ : Gr) (S : Cells) (w : World) (a : Act), a.defers = D → Rel C.P σE ρ S w → Ext σ0 ρ0 S0 w0 σE ρ S w → FR C.P σE ρ S w frE a.tmps → Q .normal a w) :
    ∀ (fuel : Nat) (l : List Ev) (listed : Array Bool) (fr : Fr) (σ : Heap) (ρ : Gr) (S : Cells) (w : World) (a : Act), Left arr anc listed (l.map (·.1)) → l.length ≤ fuel → Trace C.P C.H run (C.sp arr.toList) arr.toList l fr σ frE σE → l.Pairwise (Free arr) → a.defers = D →
      Rel C.P σ ρ S w → Ext σ0 ρ0 S0 w0 σ ρ S w → FR C.P σ ρ S w fr a.tmps → wpAny C.P .any arr Q fuel listed a w
  | fuel, [], listed, fr, σ, ρ, S, w, a, hl, _, ht, _, hd, hr, he, hf => by
    cases ht with
    | nil => exact wpAny_done hl.none (hQ ρ S w a hd hr he hf) fuel
  | 0, e :: l, _, _, _, _, _, _, _, _, hfu, _, _, _, _, _, _ => by simp at hfu
  | fuel + 1, e :: l, listed, fr, σ, ρ, S, w, a, hl, hfu, ht, hpw, hd, hr, he, hf => by
    refine ⟨fun h0 => ?_, fun i hi => ?_⟩
    · have := hl.first (q := e.1) (l := l.map (·.1)) rfl
      rw [h0] at this; cases this
    · obtain ⟨q, hq, rfl, hno⟩ := hl.ready hi
      obtain ⟨e', hm, rfl⟩ := List.mem_map.1 hq
      obtain ⟨pre, post, heq, hfree, hpw'⟩ := take_free hm hpw fun p hp => hno p.1 (List.mem_map.2 ⟨p, hp, rfl⟩)
      rw [heq] at ht hl hfu
      rw [List.map_append, List.map_cons] at hl
      obtain ⟨σ1, hs, ht'⟩ := Trace.bubble pre _ _ ht hfree
      have hl' := hl.take hi
      rw [← List.map_append] at hl'
      refine hs.wpOp hp hrun (hl.op e'.1 (by simp)).1 hr hf fun cv ρ' S' w' h1 h2 h3 => ?_
      refine norm_ok hp hrun hQ fuel (pre ++ post) _ _ σ1 ρ' S' w' _ hl' ?_ ht' hpw' (by rw [put_defers]; exact hd) h1 (he.trans h2) ((hf.mono h2).put _ h3)
      simp at hfu ⊢; omega

theorem pan_ok (hp : PrimOk C.P C.H) (hrun : RunOk C.P run) {anc : Nat → Nat} {frE frU : Fr} {σE σ0 σ' : Heap} {ρ0 : Gr} {S0 : Cells} {w0 : World} {Q : Exit → Act → World → Prop} {q : Item} {rest : List Item} {x : E}
    (hpan : Pans C.P C.H run q.op frE σE x σ') (hwant : Wanted arr.toList frE q.op) (hrest : ∀ p ∈ rest, p.an.testBit q.at = true) (hU : arr.toList.foldl (fun f q => put f q.dst .undef) frE = frU)
    (hQ : ∀ (cv : Value) (ρ : Gr) (S : Cells) (w : World) (a : Act), a.defers = D → Rel C.P σ' ρ S w → Ext σ0 ρ0 S0 w0 σ' ρ S w → FR C.P σ' ρ S w frU a.tmps → VE C.P w S x cv → Q (.panic [{ v := cv, recovered := false }]) a w) :
    ∀ (fuel : Nat) (l : List Ev) (listed : Array Bool) (fr : Fr) (σ : Heap) (ρ : Gr) (S : Cells) (w : World) (a : Act), Left arr anc listed (l.map (·.1) ++ q :: rest) → l.length < fuel → Trace C.P C.H run (C.sp arr.toList) arr.toList l fr σ frE σE → l.Pairwise (Free arr) →
      (∀ e ∈ l, q.an.testBit e.1.at = true ∨ e.2.2.wr = []) → (∀ e ∈ l, q.an.testBit e.1.at = true ∨ e.1.op.apart arr q.op = true) → a.defers = D →
      Rel C.P σ ρ S w → Ext σ0 ρ0 S0 w0 σ ρ S w → FR C.P σ ρ S w fr a.tmps → wpAny C.P .any arr Q fuel listed a w
  | 0, _, _, _, _, _, _, _, _, _, hfu, _, _, _, _, _, _, _, _ => by simp at hfu
  | fuel + 1, l, listed, fr, σ, ρ, S, w, a, hl, hfu, ht, hpw, hwr, hqa, hd, hr, he, hf => by
    refine ⟨fun h0 => ?_, fun i hi => ?_⟩
    · obtain ⟨q1, l1, h1⟩ : ∃ q1 l1, l.map (·.1) ++ q :: rest = q1 :: l1 := by
        cases l with
        | nil => exact ⟨_, _, rfl⟩
        | cons e l => exact ⟨_, _, rfl⟩
      have := hl.first h1
      rw [h0] at this; cases this
    · obtain ⟨q', hq, rfl, hno⟩ := hl.ready hi
      have hqm : q ∈ l.map (·.1) ++ q :: rest := by simp
      rcases List.mem_append.1 hq with hq | hq
      · -- one of the steps ahead
        obtain ⟨e', hm, rfl⟩ := List.mem_map.1 hq
        obtain ⟨pre, post, heq, hfree, hpw'⟩ := take_free hm hpw fun p hp => hno p.1 (List.mem_append_left _ (List.mem_map.2 ⟨p, hp, rfl⟩))
        rw [heq] at ht hl hfu
        have hsub : ∀ e ∈ pre ++ post, e ∈ l := fun e he => by
          rw [heq]; rcases List.mem_append.1 he with h | h
          · exact List.mem_append_left _ h
          · exact List.mem_append_right _ (List.mem_cons_of_mem _ h)
        rw [List.map_append, List.map_cons, List.append_assoc, List.cons_append] at hl
        obtain ⟨σ1, hs, ht'⟩ := Trace.bubble pre _ _ ht hfree
        have hl' := hl.take hi
        rw [← List.append_assoc, ← List.map_append] at hl'
        refine hs.wpOp hp hrun (hl.op e'.1 (by simp)).1 hr hf fun cv ρ' S' w' h1 h2 h3 => ?_
        refine pan_ok hp hrun hpan hwant hrest hU hQ fuel (pre ++ post) _ _ σ1 ρ' S' w' _ hl' ?_ ht' hpw' (fun e he => hwr e (hsub e he)) (fun e he => hqa e (hsub e he)) (by rw [put_defers]; exact hd) h1 (he.trans h2) ((hf.mono h2).put _ h3)
        simp at hfu ⊢; omega
      · rcases List.mem_cons.1 hq with rfl | hq
        · -- the panic itself
          have hnl : ∀ e ∈ l, q'.an.testBit e.1.at = false := fun e he => hno e.1 (List.mem_append_left _ (List.mem_map.2 ⟨e, he, rfl⟩))
          have hσ := ht.idle fun e he => (hwr e he).resolve_left (by rw [hnl e he]; simp)
          have hsame := ht.same (o := q'.op) fun e he => (hqa e he).resolve_left (by rw [hnl e he]; simp)
          subst hσ
          have hpan' := hpan.congr hsame.operands
          have hw : Region.wanted q'.op (yielded arr a.tmps) = true := by
            unfold Region.wanted
            rcases hwant with hg | ⟨j, w0, dj, hg, hdj, hb⟩
            · rw [hg]
            · rw [hg]
              have hb' : fr[dj]? = some (.e (.bool w0)) := by rw [hsame.guard hg hdj]; exact hb
              simp [yielded_bool hdj (hf.bool hb')]
          unfold Go.wpOp
          simp only [(hl.op q' hqm).1]
          rw [if_pos hw]
          refine .inl (hpan'.wp hp hrun hr hf fun cv ρ' S' w' h1 h2 h3 => hQ cv ρ' S' w' a hd h1 (he.trans h2) ?_ h3)
          have hu : arr.toList.foldl (fun f q => put f q.dst .undef) fr = frU := by
            rw [← hU]
            refine (ht.undef fun e he => ?_).symm
            have := (hl.op e.1 (List.mem_append_left _ (List.mem_map.2 ⟨e, he, rfl⟩))).1
            exact List.mem_of_getElem? (i := e.1.at) (by simpa using this)
          rw [← hu]
          exact foldl_forget _ _ (hf.mono h2)
        · exfalso
          have := hno q hqm
          rw [hrest q' hq] at this; cases this

theorem nodup_len : ∀ (n : Nat) (l : List Nat), l.Nodup → (∀ x ∈ l, x < n) → l.length ≤ n
  | 0, l, _, h => by
    cases l with
    | nil => simp
    | cons x l => have := h x (by simp); omega
  | n + 1, l, hn, h => by
    by_cases hm : n ∈ l
    · have h1 := nodup_len n (l.erase n) (hn.erase n) fun x hx => by
        have h2 := (hn.mem_erase_iff).1 hx
        have := h x h2.2
        have := h2.1
        omega
      rw [List.length_erase_of_mem hm] at h1
      omega
    · have := nodup_len n l hn fun x hx => by
        have := h x hx
        have : x ≠ n := fun e => hm (e ▸ hx)
        omega
      omega

/-- A region that draws its order. -/
theorem draw_ok (hp : PrimOk C.P C.H) (hrun : RunOk C.P run) (hm : C.P.follows .mixedOrders = true) {id : Nat} {fr : Fr} {σ : Heap} {K : Fr → Heap → T} {Kp : E → Fr → Heap → T} {Q : Exit → Act → World → Prop} {l : List Item} {is : List Nat} {n : Nat}
    (hl : laid C.P (C.sp arr.toList) arr.toList (ancs arr.toList []) is n = some l) (hlen : l.length = arr.toList.length) (ho : orderOk l 0 = true) (hap : apartOk arr l = true)
    (h : (denDraw C arr.toList l [] fr σ K Kp).go run loop lr lo = some r) {ρ : Gr} {S : Cells} {w : World} {a : Act} (hr : Rel C.P σ ρ S { w with drawn := w.drawn + 1 }) (hf : FR C.P σ ρ S { w with drawn := w.drawn + 1 } fr a.tmps) (hd : a.defers = D)
    (hK : ∀ (fr' : Fr) (σ' : Heap) (ρ' : Gr) (S' : Cells) (w' : World) (a' : Act), a'.defers = D → Rel C.P σ' ρ' S' w' → Ext σ ρ S { w with drawn := w.drawn + 1 } σ' ρ' S' w' → FR C.P σ' ρ' S' w' fr' a'.tmps → (K fr' σ').go run loop lr lo = some r → Q .normal a' w')
    (hKp : ∀ (x : E) (fr' : Fr) (σ' : Heap) (ρ' : Gr) (S' : Cells) (w' : World) (a' : Act) (cv : Value), a'.defers = D → Rel C.P σ' ρ' S' w' → Ext σ ρ S { w with drawn := w.drawn + 1 } σ' ρ' S' w' → FR C.P σ' ρ' S' w' fr' a'.tmps →
      VE C.P w' S' x cv → (Kp x fr' σ').go run loop lr lo = some r → Q (.panic [{ v := cv, recovered := false }]) a' w') :
    (Code.region id arr true).wp C.P Q a w := by
  refine wp_region_any hm ?_
  obtain ⟨hord, hself⟩ := orderOk_spec l 0 ho
  have hspec := laid_spec is n l hl
  have hat : ∀ q ∈ l, q.at < arr.size := fun q hq => by
    have := (hspec q hq).1
    simpa using (List.getElem?_eq_some_iff.1 this).1
  -- each number comes
  have hall : ∀ j, j < arr.size → ∃ q ∈ l, q.at = j := by
    intro j hj
    have hnd : (l.map Item.at).Nodup := by
      rw [List.nodup_iff_pairwise_ne, List.pairwise_map]
      exact hord.imp fun h => h.1
    refine Classical.byContradiction fun hno => ?_
    have := nodup_len arr.size (j :: l.map Item.at) (List.nodup_cons.2 ⟨fun hm => ?_, hnd⟩) fun x hx => ?_
    · simp [hlen] at this; omega
    · obtain ⟨q, hq, he⟩ := List.mem_map.1 hm
      exact hno ⟨q, hq, he⟩
    · rcases List.mem_cons.1 hx with rfl | hx
      · exact hj
      · obtain ⟨q, hq, rfl⟩ := List.mem_map.1 hx
        exact hat q hq
  have hleft : Left arr (fun i => (ancs arr.toList []).getD i 0) (Array.replicate arr.size false) l := by
    refine ⟨by simp, fun j => ?_, fun q hq => ⟨by simpa using (hspec q hq).1, (hspec q hq).2⟩, hord, fun q hq e he hb => ?_, fun j hj => ?_, fun q hq t ht => ?_⟩
    · constructor
      · intro hj
        rcases Nat.lt_or_ge j arr.size with h | h
        · exact hall j h
        · simp [Array.getD_eq_getD_getElem?, Array.getElem?_eq_none (xs := Array.replicate arr.size false) (i := j) (by simpa using h)] at hj
      · rintro ⟨q, hq, rfl⟩
        have := hat q hq
        simp [Array.getD_eq_getD_getElem?, this]
    · obtain ⟨h1, h2⟩ := hself q hq e he hb
      refine ⟨h1, ?_⟩
      rcases h2 with h2 | ⟨p, h2, h3⟩
      · simp at h2
      · rw [← h3]; exact hat p h2
    · exfalso
      rcases Nat.lt_or_ge j arr.size with h | h
      · simp [Array.getD_eq_getD_getElem?, h] at hj
      · simp [Array.getD_eq_getD_getElem?, Array.getElem?_eq_none (xs := Array.replicate arr.size false) (i := j) (by simpa using h)] at hj
    · obtain ⟨e, h1, h2⟩ := ancs_spec' arr.toList [] q.at q.op t (hspec q hq).1 (by simpa using ht)
      exact ⟨e, by simpa using h1, h2⟩
  have hlen' : l.length = arr.size := by simpa using hlen
  rcases denDraw_inv l [] fr σ hap h with ⟨evs, frE, σE, h1, h2, h3, _, h5⟩ | ⟨evs, q, rest, frE, σE, x, σ', h1, h2, h3, _, h5, h6, _, h8, h9, h10, h11⟩
  · subst h1
    exact norm_ok hp hrun (D := D) (fun ρ' S' w' a' k1 k2 k3 k4 => hK frE σE ρ' S' w' a' k1 k2 k3 k4 h5) arr.size evs _ fr σ ρ S _ a hleft (by simp at hlen'; omega) h2 h3 hd hr (Ext.refl _ _ _ _) hf
  · subst h1
    exact pan_ok hp hrun (D := D) h6 h5 h9 rfl (fun cv ρ' S' w' a' k1 k2 k3 k4 k5 => hKp x _ σ' ρ' S' w' a' cv k1 k2 k3 k4 k5 h11) arr.size evs _ fr σ ρ S _ a hleft (by simp at hlen'; omega) h2 h3 h8 h10 hd hr (Ext.refl _ _ _ _) hf

end
end Go.Den

/- Code and loops. -/
namespace Go.Den
open Go

/-! ### From a loop's head on -/

def LoopHead (P : Program) (c : Code) (Q : Exit → Act → World → Prop) (a : Act) (w : World) : Prop :=
  ∀ (b : Frame) (k : List Go.Item) (cs : List Frame), ∃ e a' w', Q e a' w' ∧ Arrives P (lone (b.at a (.code c :: .inLoop c :: k)) cs w) b k cs e a' w'

theorem LoopHead.loop {P : Program} {c : Code} {Q : Exit → Act → World → Prop} {a : Act} {w : World} (h : LoopHead P c Q a w) : (Code.loop c).wp P Q a w := by
  intro b k cs
  obtain ⟨e, a', w', hq, harr⟩ := h b k cs
  exact ⟨e, a', w', hq, .of_steps (.one step_loop) harr⟩

theorem LoopHead.round {P : Program} {c : Code} {Q : Exit → Act → World → Prop} {a : Act} {w : World} (h : c.wp P (Exit.then (LoopHead P c Q) Q) a w) : LoopHead P c Q a w := by
  intro b k cs
  obtain ⟨e, a₁, w₁, hq, harr⟩ := h b (.inLoop c :: k) cs
  cases e with
  | normal =>
    obtain ⟨e₂, a₂, w₂, hq₂, harr₂⟩ := hq b k cs
    exact ⟨e₂, a₂, w₂, hq₂, .of_steps (Steps.trans harr (.one step_inLoop)) harr₂⟩
  | exit id => exact ⟨_, a₁, w₁, hq, .pass (x := .inLoop c) rfl (fun _ _ => .inl (by simp)) harr⟩
  | goto l => exact ⟨_, a₁, w₁, hq, .pass (x := .inLoop c) rfl (fun _ _ => .inl (by simp)) harr⟩
  | ret => exact ⟨_, a₁, w₁, hq, .pass (x := .inLoop c) rfl (fun _ _ => .inl (by simp)) harr⟩
  | panic ch => exact ⟨_, a₁, w₁, hq, .pass (x := .inLoop c) rfl (fun _ _ => .inl (by simp)) harr⟩
  | outgrown => exact ⟨_, a₁, w₁, hq, .pass (x := .inLoop c) rfl (fun _ _ => .inl (by simp)) harr⟩

section
variable {P : Program} {σ σ' : Heap} {ρ : Gr} {S : Cells} {w : World} {fr : Fr} {a : Act} {o : Oper}

/-! ### A loop's head: what is kept -/

theorem promV_ok {v v' : AV} {k : Nat} {cv : Value} (h : promV v k σ = some (v', σ')) (hr : Rel P σ ρ S w) (hv : VA3 P σ ρ S w v cv) : Rel P σ' ρ S w ∧ Ext σ ρ S w σ' ρ S w ∧ VA3 P σ' ρ S w v' cv := by
  unfold promV at h
  split at h
  · rename_i cs
    obtain ⟨⟨cs1, σ1⟩, hp, h⟩ := Option.map_eq_some_iff.1 h
    injection h with h1 h2; subst h1; subst h2
    obtain ⟨arr, e1, e2, e3⟩ : ∃ arr : Array Value, cv = .agg arr ∧ arr.size = cs.length ∧ ∀ (j : Nat) (v : AV), cs[j]? = some v → v.one = true ∧ ∃ x, arr[j]? = some x ∧ VA1 P σ ρ S w v x := hv
    obtain ⟨l, r1, x1, c1⟩ := promote_ok cs hp hr (arr := arr.toList) (by simpa using e2) (fun j u hj => by
      obtain ⟨h3, y, hy, h4⟩ := e3 j u hj
      exact ⟨h3, y, by simpa using hy, h4⟩)
    refine ⟨r1, x1, arr, e1, by rw [e2]; exact l.symm, fun j u hj => ?_⟩
    obtain ⟨h3, y, hy, h4⟩ := c1 j u hj
    exact ⟨h3, y, by simpa using hy, h4⟩
  · rename_i t
    obtain ⟨σ1, hfill, h⟩ := Option.map_eq_some_iff.1 h
    injection h with h1 h2; subst h1; subst h2
    obtain ⟨hh, rfl⟩ := fillAt_spec hfill
    obtain ⟨r1, x1⟩ := hr.fillVec hh t 0
    obtain ⟨hcv, fs, hfs⟩ : cv = .slice none 0 0 ∧ ∃ fs, flat P depth t = some fs := hv
    refine ⟨r1, x1, ?_⟩
    exact VA1.to3 (v := .own k t []) ⟨by rw [hcv]; exact VE.nilSlice hfs _ _, .inl ⟨0, by simp [(List.getElem?_eq_some_iff.1 hh).1], Nat.le_refl _, fun _ => .inl ⟨hr.hole _ hh, hcv, rfl⟩⟩⟩
  · injection h with h; injection h with h1 h2; subst h1; subst h2
    exact ⟨hr, Ext.refl _ _ _ _, hv⟩

theorem promoteS_ok : ∀ (fr : Fr) {k : Nat} {σ σ' : Heap} {fr' : Fr} {tm : List Value}, promoteS fr k σ = some (fr', σ') → Rel P σ ρ S w → tm.length = fr.length → (∀ (t : Nat) (v : AV), fr[t]? = some v → ∃ cv, tm[t]? = some cv ∧ VA3 P σ ρ S w v cv) →
    fr'.length = fr.length ∧ Rel P σ' ρ S w ∧ Ext σ ρ S w σ' ρ S w ∧ ∀ (t : Nat) (v : AV), fr'[t]? = some v → ∃ cv, tm[t]? = some cv ∧ VA3 P σ' ρ S w v cv
  | [], k, σ, σ', fr', tm, h, hr, _, _ => by
    injection h with h; injection h with h1 h2; subst h1; subst h2
    exact ⟨rfl, hr, Ext.refl _ _ _ _, by simp⟩
  | v :: vs, k, σ, σ', fr', tm, h, hr, hl, hf => by
    unfold promoteS at h
    split at h
    · rename_i v1 σ1 hv
      obtain ⟨⟨vs1, σ2⟩, hp, h⟩ := Option.map_eq_some_iff.1 h
      injection h with h1 h2; subst h1; subst h2
      cases tm with
      | nil => simp at hl
      | cons cv tm =>
        obtain ⟨x, hx, hvx⟩ := hf 0 v rfl
        injection hx with hx; subst hx
        obtain ⟨r1, e1, hv1⟩ := promV_ok hv hr hvx
        obtain ⟨l2, r2, e2, f2⟩ := promoteS_ok vs (tm := tm) hp r1 (by simpa using hl) (fun t u ht => by
          obtain ⟨x, hx, h3⟩ := hf (t + 1) u (by simpa using ht)
          exact ⟨x, by simpa using hx, h3.mono e1⟩)
        refine ⟨by simp [l2], r2, e1.trans e2, fun t u ht => ?_⟩
        cases t with
        | zero => simp at ht; subst ht; exact ⟨cv, rfl, hv1.mono e2⟩
        | succ t =>
          obtain ⟨x, hx, h3⟩ := f2 t u (by simpa using ht)
          exact ⟨x, by simpa using hx, h3⟩
    · cases h

/-- What is kept of the objects: those that were there and those that are reached. -/
theorem keep_ok {m : Nat} {σ1 σ0 : Heap} {ρ0 : Gr} {S0 : Cells} {w0 : World} {roots ids : List Nat} (hids : closure σ 6 (addNew (List.range m) roots) = ids) (hs : subHeap σ ids = some σ1) (hm : σ0.length ≤ m) (hr : Rel P σ ρ S w) (he : Ext σ0 ρ0 S0 w0 σ ρ S w) :
    Rel P σ1 (subGr ρ ids) S w ∧ Ext σ0 ρ0 S0 w0 σ1 (subGr ρ ids) S w ∧ ∀ x ∈ roots, x ∈ ids := by
  have hn : ids.Nodup := by rw [← hids]; exact closure_nodup _ _ _ (addNew_nodup _ _ List.nodup_range)
  have hpre : ∀ k, k < m → ids[k]? = some k := fun k hk => by
    obtain ⟨t, ht⟩ := addNew_prefix roots (List.range m)
    obtain ⟨t', ht'⟩ := closure_prefix σ 6 (addNew (List.range m) roots)
    rw [← hids, ht', ht, List.append_assoc, List.getElem?_append_left (by simpa using hk), List.getElem?_range hk]
  have hmem : ∀ x ∈ roots, x ∈ ids := fun x hx => by
    rw [← hids]; exact closure_mem _ _ _ _ (addNew_mem _ _ _ hx)
  clear hids
  obtain ⟨h1, h2⟩ := subHeap_spec hs
  refine ⟨hr.sub hn hs, ?_, hmem⟩
  refine ⟨he.cell, ?_, ?_, ?_, ?_, he.old, ?_, he.newS, he.size, he.os, he.tape, he.output⟩
  · intro id cs hb
    obtain ⟨⟨cs', h3⟩, h4⟩ := he.box id cs hb
    have hk := hpre id (Nat.lt_of_lt_of_le (List.getElem?_eq_some_iff.1 hb).1 hm)
    obtain ⟨o, ho, _, _, ho'⟩ := h2 _ _ hk
    rw [h3] at ho; injection ho with ho; subst ho
    refine ⟨⟨_, ho'⟩, ?_⟩
    rw [subGr_get hk (by rw [hr.len]; exact (List.getElem?_eq_some_iff.1 h3).1), h4]
  · intro id et n hb
    have hk := hpre id (Nat.lt_of_lt_of_le (List.getElem?_eq_some_iff.1 hb).1 hm)
    obtain ⟨o, ho, _, _, ho'⟩ := h2 _ _ hk
    rcases he.vec id et n hb with ⟨n', l, h3, h4⟩ | h3
    · rw [h3] at ho; injection ho with ho; subst ho
      refine .inl ⟨n', l, ho', fun e => ?_⟩
      rw [subGr_get hk (by rw [hr.len]; exact (List.getElem?_eq_some_iff.1 h3).1), h4 e]
    · rw [h3] at ho; injection ho with ho; subst ho
      exact .inr ho'
  · intro id r hb
    have hk := hpre id (Nat.lt_of_lt_of_le (List.getElem?_eq_some_iff.1 hb).1 hm)
    obtain ⟨o, ho, _, _, ho'⟩ := h2 _ _ hk
    rcases he.raw id r hb with ⟨r', g1, g2, h3, h4⟩ | ⟨g1, h3⟩
    · rw [h3] at ho; injection ho with ho; subst ho
      refine .inl ⟨_, by rw [Raw.ren_kind]; exact g1, by rw [Raw.ren_size]; exact g2, ho', fun e => ?_⟩
      rw [subGr_get hk (by rw [hr.len]; exact (List.getElem?_eq_some_iff.1 h3).1), h4 (by rw [Raw.ren_size] at e; exact e)]
    · rw [h3] at ho; injection ho with ho; subst ho
      exact .inr ⟨g1, ho'⟩
  · intro id hd
    have h3 := he.dead id hd
    have hk := hpre id (Nat.lt_of_lt_of_le (List.getElem?_eq_some_iff.1 hd).1 hm)
    obtain ⟨o, ho, _, _, ho'⟩ := h2 _ _ hk
    have e : Ob.dead = o := Option.some.inj (h3.symm.trans ho)
    rw [← e] at ho'
    exact ho'
  · intro id b c hg
    obtain ⟨id', _, h4⟩ := subGr_back hg
    exact he.fresh id' b c h4

theorem bare_ok {v : AV} {cv : Value} (h : VA3 P σ ρ S w v cv) : VA3 P σ ρ S w v.bare cv := by
  cases v with
  | nils t => exact ⟨⟨none, h.1⟩, h.2⟩
  | _ => exact h

theorem tidy_ok {m : Nat} {live bare : List Nat} {fr1 : Fr} {σ1 σ0 : Heap} {ρ0 : Gr} {S0 : Cells} {w0 : World} {tm : Array Value} (h : tidy m live bare fr σ = some (fr1, σ1)) (hm : σ0.length ≤ m) (hr : Rel P σ ρ S w)
    (he : Ext σ0 ρ0 S0 w0 σ ρ S w) (hf : FR P σ ρ S w fr tm) : ∃ ρ1, Rel P σ1 ρ1 S w ∧ Ext σ0 ρ0 S0 w0 σ1 ρ1 S w ∧ FR P σ1 ρ1 S w fr1 tm := by
  unfold tidy at h
  simp only at h
  generalize hfr0 : (fr.zipIdx.map fun (p : AV × Nat) => if live.contains p.2 then (if bare.contains p.2 then p.1.bare else p.1) else AV.undef) = fr0 at h
  have hf0 : FR P σ ρ S w fr0 tm := by
    refine ⟨by rw [← hfr0]; simp [hf.1], fun t v ht => ?_⟩
    rw [← hfr0, List.getElem?_map, List.getElem?_zipIdx] at ht
    cases hv : fr[t]? with
    | none => rw [hv] at ht; cases ht
    | some u =>
      rw [hv] at ht
      obtain ⟨cv, h3, h4⟩ := hf.2 t u hv
      refine ⟨cv, h3, ?_⟩
      simp at ht
      split at ht
      · split at ht
        · subst ht; exact bare_ok h4
        · subst ht; exact h4
      · subst ht; exact VA3_undef
  obtain ⟨rm, em⟩ := hr.more (nilsIn fr0)
  have hfm := hf0.mono em
  split at h
  · rename_i fr2 σ2 hp
    obtain ⟨l, r2, e2, f2⟩ := promoteS_ok fr0 (tm := tm.toList) hp rm (by simpa using hfm.1) (fun t v ht => by
      obtain ⟨cv, h3, h4⟩ := hfm.2 t v ht
      exact ⟨cv, by simpa using h3, h4⟩)
    obtain ⟨σ3, hs, h⟩ := Option.map_eq_some_iff.1 h
    injection h with h1 h2
    subst h1; subst h2
    obtain ⟨k1, k2, k3⟩ := keep_ok rfl hs hm r2 ((he.trans em).trans e2)
    refine ⟨_, k1, k2, by simp [hfm.1, l], fun t v ht => ?_⟩
    rw [List.getElem?_map] at ht
    obtain ⟨u, hu, rfl⟩ := Option.map_eq_some_iff.1 ht
    obtain ⟨cv, h3, h4⟩ := f2 t u hu
    exact ⟨cv, by simpa using h3, h4.sub r2.len hs fun x hx => k3 x (List.mem_flatMap.2 ⟨u, List.mem_of_getElem? hu, hx⟩)⟩
  · cases h

/-! ### Calls that are put off -/

/-- A call that is put off, as the model keeps it. -/
def DfR (P : Program) (σ : Heap) (ρ : Gr) (S : Cells) (w : World) (d : Df) (c : Deferred) : Prop :=
  ∃ cargs cap, c = { target := .fn (.func d.f) cap, args := cargs } ∧ ArgsOk P σ ρ S w d.args (cargs ++ cap)

inductive DfsR (P : Program) (σ : Heap) (ρ : Gr) (S : Cells) (w : World) : List Df → List Deferred → Prop
  | nil : DfsR P σ ρ S w [] []
  | cons (d : Df) (c : Deferred) (ds : List Df) (cs : List Deferred) (h : DfR P σ ρ S w d c) (hs : DfsR P σ ρ S w ds cs) : DfsR P σ ρ S w (d :: ds) (c :: cs)

theorem DfR.mono {ρ' : Gr} {S' : Cells} {w' : World} (he : Ext σ ρ S w σ' ρ' S' w') {d : Df} {c : Deferred} (h : DfR P σ ρ S w d c) : DfR P σ' ρ' S' w' d c := by
  obtain ⟨cargs, cap, h1, h2, h3⟩ := h
  exact ⟨cargs, cap, h1, h2, fun j v hj => let ⟨cv, h4, h5⟩ := h3 j v hj; ⟨cv, h4, h5.mono he⟩⟩

theorem DfsR.mono {ρ' : Gr} {S' : Cells} {w' : World} (he : Ext σ ρ S w σ' ρ' S' w') {ds : List Df} {cs : List Deferred} (h : DfsR P σ ρ S w ds cs) : DfsR P σ' ρ' S' w' ds cs := by
  induction h with
  | nil => exact .nil
  | cons d c ds cs h _ ih => exact .cons d c ds cs (h.mono he) ih

theorem DfsR.nil_inv {cs : List Deferred} (h : DfsR P σ ρ S w [] cs) : cs = [] := by cases h; rfl

/-! ### Code -/

def ExR (P : Program) (S : Cells) (w : World) : Ex → Exit → Prop
  | .norm, e => e = .normal
  | .exit i, e => e = .exit i
  | .ret, e => e = .ret
  | .pan x, e => ∃ cv, e = .panic [{ v := cv, recovered := false }] ∧ VE P w S x cv

/-- What a piece of code came to; 'D' was put off before it began. -/
def OutPost (P : Program) (D : List Deferred) (out : Out) (σ0 : Heap) (ρ0 : Gr) (S0 : Cells) (w0 : World) (e : Exit) (a : Act) (w : World) : Prop :=
  ∃ ρ S ds, a.defers = ds ++ D ∧ DfsR P out.hp ρ S w out.df ds ∧ Rel P out.hp ρ S w ∧ Ext σ0 ρ0 S0 w0 out.hp ρ S w ∧ FR P out.hp ρ S w out.fr a.tmps ∧ ExR P S w out.ex e

def LoopOk (P : Program) (m : Nat) (loop : Code → Fr → Heap → Option Out) : Prop :=
  ∀ (b : Code) (fr : Fr) (σ : Heap) (out : Out), loop b fr σ = some out → ∀ (σ0 : Heap) (ρ0 : Gr) (S0 : Cells) (w0 : World) (D : List Deferred), σ0.length = m → ∀ (ρ : Gr) (S : Cells) (w : World) (a : Act),
    Rel P σ ρ S w → Ext σ0 ρ0 S0 w0 σ ρ S w → FR P σ ρ S w fr a.tmps → a.defers = D → LoopHead P b (fun e a w => out.df = [] ∧ OutPost P D out σ0 ρ0 S0 w0 e a w) a w
end

theorem Ex.way {e : Ex} {w : Way} (h : e.isWay w = true) : w.ex e = e := by
  cases e <;> cases w <;> simp [Ex.isWay] at h <;> first | rfl | (subst h; rfl)

theorem likeFr_ok {P : Program} {σ : Heap} {ρ : Gr} {S : Cells} {w : World} {p fr : Fr} {tm : Array Value} (h : okFr p fr = true) (hf : FR P σ ρ S w fr tm) : FR P σ ρ S w (likeFr p fr) tm := by
  unfold okFr at h
  rw [Bool.and_eq_true] at h
  have hl : p.length = fr.length := by simpa using h.1
  refine ⟨by rw [hf.1]; simp [likeFr, hl], fun t v ht => ?_⟩
  unfold likeFr at ht
  rw [List.getElem?_map, List.getElem?_zipIdx] at ht
  by_cases hj : t < p.length
  · have hjd : t < fr.length := by omega
    have hz : (p.zip fr)[t]? = some (p[t], fr[t]) := by rw [List.getElem?_zip_eq_some]; exact ⟨List.getElem?_eq_getElem hj, List.getElem?_eq_getElem hjd⟩
    have hok := List.all_eq_true.1 h.2 _ (List.mem_of_getElem? hz)
    rw [List.getElem?_eq_getElem hj] at ht
    simp only [Option.map_some, Nat.zero_add, List.getD_eq_getElem?_getD, List.getElem?_eq_getElem hjd, Option.getD_some, Option.some.injEq] at ht
    obtain ⟨cv, h3, h4⟩ := hf.2 t fr[t] (List.getElem?_eq_getElem hjd)
    refine ⟨cv, h3, ?_⟩
    rcases okSlot_ok hok with h5 | h5
    · rw [h5] at ht; subst ht; exact VA3_undef
    · rw [h5] at ht; subst ht; exact h4
  · rw [List.getElem?_eq_none (by omega)] at ht; cases ht

section
variable {R : Type} {run : RunF} {loop : Code → Fr → Heap → Option Out} {lr : Res → Heap → Option R} {lo : Out → Option R} {r : R}
variable {C : Ctx} {D : List Deferred} {σ0 : Heap} {ρ0 : Gr} {S0 : Cells} {w0 : World} {e : Exit} {a : Act} {w : World}

theorem outW_inv {K : Out → T} {o : Out} : ∀ {ws : List (Way × Fr × Heap)}, (outW K o ws).go run loop lr lo = some r →
    ∃ w pf ph, o.ex.isWay w = true ∧ okFr pf o.fr = true ∧ okHeap ph o.hp = true ∧ (K ⟨w.ex o.ex, likeFr pf o.fr, likeHeap ph o.hp, []⟩).go run loop lr lo = some r
  | [], h => by cases h
  | (w, pf, ph) :: rest, h => by
    unfold outW at h
    rcases go_br h with ⟨h1, h⟩ | ⟨h1, h⟩
    · obtain ⟨h2, h⟩ := go_must h
      rw [Bool.and_eq_true] at h2
      exact ⟨w, pf, ph, h1, h2.1, h2.2, h⟩
    · exact outW_inv h

theorem outK_ok {P : Program} {K : Out → T} {o : Out} {ws : List (Way × Fr × Heap)} (h : (outK ws K o).go run loop lr lo = some r) (hdf : o.df = [])
    (ho : OutPost P D o σ0 ρ0 S0 w0 e a w) : ∃ o', OutPost P D o' σ0 ρ0 S0 w0 e a w ∧ o'.df = [] ∧ (K o').go run loop lr lo = some r := by
  unfold outK at h
  split at h
  · exact ⟨o, ho, hdf, h⟩
  · obtain ⟨wy, pf, ph, h1, h2, h3, h4⟩ := outW_inv h
    obtain ⟨ρ, S, ds, k0, k1, k2, k3, k4, k5⟩ := ho
    rw [hdf] at k1
    have := k1.nil_inv; subst this
    obtain ⟨h5, _⟩ := likeHeap_ok h3
    refine ⟨_, ⟨ρ, S, [], k0, .nil, ?_, ?_, ?_, ?_⟩, rfl, h4⟩
    · rw [h5]; exact k2
    · rw [h5]; exact k3
    · rw [h5]; exact likeFr_ok h2 k4
    · rw [Ex.way h1]; exact k5

theorem trim_ok {P : Program} {m : Nat} {o : Out} {ws : List (Way × Fr × Heap)} (h : (trim m ws o).go run loop lr lo = some r) (hdf : o.df = []) (hm : σ0.length ≤ m)
    (ho : OutPost P D o σ0 ρ0 S0 w0 e a w) : ∃ out : Out, OutPost P D out σ0 ρ0 S0 w0 e a w ∧ out.df = [] ∧ lo out = some r := by
  obtain ⟨ρ, S, ds, k0, k1, k2, k3, k4, k5⟩ := ho
  rw [hdf] at k1
  have := k1.nil_inv; subst this
  unfold trim at h
  split at h
  · split at h
    · rename_i fr hp ht
      obtain ⟨ρ1, m1, m2, m3⟩ := tidy_ok ht hm k2 k3 k4
      exact ⟨⟨o.ex, fr, hp, []⟩, ⟨ρ1, S, [], k0, .nil, m1, m2, m3, k5⟩, rfl, h⟩
    · cases h
  · exact ⟨⟨o.ex, o.fr, o.hp, []⟩, ⟨ρ, S, [], k0, .nil, k2, k3, k4, k5⟩, rfl, h⟩

theorem resolve_func {ev : Operand → Value} {c : Call} {f : FuncId} {t : TypeId} (hc : c.callee = .value (.func f)) (he : ev (.func f) = .func (.func f) #[] #[]) (P : Program) (w : World) :
    (resolve ev c t).run P w = .ok { target := .fn (.func f) #[], args := c.args.map ev } w := by
  simp [resolve, hc, he, Deferred.ofValue, Sem.run_pure]

theorem denCode_ok (hm : C.P.follows .mixedOrders = true) (hp : PrimOk C.P C.H) (hrun : RunOk C.P run) (hloop : LoopOk C.P C.m loop) (h0 : σ0.length = C.m) : ∀ (c : Code) (fr : Fr) (σ : Heap) (df : List Df) (K : Out → T) (r : R) (Q : Exit → Act → World → Prop),
    (denCode C c fr σ df K).go run loop lr lo = some r → ∀ (ρ : Gr) (S : Cells) (w : World) (a : Act) (ds : List Deferred), Rel C.P σ ρ S w → Ext σ0 ρ0 S0 w0 σ ρ S w → FR C.P σ ρ S w fr a.tmps → a.defers = ds ++ D → DfsR C.P σ ρ S w df ds →
    (∀ (out : Out) (e : Exit) (a' : Act) (w' : World), OutPost C.P D out σ0 ρ0 S0 w0 e a' w' → (K out).go run loop lr lo = some r → Q e a' w') → c.wp C.P Q a w := by
  intro c
  induction c with
  | skip =>
    intro fr σ df K r Q h ρ S w a ds hr he hf hd hdf hK
    exact wp_skip (hK ⟨.norm, fr, σ, df⟩ .normal a w ⟨ρ, S, ds, hd, hdf, hr, he, hf, rfl⟩ h)
  | scope b ih =>
    intro fr σ df K r Q h ρ S w a ds hr he hf hd hdf hK
    unfold denCode at h
    refine wp_scope_straight (ih fr σ df K r (Exit.noGoto Q) h ρ S w a ds hr he hf hd hdf fun out e a' w' ho hk => ?_)
    have hq := hK out e a' w' ho hk
    obtain ⟨_, _, _, _, _, _, _, _, hx⟩ := ho
    cases hex : out.ex with
    | norm => rw [hex] at hx; have : e = .normal := hx; subst this; exact hq
    | exit i => rw [hex] at hx; have : e = .exit i := hx; subst this; exact hq
    | ret => rw [hex] at hx; have : e = .ret := hx; subst this; exact hq
    | pan x => rw [hex] at hx; obtain ⟨cv, rfl, _⟩ := hx; exact hq
  | label l =>
    intro fr σ df K r Q h ρ S w a ds hr he hf hd hdf hK
    exact wp_label (hK ⟨.norm, fr, σ, df⟩ .normal a w ⟨ρ, S, ds, hd, hdf, hr, he, hf, rfl⟩ h)
  | region id ops draw =>
    intro fr σ df K r Q h ρ S w a ds hr he hf hd hdf hK
    unfold denCode at h
    cases draw with
    | true =>
      rw [if_pos rfl] at h
      split at h
      · rename_i l hl
        split at h
        · rename_i hc
          obtain ⟨c1, c2, c3, _⟩ := hc
          have hdr : Rel C.P σ ρ S { w with drawn := w.drawn + 1 } ∧ Ext σ ρ S w σ ρ S { w with drawn := w.drawn + 1 } ∧ FR C.P σ ρ S { w with drawn := w.drawn + 1 } fr a.tmps := by
            have hx : Ext σ ρ S w σ ρ S { w with drawn := w.drawn + 1 } :=
              ⟨fun _ _ h => ⟨h, rfl⟩, fun _ _ h => ⟨⟨_, h⟩, rfl⟩, fun _ _ n h => .inl ⟨n, Nat.le_refl _, h, fun _ => rfl⟩, fun _ r h => .inl ⟨r, rfl, Nat.le_refl _, h, fun _ => rfl⟩, fun _ h => h, fun _ _ _ => rfl, fun i _ c h => .inr ⟨i, c, h⟩, fun _ _ h => .inl h, Nat.le_refl _, rfl, rfl, rfl⟩
            refine ⟨⟨hr.len, fun i cs h => ?_, hr.vec, fun i r h => let ⟨b, c, o, h1, h2, h3, h4⟩ := hr.raw i r h; ⟨b, c, o, h1, h2, h3.mono hx, h4⟩, hr.hole, hr.lt, hr.inj, hr.cells, hr.glob.mono hx⟩, hx, hf.mono hx⟩
            obtain ⟨b, c, arr, T, h1, h2, h3, h4, h5⟩ := hr.box i cs h
            exact ⟨b, c, arr, T, h1, h2, h3, fun j v hj => let ⟨h6, x, h7, h8⟩ := h4 j v hj; ⟨h6, x, h7, h8.mono hx⟩, h5⟩
          obtain ⟨r1, e1, f1⟩ := hdr
          obtain ⟨r2, e2⟩ := r1.more ((ops.toList.map (needs C.P (C.sp ops.toList))).foldl (· + ·) 0)
          refine draw_ok hp hrun hm hl c1 c2 c3 h r2 (f1.mono e2) hd ?_ ?_
          · intro fr' σ' ρ' S' w' a' k1 k2 k3 k4 k5
            have hx := (e1.trans e2).trans k3
            exact hK ⟨.norm, fr', σ', df⟩ .normal a' w' ⟨ρ', S', ds, k1, hdf.mono hx, k2, he.trans hx, k4, rfl⟩ k5
          · intro x fr' σ' ρ' S' w' a' cv k1 k2 k3 k4 k5 k6
            have hx := (e1.trans e2).trans k3
            exact hK ⟨.pan x, fr', σ', df⟩ _ a' w' ⟨ρ', S', ds, k1, hdf.mono hx, k2, he.trans hx, k4, cv, rfl, k5⟩ k6
        · cases h
      · cases h
    | false =>
      rw [if_neg (by simp)] at h
      split at h
      · rename_i d f as hdef
        unfold deferOf at hdef
        split at hdef
        · rename_i o hops
          split at hdef
          · rename_i c hop hg
            split at hdef
            · rename_i f' hcal
              obtain ⟨⟨f2, as2⟩, hco, hdef⟩ := Option.map_eq_some_iff.1 hdef
              injection hdef with e1 hdef; injection hdef with e2 e3
              subst e1; subst e2; subst e3
              have hco' := hco
              unfold callOf at hco'
              split at hco'
              · rename_i hs
                split at hco'
                · rename_i as0 has
                  rw [hcal] at hco'
                  injection hco' with hco'; injection hco' with e1 e2
                  subst e1; subst e2
                  obtain ⟨h1, h2⟩ := args_ok hf hs has
                  refine wp_region_list ?_
                  rw [hops]
                  have hw : Region.wanted o (yielded ops a.tmps) = true := by unfold Region.wanted; rw [hg]
                  refine wpList_step fun N hN => ?_
                  rw [if_pos hw]
                  have hrun1 : (execOp a.eval o).run C.P w = .ok (.defer { target := .fn (.func f') #[], args := c.args.map a.eval }) w := by
                    simp only [execOp, hop, Sem.run_bind, resolve_func (t := o.type) hcal (eval_func a f') C.P w, Result.andThen_ok, Sem.run_pure]
                  unfold Oper.wp
                  rw [hrun1]
                  simp only [Oper.upon]
                  refine hN _ _ ?_
                  refine hK ⟨.norm, put fr o.dst (.tup []), σ, _⟩ .normal _ w ⟨ρ, S, { target := .fn (.func f') #[], args := c.args.map a.eval } :: ds, ?_, ?_, hr, he, ?_, rfl⟩ h
                  · rw [put_defers]; simp [hd]
                  · exact .cons _ _ _ _ ⟨_, #[], rfl, by simpa using args_calm h1 h2⟩ hdf
                  · exact FR.put (a := { a with defers := { target := .fn (.func f') #[], args := c.args.map a.eval } :: a.defers }) hf o.dst VA3_skip
                · cases hco'
              · cases hco'
            · cases hdef
          · cases hdef
        · cases hdef
      · split at h
        · rename_i fr1 f as hdef
          unfold deferClo at hdef
          split at hdef
          · rename_i o1 o2 hops
            split at hdef
            · rename_i f' first captured c hop1 hop2
              split at hdef
              · rename_i u ps hg1 hg2 hcal hps
                split at hdef
                · rename_i hcond
                  obtain ⟨hd1, hf0, ha0, hlt⟩ := hcond
                  injection hdef with hdef; injection hdef with e1 hdef; injection hdef with e2 e3
                  subst e1; subst e2; subst e3
                  have hfirst : first = #[] := Array.eq_empty_of_size_eq_zero hf0
                  subst hfirst
                  have hargs : c.args = #[] := Array.eq_empty_of_size_eq_zero ha0
                  obtain ⟨m1, m2⟩ := mapM_ptr hf hps
                  have hcv : VA3 C.P σ ρ S w (.clo f' ps) (.func (.func f') #[] (captured.map a.eval)) := by
                    refine ⟨_, rfl, by simp [m1], fun j p hj => ?_⟩
                    obtain ⟨b, c', h3, h4, h5⟩ := m2 j p hj
                    refine ⟨b, c', h3, h4, ?_⟩
                    rw [← Array.getElem?_toList, Array.toList_map]
                    exact h5
                  refine wp_region_list ?_
                  rw [hops]
                  have hw1 : Region.wanted o1 (yielded ops a.tmps) = true := by unfold Region.wanted; rw [hg1]
                  refine wpList_step fun N hN => ?_
                  rw [if_pos hw1]
                  have hrun1 : (execOp a.eval o1).run C.P w = .ok (.value (.func (.func f') #[] (captured.map a.eval))) w := by
                    simp [execOp, hop1, Instr.makeFunc]
                  unfold Oper.wp
                  rw [hrun1]
                  simp only [Oper.upon]
                  refine hN _ _ ?_
                  have hf1 := FR.put (a := a) hf o1.dst hcv
                  have hlook : evalO (put fr o1.dst (.clo f' ps)) (.tmp u) = some (.clo f' ps) := by simp [evalO, hd1, put, hlt]
                  have hva : VA3 C.P σ ρ S w (.clo f' ps) ((a.put o1.dst (.func (.func f') #[] (captured.map a.eval))).eval (.tmp u)) := evalO_ok hf1 hlook
                  obtain ⟨cap, hev, hcs, hcap⟩ := hva
                  have hw2 : Region.wanted o2 (yielded ops (a.put o1.dst (.func (.func f') #[] (captured.map a.eval))).tmps) = true := by unfold Region.wanted; rw [hg2]
                  refine wpList_step fun N2 hN2 => ?_
                  rw [if_pos hw2]
                  have hrun2 : (execOp (a.put o1.dst (.func (.func f') #[] (captured.map a.eval))).eval o2).run C.P w = .ok (.defer { target := .fn (.func f') cap, args := #[] }) w := by
                    simp [execOp, hop2, resolve, hcal, hev, Deferred.ofValue, Sem.run_pure, hargs]
                  unfold Oper.wp
                  rw [hrun2]
                  simp only [Oper.upon]
                  refine hN2 _ _ ?_
                  refine hK ⟨.norm, put (put fr o1.dst (.clo f' ps)) o2.dst (.tup []), σ, _⟩ .normal _ w ⟨ρ, S, { target := .fn (.func f') cap, args := #[] } :: ds, ?_, ?_, hr, he, ?_, rfl⟩ h
                  · rw [put_defers]
                    show _ :: (a.put o1.dst _).defers = _
                    rw [put_defers]; simp [hd]
                  · refine .cons _ _ _ _ ⟨#[], cap, rfl, by simpa using hcs, fun j v hj => ?_⟩ hdf
                    rw [List.getElem?_map] at hj
                    obtain ⟨p, hp', rfl⟩ := Option.map_eq_some_iff.1 hj
                    obtain ⟨b, c', h5, h6, h7⟩ := hcap _ p hp'
                    exact ⟨_, by simpa using h7, ⟨b, c', h5, h6, rfl⟩⟩
                  · exact FR.put (a := { a.put o1.dst (.func (.func f') #[] (captured.map a.eval)) with defers := { target := .fn (.func f') cap, args := #[] } :: (a.put o1.dst (.func (.func f') #[] (captured.map a.eval))).defers }) hf1 o2.dst VA3_skip
                · cases hdef
              · cases hdef
            · cases hdef
          · cases hdef
        · refine wp_region_list (denOps_ok hp hrun (D := a.defers) _ _ fr σ _ _ r h ρ S w a hr hf rfl ?_ ?_)
          · intro fr' σ' ρ' S' w' a' k1 k2 k3 k4 k5
            exact hK ⟨.norm, fr', σ', df⟩ .normal a' w' ⟨ρ', S', ds, k1.trans hd, hdf.mono k3, k2, he.trans k3, k4, rfl⟩ k5
          · intro x fr' σ' ρ' S' w' a' cv k1 k2 k3 k4 k5 k6
            exact hK ⟨.pan x, fr', σ', df⟩ _ a' w' ⟨ρ', S', ds, k1.trans hd, hdf.mono k3, k2, he.trans k3, k4, cv, rfl, k5⟩ k6
  | seq x y ihx ihy =>
    intro fr σ df K r Q h ρ S w a ds hr he hf hd hdf hK
    unfold denCode at h
    refine wp_seq (ihx fr σ df _ r _ h ρ S w a ds hr he hf hd hdf ?_)
    rintro ⟨ex, fr', σ', df'⟩ e a' w' hout hk
    obtain ⟨ρ', S', ds', k0, k1, k2, k3, k4, k5⟩ := id hout
    cases ex with
    | norm =>
      have : e = .normal := k5
      subst this
      exact ihy fr' σ' df' K r Q hk ρ' S' w' a' ds' k2 k3 k4 k0 k1 hK
    | exit i => have : e = .exit i := k5; subst this; exact hK _ _ a' w' hout hk
    | ret => have : e = .ret := k5; subst this; exact hK _ _ a' w' hout hk
    | pan x => obtain ⟨cv, rfl, _⟩ := k5; exact hK _ _ a' w' hout hk
  | cond c x y ihx ihy =>
    intro fr σ df K r Q h ρ S w a ds hr he hf hd hdf hK
    unfold denCode at h
    split at h
    · rename_i b hb
      have hv := VA3_bool (evalO_ok hf hb)
      rcases go_br h with ⟨hbb, h⟩ | ⟨hbb, h⟩
      · subst hbb; exact wp_cond_true hv (ihx fr σ df K r Q h ρ S w a ds hr he hf hd hdf hK)
      · subst hbb; exact wp_cond_false hv (ihy fr σ df K r Q h ρ S w a ds hr he hf hd hdf hK)
    · cases h
  | block i b ih =>
    intro fr σ df K r Q h ρ S w a ds hr he hf hd hdf hK
    unfold denCode at h
    refine wp_block (ih fr σ df _ r _ h ρ S w a ds hr he hf hd hdf ?_)
    rintro ⟨ex, fr', σ', df'⟩ e a' w' hout hk
    obtain ⟨ρ', S', ds', k0, k1, k2, k3, k4, k5⟩ := id hout
    cases ex with
    | norm => have : e = .normal := k5; subst this; exact hK _ _ a' w' hout hk
    | ret => have : e = .ret := k5; subst this; exact hK _ _ a' w' hout hk
    | pan x => obtain ⟨cv, rfl, _⟩ := k5; exact hK _ _ a' w' hout hk
    | exit j =>
      have : e = .exit j := k5
      subst this
      simp only [Exit.inBlock]
      simp only at hk
      split
      · rename_i hj
        rw [if_pos hj] at hk
        exact hK ⟨.norm, fr', σ', df'⟩ .normal a' w' ⟨ρ', S', ds', k0, k1, k2, k3, k4, rfl⟩ hk
      · rename_i hj
        rw [if_neg hj] at hk
        exact hK _ _ a' w' hout hk
  | loop b _ =>
    intro fr σ df K r Q h ρ S w a ds hr he hf hd hdf hK
    unfold denCode at h
    split at h
    · rename_i i hi
      have := hdf.nil_inv; subst this
      split at h
      · rename_i fr1 σ1 ht
        obtain ⟨out, hout, hk⟩ := Option.bind_eq_some_iff.1 h
        obtain ⟨ρ1, k1, k2, k3⟩ := tidy_ok ht (Nat.le_of_eq h0) hr he hf
        have hl := hloop b fr1 σ1 out hout σ0 ρ0 S0 w0 D h0 ρ1 S w a k1 k2 k3 hd
        refine wp_mono hl.loop fun e a' w' ⟨hdo, ho⟩ => ?_
        obtain ⟨o', ho', hdo', hk'⟩ := outK_ok hk hdo ho
        refine hK _ e a' w' ?_ hk'
        obtain ⟨ρ', S', ds', m0, m1, m2, m3, m4, m5⟩ := ho'
        rw [hdo'] at m1
        exact ⟨ρ', S', ds', m0, m1, m2, m3, m4, m5⟩
      · cases h
    · cases h
  | exit i =>
    intro fr σ df K r Q h ρ S w a ds hr he hf hd hdf hK
    exact wp_exit (hK ⟨.exit i, fr, σ, df⟩ (.exit i) a w ⟨ρ, S, ds, hd, hdf, hr, he, hf, rfl⟩ h)
  | ret =>
    intro fr σ df K r Q h ρ S w a ds hr he hf hd hdf hK
    exact wp_ret (hK ⟨.ret, fr, σ, df⟩ .ret a w ⟨ρ, S, ds, hd, hdf, hr, he, hf, rfl⟩ h)
  | _ => intro fr σ df K r Q h; cases h

theorem round_ok (hm : C.P.follows .mixedOrders = true) (hp : PrimOk C.P C.H) (hrun : RunOk C.P run) (hloop : LoopOk C.P C.m loop) (h0 : σ0.length = C.m) {b : Code} {fr : Fr} {σ : Heap} {out : Out}
    (h : (round C b fr σ).outs run loop = some out) {ρ : Gr} {S : Cells} {w : World} {a : Act} (hr : Rel C.P σ ρ S w) (he : Ext σ0 ρ0 S0 w0 σ ρ S w) (hf : FR C.P σ ρ S w fr a.tmps) (hd : a.defers = D) :
    LoopHead C.P b (fun e a w => out.df = [] ∧ OutPost C.P D out σ0 ρ0 S0 w0 e a w) a w := by
  refine LoopHead.round ?_
  unfold round at h
  refine denCode_ok hm hp hrun hloop h0 b fr σ [] _ out _ h ρ S w a [] hr he hf hd .nil ?_
  rintro ⟨ex, fr', σ', df'⟩ e a' w' hout hk
  obtain ⟨ρ', S', ds', k0, k1, k2, k3, k4, k5⟩ := id hout
  unfold tailK at hk
  split at hk
  · rename_i i hfr hdf
    simp only at hdf
    subst hdf
    have := k1.nil_inv; subst this
    cases ex with
    | norm =>
      have : e = .normal := k5
      subst this
      simp only at hk
      split at hk
      · rename_i fr1 σ1 ht
        obtain ⟨ρ1, m1, m2, m3⟩ := tidy_ok ht (Nat.le_of_eq h0) k2 k3 k4
        obtain ⟨out', ho', hk'⟩ := Option.bind_eq_some_iff.1 hk
        injection hk' with hk'; subst hk'
        exact hloop b fr1 σ1 out' ho' σ0 ρ0 S0 w0 D h0 ρ1 S' w' a' m1 m2 m3 k0
      · cases hk
    | exit i =>
      have : e = .exit i := k5
      subst this
      obtain ⟨out', m1, m0, m2⟩ := trim_ok hk rfl (Nat.le_of_eq h0) hout
      injection m2 with m2; subst m2; exact ⟨m0, m1⟩
    | ret =>
      have : e = .ret := k5
      subst this
      obtain ⟨out', m1, m0, m2⟩ := trim_ok hk rfl (Nat.le_of_eq h0) hout
      injection m2 with m2; subst m2; exact ⟨m0, m1⟩
    | pan x =>
      obtain ⟨cv, rfl, _⟩ := id k5
      obtain ⟨out', m1, m0, m2⟩ := trim_ok hk rfl (Nat.le_of_eq h0) hout
      injection m2 with m2; subst m2; exact ⟨m0, m1⟩
  · cases hk
end
end Go.Den

/- Whole functions. -/
namespace Go.Den
open Go

section
variable {P : Program} {σ : Heap} {ρ : Gr} {S : Cells} {w : World} {fr : Fr} {a : Act} {m : Nat}

theorem loadVar_ok (hr : Rel P σ ρ S w) {t : TypeId} {id off n b c : Nat} {cs : List AV} {v : AV} (hid : ρ[id]? = some (some (b, c))) (hb : σ[id]? = some (.box cs)) (hs : sizeB P t = some n) (hl : off + n ≤ cs.length)
    (hv : (if isAggB P t then some (.agg ((cs.drop off).take n)) else if n = 1 then cs[off]? else none) = some v) :
    ∃ cv, (loadVar t ⟨b, off, none⟩).run P w = .ok cv w ∧ VA2 P σ ρ S w v cv := by
  have h1 := run_isAgg (w := w) hs
  have h2 := run_sizeOf (w := w) hs
  by_cases ha : isAggB P t = true
  · rw [if_pos ha] at hv
    injection hv with hv; subst hv
    have hlen : ((cs.drop off).take n).length = n := by simp; omega
    have hg : ∀ (j : Nat) (v : AV), ((cs.drop off).take n)[j]? = some v → cs[off + j]? = some v := by
      intro j v hj
      rw [List.getElem?_take] at hj
      split at hj
      · rwa [List.getElem?_drop] at hj
      · cases hj
    have hcell : ∀ (j : Nat) (v : AV), ((cs.drop off).take n)[j]? = some v → v.one = true ∧ ∃ y, w.cell? ⟨b, off + j, none⟩ = some y ∧ VA1 P σ ρ S w v y := fun j v hj => box_cell hr hb hid (hg j v hj)
    have h3 := run_loadCells_list (P := P) w ⟨b, off, none⟩ ((List.range n).map (fun j => (w.cell? ⟨b, off + j, none⟩).getD undef)) (fun j v hj => by
      obtain ⟨hj, rfl⟩ := map_range_get hj
      obtain ⟨_, y, hy, _⟩ := hcell j _ (List.getElem?_eq_getElem (by omega))
      rw [add_at, hy]; rfl)
    rw [show ((List.range n).map (fun j => (w.cell? ⟨b, off + j, none⟩).getD undef)).length = n by simp] at h3
    refine ⟨.agg ((List.range n).map (fun j => (w.cell? ⟨b, off + j, none⟩).getD undef)).toArray, by simp only [loadVar, Sem.run_bind, Sem.run_pure, Result.andThen_ok, h1, ha, if_true, h2, h3], _, rfl, by rw [hlen]; simp, ?_⟩
    intro j v hj
    obtain ⟨h1, y, hy, h2⟩ := hcell j v hj
    have hjn : j < n := by rw [← hlen]; exact (List.getElem?_eq_some_iff.1 hj).1
    refine ⟨h1, y, ?_, h2⟩
    rw [List.getElem?_toArray, map_range_put _ hjn, hy]; rfl
  · rw [if_neg ha] at hv
    split at hv
    · obtain ⟨h3, y, hy, h4⟩ := box_cell hr hb hid hv
      exact ⟨y, by simp only [loadVar, Sem.run_bind, Result.andThen_ok, h1, ha, Bool.false_eq_true, if_false, run_load, hy], h4.to2⟩
    · cases hv

def readVar (tmps : Array Value) : ResultVar → Sem Value
  | .tmp t => pure (tmps.getD t undef)
  | .cell a t => do loadVar t (← asAddr (tmps.getD a undef))

theorem readRes_ok (hr : Rel P σ ρ S w) (hf : FR P σ ρ S w fr a.tmps) {x : ResultVar} {v : AV} (h : readRes fr σ P x = some v) : ∃ cv, (readVar a.tmps x).run P w = .ok cv w ∧ VA3 P σ ρ S w v cv := by
  unfold readRes at h
  cases x with
  | tmp t =>
    obtain ⟨cv, h1, h2⟩ := hf.get h
    exact ⟨cv, by simp [readVar, go_sem, h1], h2⟩
  | cell p t =>
    simp only at h
    split at h
    · rename_i id off n hp hs
      split at h
      · rename_i cs hb
        by_cases hl : off + n ≤ cs.length
        · rw [if_pos hl] at h
          obtain ⟨cv, h1, h2⟩ := hf.get hp
          obtain ⟨b, c, hid, _, rfl⟩ : VA1 P σ ρ S w (.ptr id off) cv := h2
          obtain ⟨u, h3, h4⟩ := loadVar_ok hr hid hb hs hl h
          refine ⟨u, ?_, h4.to3⟩
          unfold readVar
          simp only [Sem.run_bind, Array.getD_eq_getD_getElem?, h1, Option.getD_some, asAddr, Sem.run_pure, Result.andThen_ok, h3]
        · rw [if_neg hl] at h; cases h
      · cases h
    · cases h

theorem run_mapM {α : Type} {f : α → Sem Value} : ∀ (l : List α) (vs : List Value), vs.length = l.length → (∀ (i : Nat) (x : α) (v : Value), l[i]? = some x → vs[i]? = some v → (f x).run P w = .ok v w) → (l.mapM f).run P w = .ok vs w
  | [], [], _, _ => rfl
  | x :: l, v :: vs, hl, h => by
    rw [List.mapM_cons, Sem.run_bind, h 0 x v rfl rfl, Result.andThen_ok, Sem.run_bind, run_mapM l vs (by simpa using hl) (fun i x v h1 h2 => h (i + 1) x v (by simpa using h1) (by simpa using h2))]
    rfl
  | [], _ :: _, hl, _ => by simp at hl
  | _ :: _, [], hl, _ => by simp at hl

theorem run_results {fn : Func} {tmps : Array Value} {vs : List Value} (hl : vs.length = fn.results.toList.length) (h : ∀ (i : Nat) (x : ResultVar) (v : Value), fn.results.toList[i]? = some x → vs[i]? = some v → (readVar tmps x).run P w = .ok v w) :
    (results fn tmps).run P w = .ok (if h : vs.toArray.size = 1 then vs.toArray[0] else .tuple vs.toArray) w := by
  have := run_mapM (P := P) (w := w) fn.results.toList vs hl h
  have he : results fn tmps = (do let vs ← fn.results.mapM (readVar tmps); pure (if h : vs.size = 1 then vs[0] else .tuple vs)) := rfl
  rw [he, Sem.run_bind, Array.mapM_eq_mapM_toList, Sem.run_map, this]
  simp [go_sem]


theorem leave_inv {m : Nat} {v u : AV} {σ σ1 : Heap} (h : leave m v σ = some (u, σ1)) : ∃ ids, closure σ 6 (addNew (List.range m) v.ids3) = ids ∧ subHeap σ ids = some σ1 ∧ u = v.ren3 (idx ids) := by
  unfold leave at h
  simp only [Option.map_eq_some_iff, Prod.mk.injEq] at h
  obtain ⟨σ', h1, h2, h3⟩ := h
  exact ⟨_, rfl, by rw [h1, h3], h2.symm⟩

/-- What the objects and the result are numbered behind a call. -/
theorem leave_ok {m : Nat} {v u : AV} {σ1 σ0 : Heap} {ρ0 : Gr} {S0 : Cells} {w0 : World} (h : leave m v σ = some (u, σ1)) (hm : σ0.length ≤ m) (hr : Rel P σ ρ S w) (he : Ext σ0 ρ0 S0 w0 σ ρ S w) :
    ∃ ρ1, Rel P σ1 ρ1 S w ∧ Ext σ0 ρ0 S0 w0 σ1 ρ1 S w ∧ ∀ cv, VA3 P σ ρ S w v cv → VA3 P σ1 ρ1 S w u cv := by
  obtain ⟨ids, hids, hs, rfl⟩ := leave_inv h
  obtain ⟨k1, k2, k3⟩ := keep_ok hids hs hm hr he
  exact ⟨_, k1, k2, fun cv hv => hv.sub hr.len hs k3⟩

section
variable {R : Type} {run : RunF} {loop : Code → Fr → Heap → Option Out} {r : Res} {σ' σ0 : Heap} {ρ0 : Gr} {S0 : Cells} {w0 : World} {fn : Func} {tm : Array Value}

theorem retOf_ok {ow : Bool} {vs : List AV} {cvs : List Value} (h1 : cvs.length = vs.length) (h3 : ∀ (i : Nat) (v : AV), vs[i]? = some v → ∃ cv, cvs[i]? = some cv ∧ VA3 P σ ρ S w v cv) :
    VA3 P σ ρ S w (retOf ow vs) (if h : cvs.toArray.size = 1 then cvs.toArray[0] else .tuple cvs.toArray) := by
  by_cases hl : vs.length = 1
  · match vs, hl with
    | [v], _ =>
      obtain ⟨cv, h5, h6⟩ := h3 0 v rfl
      have hcv : cvs = [cv] := by
        match cvs, h1, h5 with
        | [c], _, h5 => simp at h5; rw [h5]
      subst hcv
      simpa [retOf] using (handed_ok h6).to3
  · have hr : retOf ow vs = .tup (vs.map (AV.handed ow)) := by
      unfold retOf
      split
      · rename_i v; exact absurd rfl hl
      · rfl
    rw [hr]
    refine ⟨cvs.toArray, ?_, by simp [h1], fun j u hj => ?_⟩
    · rw [dif_neg]
      intro hs
      exact hl (by rw [← h1]; simpa using hs)
    · rw [List.getElem?_map] at hj
      obtain ⟨v, hv, rfl⟩ := Option.map_eq_some_iff.1 hj
      obtain ⟨cv, h5, h6⟩ := h3 j v hv
      exact ⟨cv, by simpa using h5, handed_ok h6⟩

/-- Arrays that nobody writes any more: what is said of a value stays said. -/
abbrev Melts (P : Program) (run : RunF) (loop : Code → Fr → Heap → Option Out) (r : Res) (σ' : Heap) (ρ : Gr) (w : World) (f : AV → Heap → (AV → Heap → T) → T) : Prop :=
  ∀ (v : AV) (σ : Heap) (S : Cells) (K : AV → Heap → T), (f v σ K).runs run loop = some (r, σ') → Rel P σ ρ S w →
    ∃ (v1 : AV) (σ1 : Heap) (S1 : Cells), (K v1 σ1).runs run loop = some (r, σ') ∧ Rel P σ1 ρ S1 w ∧ Ext σ ρ S w σ1 ρ S1 w ∧ (∀ i : Nat, σ1[i]? = σ[i]? ∨ σ1[i]? = some Ob.dead) ∧ (∀ cv, VA1 P σ ρ S w v cv → VA1 P σ1 ρ S1 w v1 cv) ∧ ∀ cv, VA3 P σ ρ S w v cv → VA3 P σ1 ρ S1 w v1 cv

theorem shadT_go : ∀ {seen : List (Nat × Nat)} {i j : Nat} {K : Bool → T}, (shadT seen i j K).runs run loop = some (r, σ') → (K true).runs run loop = some (r, σ') ∧ (i, j) ∈ seen ∨ (K false).runs run loop = some (r, σ')
  | [], _, _, _, h => .inr h
  | (i0, j0) :: l, i, j, K, h => by
    unfold shadT at h
    split at h
    · rename_i hj
      have h : (T.br (i0 == i) (K true) (shadT l i j K)).go run loop _ _ = some (r, σ') := h
      rcases go_br h with ⟨hi, h'⟩ | ⟨hi, h'⟩
      · have h1 : i0 = i := by simpa using hi
        have h2 : j0 = j := by simpa using hj
        subst h1; subst h2
        exact .inl ⟨h', List.mem_cons_self ..⟩
      · rcases shadT_go h' with ⟨h, hm⟩ | h
        · exact .inl ⟨h, List.mem_cons_of_mem _ hm⟩
        · exact .inr h
    · rcases shadT_go h with ⟨h, hm⟩ | h
      · exact .inl ⟨h, List.mem_cons_of_mem _ hm⟩
      · exact .inr h

theorem ovAt_cons_ne {i0 j0 i j : Nat} {a : AV} {ov : List (Nat × Nat × AV)} (h : (i, j) ≠ (i0, j0)) : ovAt ((i0, j0, a) :: ov) i j = ovAt ov i j := by
  simp only [ovAt]
  cases hj : (j0 == j) <;> cases hi : (i0 == i) <;> first | rfl | skip
  simp at hj hi
  exact absurd (by rw [hi, hj]) h
theorem ovAt_cons_eq {i0 j0 : Nat} {a : AV} {ov : List (Nat × Nat × AV)} : ovAt ((i0, j0, a) :: ov) i0 j0 = some a := by simp [ovAt]

theorem meltOv_ok {w : World} {ρ : Gr} {f : AV → Heap → (AV → Heap → T) → T} (hf : Melts P run loop r σ' ρ w f) : ∀ (ov : List (Nat × Nat × AV)) (seen : List (Nat × Nat)) (σ : Heap) (S : Cells) (K : List (Nat × Nat × AV) → Heap → T), (meltOvW f seen ov σ K).runs run loop = some (r, σ') → Rel P σ ρ S w →
    ∃ (ov1 : List (Nat × Nat × AV)) (σ1 : Heap) (S1 : Cells), (K ov1 σ1).runs run loop = some (r, σ') ∧ Rel P σ1 ρ S1 w ∧ Ext σ ρ S w σ1 ρ S1 w ∧ (∀ i : Nat, σ1[i]? = σ[i]? ∨ σ1[i]? = some Ob.dead) ∧
      ∀ i j, (i, j) ∉ seen → (ovAt ov1 i j = none → ovAt ov i j = none) ∧ ∀ u, ovAt ov1 i j = some u → ∃ u0, ovAt ov i j = some u0 ∧ ∀ cv, VA1 P σ ρ S w u0 cv → VA1 P σ1 ρ S1 w u cv
  | [], _, σ, S, K, h, hr => ⟨[], σ, S, h, hr, Ext.refl _ _ _ _, fun _ => .inl rfl, fun _ _ _ => ⟨fun h => h, fun _ h => by cases h⟩⟩
  | (i0, j0, a) :: ov, seen, σ, S, K, h, hr => by
    unfold meltOvW at h
    rcases shadT_go h with ⟨h, hm⟩ | h
    · obtain ⟨ov1, σ1, S1, h1, r1, e1, d1, k1⟩ := meltOv_ok hf ov seen σ S K h hr
      refine ⟨ov1, σ1, S1, h1, r1, e1, d1, fun i j hn => ?_⟩
      have hne : (i, j) ≠ (i0, j0) := fun e => hn (e ▸ hm)
      rw [ovAt_cons_ne hne]
      exact k1 i j hn
    · obtain ⟨a1, σ1, S1, h1, r1, e1, d1, o1, k1⟩ := hf a σ S _ h hr
      obtain ⟨ov1, σ2, S2, h2, r2, e2, d2, k2⟩ := meltOv_ok hf ov ((i0, j0) :: seen) σ1 S1 _ h1 r1
      refine ⟨(i0, j0, a1) :: ov1, σ2, S2, h2, r2, e1.trans e2, fun i => ?_, fun i j hn => ?_⟩
      · rcases d2 i with q | q
        · rw [q]; exact d1 i
        · exact .inr q
      · by_cases he : (i, j) = (i0, j0)
        · obtain ⟨rfl, rfl⟩ : i = i0 ∧ j = j0 := by simpa using he
          rw [ovAt_cons_eq, ovAt_cons_eq]
          refine ⟨fun h => (by cases h), fun u hu => ?_⟩
          injection hu with hu; subst hu
          exact ⟨a, rfl, fun cv hc => (o1 cv hc).mono e2⟩
        · rw [ovAt_cons_ne he, ovAt_cons_ne he]
          obtain ⟨q1, q2⟩ := k2 i j (by simp only [List.mem_cons, not_or]; exact ⟨he, hn⟩)
          refine ⟨q1, fun u hu => ?_⟩
          obtain ⟨u0, g1, g2⟩ := q2 u hu
          exact ⟨u0, g1, fun cv hc => g2 cv (hc.mono e1)⟩

theorem meltV_melts {m : Nat} {w : World} {ρ : Gr} : ∀ k, Melts P run loop r σ' ρ w (meltV P m k)
  | 0 => fun v σ S K h hr => ⟨v, σ, S, h, hr, Ext.refl _ _ _ _, fun _ => .inl rfl, fun _ h => h, fun _ h => h⟩
  | k + 1 => by
    intro v σ S K h hr
    unfold meltV at h
    split at h
    · rename_i id et n off len
      split at h
      · rename_i et' xs ov hb
        split at h
        · rename_i hc
          obtain ⟨rfl, _⟩ := hc
          obtain ⟨ov1, σ1, S1, h1, r1, e1, d1, k1⟩ := meltOv_ok (meltV_melts k) ov [] σ S _ h hr
          split at h1
          · rename_i q ys hq hm
            obtain ⟨hn, h1⟩ := go_must h1
            have hb1 : σ1[id]? = some (.raw (.arr et xs ov)) := by
              rcases d1 id with q' | q'
              · rw [q', hb]
              · rw [q'] at hq; cases hq
            obtain ⟨S2, r2, e2, k2⟩ := Rel.melt hr e1 r1 hb hb1 (of_decide_eq_true hn) (fun i j => (k1 i j (by simp)).1) (fun i j u hu => by
              obtain ⟨u0, q1, q2⟩ := (k1 i j (by simp)).2 u hu
              exact ⟨u0, q1, q2⟩) hm
            refine ⟨_, _, S2, h1, r2, e1.trans e2, fun i => ?_, fun cv hc => k2 off len cv (hc.mono e1), fun cv hc => k2 off len cv (VA1.mono e1 hc)⟩
            by_cases hi : i = id
            · subst hi
              exact .inr (by rw [List.getElem?_set, if_pos rfl, if_pos (List.getElem?_eq_some_iff.1 hb1).1])
            · rw [List.getElem?_set_ne (fun e => hi e.symm)]; exact d1 i
          · cases h1
        · cases h
      · cases h
    · exact ⟨v, σ, S, h, hr, Ext.refl _ _ _ _, fun _ => .inl rfl, fun _ h => h, fun _ h => h⟩

theorem meltL_ok {m : Nat} {w : World} {ρ : Gr} : ∀ {vs : List AV} {σ : Heap} {S : Cells} {K : List AV → Heap → T} {cvs : List Value}, (meltL P m vs σ K).runs run loop = some (r, σ') → Rel P σ ρ S w → cvs.length = vs.length →
    (∀ (i : Nat) (v : AV), vs[i]? = some v → ∃ cv, cvs[i]? = some cv ∧ VA3 P σ ρ S w v cv) →
    ∃ vs1 σ1 S1, (K vs1 σ1).runs run loop = some (r, σ') ∧ Rel P σ1 ρ S1 w ∧ Ext σ ρ S w σ1 ρ S1 w ∧ cvs.length = vs1.length ∧ ∀ (i : Nat) (v : AV), vs1[i]? = some v → ∃ cv, cvs[i]? = some cv ∧ VA3 P σ1 ρ S1 w v cv
  | [], σ, S, K, cvs, h, hr, hl, hv => ⟨[], σ, S, h, hr, Ext.refl _ _ _ _, hl, hv⟩
  | v :: vs, σ, S, K, cv :: cvs, h, hr, hl, hv => by
    obtain ⟨cv', h0, hv0⟩ := hv 0 v rfl
    injection h0 with h0; subst h0
    unfold meltL at h
    obtain ⟨v1, σ1, S1, h1, r1, e1, _, _, k1'⟩ := meltV_melts 3 v σ S _ h hr
    have k1 := k1' cv hv0
    obtain ⟨vs2, σ2, S2, h2, r2, e2, l2, k2⟩ := meltL_ok (cvs := cvs) h1 r1 (by simpa using hl) (fun i u hi => by
      obtain ⟨c, q1, q2⟩ := hv (i + 1) u (by simpa using hi)
      exact ⟨c, by simpa using q1, q2.mono e1⟩)
    refine ⟨v1 :: vs2, σ2, S2, h2, r2, e1.trans e2, by simp [l2], fun i u hi => ?_⟩
    cases i with
    | zero => simp at hi; subst hi; exact ⟨cv, rfl, k1.mono e2⟩
    | succ i =>
      obtain ⟨c, q1, q2⟩ := k2 i u (by simpa using hi)
      exact ⟨c, by simpa using q1, q2⟩
  | _ :: _, _, _, _, [], _, _, hl, _ => by simp at hl

/-- The results, where the call returns. -/
theorem finish_val {ow ml : Bool} {out : Out} {rcv : Bool} (h : (finish P ow ml fn σ0.length rcv out).runs run loop = some (r, σ')) (hex : out.ex = .norm ∨ out.ex = .ret) (hr : Rel P out.hp ρ S w) (he : Ext σ0 ρ0 S0 w0 out.hp ρ S w) (hf : FR P out.hp ρ S w out.fr a.tmps) :
    ∃ (u : AV) (cv : Value) (ρ' : Gr) (S' : Cells), r = (if rcv then .rcv u else .ret u) ∧ (results fn a.tmps).run P w = .ok cv w ∧ Rel P σ' ρ' S' w ∧ Ext σ0 ρ0 S0 w0 σ' ρ' S' w ∧ VA3 P σ' ρ' S' w u cv := by
  have h' : (finishV P ow ml fn σ0.length rcv out).runs run loop = some (r, σ') := by
    unfold finish at h
    rcases hex with hex | hex <;> rw [hex] at h <;> exact h
  clear h
  unfold finishV at h'
  have hrd : ∀ (vs : List AV), fn.results.toList.mapM (readRes out.fr out.hp P) = some vs → ∃ cvs : List Value, cvs.length = vs.length ∧ vs.length = fn.results.toList.length ∧
      (∀ (i : Nat) (v : AV), vs[i]? = some v → ∃ cv, cvs[i]? = some cv ∧ VA3 P out.hp ρ S w v cv) ∧ (results fn a.tmps).run P w = .ok (if h : cvs.toArray.size = 1 then cvs.toArray[0] else .tuple cvs.toArray) w := by
    intro vs hvs
    obtain ⟨h1, h2⟩ := mapM_some_get hvs
    have hex : ∀ i, i < vs.length → ∃ cv, (∃ x, fn.results.toList[i]? = some x ∧ (readVar a.tmps x).run P w = .ok cv w) ∧ ∃ v, vs[i]? = some v ∧ VA3 P out.hp ρ S w v cv := fun i hi => by
      have hi' : i < fn.results.toList.length := by omega
      obtain ⟨v, h3, h4⟩ := h2 i _ (List.getElem?_eq_getElem hi')
      obtain ⟨cv, h5, h6⟩ := readRes_ok hr hf h3
      exact ⟨cv, ⟨_, List.getElem?_eq_getElem hi', h5⟩, v, h4, h6⟩
    let g : Nat → Value := fun i => if hi : i < vs.length then (hex i hi).choose else undef
    have hg : ∀ i (hi : i < vs.length), (∃ x, fn.results.toList[i]? = some x ∧ (readVar a.tmps x).run P w = .ok (g i) w) ∧ ∃ v, vs[i]? = some v ∧ VA3 P out.hp ρ S w v (g i) := fun i hi => by
      have : g i = (hex i hi).choose := by simp [g, hi]
      rw [this]; exact (hex i hi).choose_spec
    refine ⟨(List.range vs.length).map g, by simp, h1, fun i v hi => ?_, ?_⟩
    · have hl := (List.getElem?_eq_some_iff.1 hi).1
      obtain ⟨_, u, h3, h4⟩ := hg i hl
      rw [hi] at h3; injection h3 with h3; subst h3
      exact ⟨g i, map_range_put _ hl, h4⟩
    · refine run_results (by simpa using h1) fun i x v hi hv => ?_
      obtain ⟨hl, rfl⟩ := map_range_get hv
      obtain ⟨⟨x', h3, h4⟩, _⟩ := hg i hl
      rw [hi] at h3; injection h3 with h3; subst h3
      exact h4
  split at h'
  · rename_i vs hvs
    obtain ⟨cvs, h1, h2, h3, h4⟩ := hrd _ hvs
    have hend : ∀ (vs1 : List AV) (σ1 : Heap) (S1 : Cells), (leaveT ow σ0.length rcv vs1 σ1).runs run loop = some (r, σ') → Rel P σ1 ρ S1 w → Ext out.hp ρ S w σ1 ρ S1 w → cvs.length = vs1.length → (∀ (i : Nat) (v : AV), vs1[i]? = some v → ∃ cv, cvs[i]? = some cv ∧ VA3 P σ1 ρ S1 w v cv) →
        ∃ (u : AV) (cv : Value) (ρ' : Gr) (S' : Cells), r = (if rcv then .rcv u else .ret u) ∧ (results fn a.tmps).run P w = .ok cv w ∧ Rel P σ' ρ' S' w ∧ Ext σ0 ρ0 S0 w0 σ' ρ' S' w ∧ VA3 P σ' ρ' S' w u cv := by
      intro vs1 σ1 S1 h' r1 x1 l1 k
      unfold leaveT at h'
      split at h'
      · rename_i u σ2 hl
        injection h' with h'; injection h' with e1 e2
        subst e1; subst e2
        obtain ⟨ρ', k1, k2, k3⟩ := leave_ok hl (Nat.le_refl _) r1 (he.trans x1)
        exact ⟨u, _, ρ', S1, rfl, h4, k1, k2, k3 _ (retOf_ok l1 k)⟩
      · cases h'
    split at h'
    · obtain ⟨vs1, σ1, S1, g1, g2, g3, g4, g5⟩ := meltL_ok h' hr h1 h3
      exact hend vs1 σ1 S1 g1 g2 g3 g4 g5
    · exact hend vs out.hp S h' hr (Ext.refl _ _ _ _) h1 h3
  · cases h'

/-- .. and where it panics. -/
theorem finish_pan {ow ml : Bool} {out : Out} {rcv : Bool} {x : E} (h : (finish P ow ml fn σ0.length rcv out).runs run loop = some (r, σ')) (hex : out.ex = .pan x) (hr : Rel P out.hp ρ S w) (he : Ext σ0 ρ0 S0 w0 out.hp ρ S w) :
    r = .pan x ∧ ∃ ρ', Rel P σ' ρ' S w ∧ Ext σ0 ρ0 S0 w0 σ' ρ' S w := by
  unfold finish at h
  rw [hex] at h
  simp only at h
  split at h
  · rename_i u σ1 hl
    injection h with h; injection h with e1 e2
    subst e1; subst e2
    obtain ⟨ρ', k1, k2, _⟩ := leave_ok hl (Nat.le_refl _) hr he
    exact ⟨rfl, ρ', k1, k2⟩
  · cases h

theorem finish_ok {ow ml : Bool} {out : Out} {e : Exit} (h : (finish P ow ml fn σ0.length false out).runs run loop = some (r, σ')) (hr : Rel P out.hp ρ S w) (he : Ext σ0 ρ0 S0 w0 out.hp ρ S w) (hf : FR P out.hp ρ S w out.fr a.tmps) (hx : ExR P S w out.ex e) (hd : a.defers = []) :
    bodyPostD P fn (RunPost P r σ' σ0 ρ0 S0 w0) e a w := by
  have hret : (out.ex = .norm ∨ out.ex = .ret) → Leaves P fn a.tmps (RunPost P r σ' σ0 ρ0 S0 w0) a.defers .returning w := fun hex => by
    obtain ⟨u, cv, ρ', S', h1, h2, h3, h4, h5⟩ := finish_val h hex hr he hf
    rw [hd]
    subst h1
    exact ⟨cv, h2, ρ', S', h3, h4, cv, rfl, h5⟩
  cases hex : out.ex with
  | norm => rw [hex] at hx; have : e = .normal := hx; subst this; exact hret (.inl hex)
  | ret => rw [hex] at hx; have : e = .ret := hx; subst this; exact hret (.inr hex)
  | pan x =>
    rw [hex] at hx
    obtain ⟨cv, rfl, hv⟩ := hx
    obtain ⟨rfl, ρ', h3, h4⟩ := finish_pan h hex hr he
    show Leaves P fn a.tmps _ a.defers _ w
    rw [hd]
    exact ⟨ρ', S, h3, h4, cv, rfl, hv⟩
  | exit i => unfold finish at h; rw [hex] at h; cases h
end

/-! ### The calls that were put off -/

theorem run_invoke_fn {f : FuncId} {args cap : Array Value} (hf : Enters P f) : (invoke (.fn (.func f) cap) args).run P w = .ok (.enter f (args ++ cap)) w := by
  simp only [invoke]
  exact run_callFunc (P := P) (w := w) (args := args ++ cap) hf

/-- How a call is left: it returns, or it panics. -/
def LvR (P : Program) (S : Cells) (w : World) : Ex → FrameMode → Prop
  | .norm, u | .ret, u => u = .returning
  | .pan x, u => ∃ cv, u = .panicking [{ v := cv, recovered := false }] ∧ VE P w S x cv
  | .exit _, _ => False

theorem weak_get {σ : Heap} {id : Nat} {o : Ob} (h : (weakH σ)[id]? = some o) : ∃ o', σ[id]? = some o' ∧ o = o'.weak := by
  unfold weakH at h
  rw [List.getElem?_map] at h
  obtain ⟨o', h1, h2⟩ := Option.map_eq_some_iff.1 h
  exact ⟨o', h1, h2.symm⟩
theorem weak_at {σ : Heap} {id : Nat} {o : Ob} (h : σ[id]? = some o) : (weakH σ)[id]? = some o.weak := by
  unfold weakH
  rw [List.getElem?_map, h]; rfl
/-- Objects may give up their rights to grow. -/
theorem weak_ok {P : Program} {σ : Heap} {ρ : Gr} {S : Cells} {w : World} (hr : Rel P σ ρ S w) : Rel P (weakH σ) ρ S w ∧ Ext σ ρ S w (weakH σ) ρ S w := by
  have he : Ext σ ρ S w (weakH σ) ρ S w :=
    { cell := fun b o h => ⟨h, rfl⟩
      box := fun id cs h => ⟨⟨_, weak_at h⟩, rfl⟩
      vec := fun id et n h => .inl ⟨n, Nat.le_refl _, weak_at h, fun _ => rfl⟩
      raw := fun id r h => .inl ⟨r, rfl, Nat.le_refl _, weak_at h, fun _ => rfl⟩
      dead := fun id h => weak_at h
      old := fun b _ _ => rfl
      fresh := fun id b c h => .inr ⟨id, c, h⟩
      newS := fun b o h => .inl h
      size := Nat.le_refl _
      os := rfl
      tape := rfl
      output := rfl }
  refine ⟨?_, he⟩
  refine { len := by unfold weakH; rw [List.length_map]; exact hr.len, box := ?_, vec := ?_, raw := ?_, hole := ?_, lt := hr.lt, inj := hr.inj, cells := hr.cells, glob := hr.glob }
  · intro id cs h
    obtain ⟨o', h1, h2⟩ := weak_get h
    cases o' with
    | box ds =>
      have h2 : Ob.box cs = Ob.box (ds.map AV.calm1) := h2
      injection h2 with h2; subst h2
      obtain ⟨b, c, arr, T, k1, k2, k3, k4, k5, k6⟩ := hr.box id ds h1
      refine ⟨b, c, arr, T, k1, k2, by rw [List.length_map]; exact k3, fun j v hj => ?_, k5, k6⟩
      rw [List.getElem?_map] at hj
      obtain ⟨u, hu, rfl⟩ := Option.map_eq_some_iff.1 hj
      obtain ⟨o1, x, hx, hv⟩ := k4 j u hu
      exact ⟨calm1_one o1, x, hx, (calm1_ok hv).mono he⟩
    | _ => cases h2
  · intro id et n b c h
    obtain ⟨o', h1, h2⟩ := weak_get h
    cases o' with
    | vec et' n' =>
      have h2 : Ob.vec et n = Ob.vec et' n' := h2
      injection h2 with e1 e2; subst e1; subst e2
      exact hr.vec id et n b c h1
    | _ => cases h2
  · intro id r h
    obtain ⟨o', h1, h2⟩ := weak_get h
    cases o' with
    | raw r' =>
      have h2 : Ob.raw r = Ob.raw r' := h2
      injection h2 with e1; subst e1
      obtain ⟨b, c, o, k1, k2, k3, k4⟩ := hr.raw id r h1
      exact ⟨b, c, o, k1, k2, k3.mono he, k4⟩
    | _ => cases h2
  · intro id h
    obtain ⟨o', h1, h2⟩ := weak_get h
    cases o' with
    | hole => exact hr.hole id h1
    | _ => cases h2
theorem DfsR.weak {P : Program} {σ : Heap} {ρ : Gr} {S : Cells} {w : World} {ds : List Df} {cs : List Deferred} (hr : Rel P σ ρ S w) (h : DfsR P σ ρ S w ds cs) : DfsR P (weakH σ) ρ S w ds cs := h.mono (weak_ok hr).2

theorem leaving_ok {C : Ctx} {run : RunF} {loop : Code → Fr → Heap → Option Out} {r : Res} {σ' σ0 : Heap} {ρ0 : Gr} {S0 : Cells} {w0 : World} {fn : Func} {o : Out} {tm : Array Value} (hrun : RunOk C.P run) (h0 : σ0.length = C.m) :
    ∀ (ds : List Df) (σ : Heap) (ex : Ex) (cs : List Deferred) (ρ : Gr) (S : Cells) (w : World) (u : FrameMode), (leaving C fn o ds σ ex).runs run loop = some (r, σ') → Rel C.P σ ρ S w → Ext σ0 ρ0 S0 w0 σ ρ S w → FR C.P σ ρ S w o.fr tm →
      DfsR C.P σ ρ S w ds cs → LvR C.P S w ex u → Leaves C.P fn tm (RunPost C.P r σ' σ0 ρ0 S0 w0) cs u w := by
  intro ds
  induction ds with
  | nil =>
    intro σ ex cs ρ S w u h hr he hf hd hu
    have := hd.nil_inv; subst this
    unfold leaving at h
    rw [← h0] at h
    cases ex with
    | norm =>
      have : u = .returning := hu
      subst this
      obtain ⟨v, cv, ρ', S', h1, h2, h3, h4, h5⟩ := finish_val (a := { tmps := tm, defers := [] }) h (.inl rfl) hr he hf
      subst h1
      exact ⟨cv, h2, ρ', S', h3, h4, cv, rfl, h5⟩
    | ret =>
      have : u = .returning := hu
      subst this
      obtain ⟨v, cv, ρ', S', h1, h2, h3, h4, h5⟩ := finish_val (a := { tmps := tm, defers := [] }) h (.inr rfl) hr he hf
      subst h1
      exact ⟨cv, h2, ρ', S', h3, h4, cv, rfl, h5⟩
    | pan x =>
      obtain ⟨cv, rfl, hv⟩ := hu
      obtain ⟨rfl, ρ', h3, h4⟩ := finish_pan h rfl hr he
      exact ⟨ρ', S, h3, h4, cv, rfl, hv⟩
    | exit i => exact hu.elim
  | cons d ds ih =>
    intro σw ex cs ρ S w u h hrw hew hfw hdw hu
    have hr := (weak_ok hrw).1
    have he := hew.trans (weak_ok hrw).2
    have hf := hfw.mono (weak_ok hrw).2
    have hd := hdw.weak hrw
    unfold leaving at h
    simp only at h
    generalize weakH σw = σ at h hr he hf hd
    clear hrw hew hfw hdw
    cases hd with
    | cons d c ds cs hd hds =>
      obtain ⟨cargs, cap, rfl, hargs⟩ := hd
      generalize hids : closure σ 6 (addNew [] (d.args.flatMap AV.ids2)) = ids at h
      have hn : ids.Nodup := by rw [← hids]; exact closure_nodup _ _ _ (addNew_nodup _ _ (by simp))
      have hin : ∀ x ∈ d.args.flatMap AV.ids2, x ∈ ids := fun x hx => by rw [← hids]; exact closure_mem _ _ _ _ (addNew_mem _ _ _ hx)
      clear hids
      -- behind the call
      have hback : ∀ (σc ph h' : Heap) (rr : Res) (ρ1' : Gr) (S' : Cells) (w' : World), subHeap σ ids = some σc → σc.length ≤ ph.length → okHeap ph h' = true → Rel C.P h' ρ1' S' w' → Ext σc (subGr ρ ids) S w h' ρ1' S' w' →
          ∃ ρ', Rel C.P (backTo ids (likeHeap ph h') σ) ρ' S' w' ∧ Ext σ ρ S w (backTo ids (likeHeap ph h') σ) ρ' S' w' := by
        intro σc ph h' rr ρ1' S' w' hs hle hok h1 h2
        obtain ⟨e1, e2⟩ := likeHeap_ok hok
        rw [e1]
        obtain ⟨h4, h5, _⟩ := back_ok hr hn hs h1 h2 (by omega)
        exact ⟨_, h4, h5⟩
      split at h
      · cases h
      · rename_i σc hs
        have hret : LvR C.P S w .ret u → (T.call (some none) d.f (d.args.map (AV.ren2 (idx ids))) σc fun rh =>
            .br rh.1.isRet (.br (okHeap σc rh.2) (leaving C fn o ds (backTo ids (likeHeap σc rh.2) σ) .ret) .fail) .fail).runs run loop = some (r, σ') → Leaves C.P fn tm (RunPost C.P r σ' σ0 ρ0 S0 w0) ({ target := .fn (.func d.f) cap, args := cargs } :: cs) u w := by
          intro hu h
          have hu' : u = .returning := hu
          subst hu'
          obtain ⟨⟨rr, h'⟩, hrn, hk⟩ := Option.bind_eq_some_iff.1 h
          obtain ⟨hen, hcall⟩ := hrun _ _ _ _ _ _ hrn
          have hc := hcall (subGr ρ ids) S w (cargs ++ cap) (hr.sub hn hs) (args_sub hr.len hs hin hargs) .returning rfl
          refine leaves_cons (by simp) (run_invoke_fn hen) (CallsD.mono hc ?_)
          rintro e u' w' ⟨ρ1', S', h1, h2, ⟨cv', rfl⟩, hm⟩
          cases rr with
          | ret v =>
            have : u' = .returning := hm
            subst this
            have hk : (T.br (okHeap σc h') (leaving C fn o ds (backTo ids (likeHeap σc h') σ) .ret) .fail).runs run loop = some (r, σ') := hk
            obtain ⟨hok, hk⟩ := go_must hk
            obtain ⟨ρ', h4, h5⟩ := hback σc σc h' (.ret v) ρ1' S' w' hs (Nat.le_refl _) hok h1 h2
            exact ih _ .ret cs ρ' S' w' _ hk h4 (he.trans h5) (hf.mono h5) (hds.mono h5) rfl
          | rcv v => exact absurd (show (none : Option (Res × Heap)) = some (r, σ') from hk) (by simp)
          | pan y => exact absurd (show (none : Option (Res × Heap)) = some (r, σ') from hk) (by simp)
        cases ex with
        | norm => exact hret hu h
        | ret => exact hret hu h
        | exit i => exact hu.elim
        | pan x =>
          simp only at h
          generalize hph : (C.H.rcvd d.f).getD σc = ph at h
          split at h
          · rename_i hle
            obtain ⟨⟨rr, h'⟩, hrn, hk⟩ := Option.bind_eq_some_iff.1 h
            obtain ⟨hen, hcall⟩ := hrun _ _ _ _ _ _ hrn
            obtain ⟨cv, rfl, hv⟩ := hu
            have hc := hcall (subGr ρ ids) S w (cargs ++ cap) (hr.sub hn hs) (args_sub hr.len hs hin hargs) (.panicking [{ v := cv, recovered := false }]) ⟨cv, hv, rfl⟩
            refine leaves_cons (by simp) (run_invoke_fn hen) (CallsD.mono hc ?_)
            rintro e u' w' ⟨ρ1', S', h1, h2, ⟨cv', rfl⟩, hm⟩
            cases rr with
            | rcv v =>
              obtain ⟨cv2, rfl⟩ := hm
              have hk : (T.br (okHeap ph h') (leaving C fn o ds (backTo ids (likeHeap ph h') σ) .ret) .fail).runs run loop = some (r, σ') := hk
              obtain ⟨hok, hk⟩ := go_must hk
              obtain ⟨ρ', h4, h5⟩ := hback σc ph h' (.rcv v) ρ1' S' w' hs hle hok h1 h2
              exact ih _ .ret cs ρ' S' w' _ hk h4 (he.trans h5) (hf.mono h5) (hds.mono h5) rfl
            | ret v =>
              have : u' = .panicking [{ v := cv, recovered := false }] := hm
              subst this
              have hk : (T.br (okHeap σc h') (leaving C fn o ds (backTo ids (likeHeap σc h') σ) (.pan x)) .fail).runs run loop = some (r, σ') := hk
              obtain ⟨hok, hk⟩ := go_must hk
              obtain ⟨ρ', h4, h5⟩ := hback σc σc h' (.ret v) ρ1' S' w' hs (Nat.le_refl _) hok h1 h2
              exact ih _ (.pan x) cs ρ' S' w' _ hk h4 (he.trans h5) (hf.mono h5) (hds.mono h5) ⟨cv, rfl, hv.mono h5.cell⟩
            | pan y => exact hm.elim
          · cases h

end
end Go.Den

/- Calls that recover; every run of the interpreter is right. -/
namespace Go.Den
open Go

/-- The caller's state, while the call that it put off runs. -/
def StR (pv0 : Option E) (u : FrameMode) (pv : Option E) (u' : FrameMode) : Prop :=
  (pv = pv0 ∧ u' = u) ∨ ∃ x cv, pv0 = some x ∧ pv = none ∧ u' = .panicking [{ v := cv, recovered := true }]

section
variable {P : Program} {H : Hints} {run : RunF} {loop : Code → Fr → Heap → Option Out} {r : Res} {σ' σ0 : Heap} {ρ0 : Gr} {S0 : Cells} {w0 : World} {fn : Func} {pv0 : Option E} {u : FrameMode} {c0 : Frame} {cs : List Frame} {C : Ctx}

theorem run_recover {ev : Operand → Value} {o : Oper} {w : World} (h : isRecover o = true) : (execOp ev o).run P w = .ok .recover w := by
  unfold isRecover at h
  split at h
  · rename_i args ats hop
    simp only [execOp, hop, resolve, Sem.run_bind, Sem.run_pure, Result.andThen_ok, invoke]
    rfl
  · cases h

/-- What such a piece of code came to. -/
def OutPostR (P : Program) (pv0 : Option E) (u : FrameMode) (c0 : Frame) (cs : List Frame) (out : Out) (pv : Option E) (σ0 : Heap) (ρ0 : Gr) (S0 : Cells) (w0 : World) (e : Exit) (a : Act) (cs' : List Frame) (w : World) : Prop :=
  ∃ ρ S u', cs' = { c0 with mode := u' } :: cs ∧ StR pv0 u pv u' ∧ a.defers = [] ∧ Rel P out.hp ρ S w ∧ Ext σ0 ρ0 S0 w0 out.hp ρ S w ∧ FR P out.hp ρ S w out.fr a.tmps ∧ ExR P S w out.ex e

theorem recover_some {x : E} {ρ S w} {u' : FrameMode} (hm : ModeOk P w0 S0 pv0 u) (he : Ext σ0 ρ0 S0 w0 σ' ρ S w) (hs : StR pv0 u (some x) u') :
    ∃ cv, VE P w S x cv ∧ recoverD ({ c0 with mode := u' } :: cs) = some (cv, { c0 with mode := .panicking [{ v := cv, recovered := true }] } :: cs) ∧ StR pv0 u none (.panicking [{ v := cv, recovered := true }]) := by
  rcases hs with ⟨h1, rfl⟩ | ⟨x', cv, _, h2, _⟩
  · subst h1
    obtain ⟨cv, hv, rfl⟩ := hm
    exact ⟨cv, hv.mono he.cell, rfl, .inr ⟨x, cv, rfl, rfl, rfl⟩⟩
  · cases h2

theorem recover_none {S w} {u' : FrameMode} (hm : ModeOk P w S pv0 u) (hs : StR pv0 u none u') : recoverD ({ c0 with mode := u' } :: cs) = none := by
  rcases hs with ⟨h1, rfl⟩ | ⟨x', cv, _, _, rfl⟩
  · subst h1
    have : u' = .returning := hm
    subst this
    rfl
  · rfl

theorem denOpsR_ok {arr : Array Oper} {K : Fr → Heap → Option E → T} {Q : Exit → Act → List Frame → World → Prop} (hm : ModeOk C.P w0 S0 pv0 u) : ∀ (l : List Oper) (i : Nat) (fr : Fr) (σ : Heap) (pv : Option E) (ρ : Gr) (S : Cells) (w : World) (a : Act) (u' : FrameMode),
    arr.toList.drop i = l → (denOpsR C arr.toList l fr σ pv K).runs run loop = some (r, σ') → StR pv0 u pv u' → a.defers = [] → Rel C.P σ ρ S w → Ext σ0 ρ0 S0 w0 σ ρ S w → FR C.P σ ρ S w fr a.tmps →
    (∀ (fr' : Fr) (σ1 : Heap) (pv' : Option E) (ρ' : Gr) (S' : Cells) (w' : World) (a' : Act) (u2 : FrameMode), StR pv0 u pv' u2 → a'.defers = [] → Rel C.P σ1 ρ' S' w' → Ext σ0 ρ0 S0 w0 σ1 ρ' S' w' → FR C.P σ1 ρ' S' w' fr' a'.tmps →
      (K fr' σ1 pv').runs run loop = some (r, σ') → Q .normal a' ({ c0 with mode := u2 } :: cs) w') → wpOpsS C.P arr Q (List.range' i l.length) a ({ c0 with mode := u' } :: cs) w
  | [], i, fr, σ, pv, ρ, S, w, a, u', hl, h, hs, hd, hr, he, hf, hK => hK fr σ pv ρ S w a u' hs hd hr he hf h
  | o :: rest, i, fr, σ, pv, ρ, S, w, a, u', hl, h, hs, hd, hr, he, hf, hK => by
    have hlen := congrArg List.length hl
    simp at hlen
    have ho : arr[i]? = some o := by
      have := congrArg (fun l => l[0]?) hl
      simpa using this
    have hl' : arr.toList.drop (i + 1) = rest := by rw [← List.drop_drop, hl]; rfl
    rw [List.length_cons, List.range'_succ]
    unfold denOpsR at h
    simp only [wpOpsS, ho]
    split at h
    · cases h
    · rename_i hg
      have hw : Region.wanted o (yielded arr a.tmps) = true := by unfold Region.wanted; rw [hg]
      rw [if_pos hw]
      by_cases hrec : isRecover o = true
      · rw [if_pos hrec] at h
        rw [run_recover hrec]
        simp only
        cases pv with
        | some x =>
          obtain ⟨cv, hv, h1, h2⟩ := recover_some (c0 := c0) (cs := cs) hm he hs
          rw [h1]
          simp only
          exact denOpsR_ok hm rest (i + 1) _ σ none ρ S w _ _ hl' h h2 (by rw [put_defers]; exact hd) hr he (hf.put o.dst (v := .e x) hv) hK
        | none =>
          have h1 : recoverD ({ c0 with mode := u' } :: cs) = none := by
            rcases hs with ⟨e1, rfl⟩ | ⟨x', cv, _, _, rfl⟩
            · subst e1
              have : u' = .returning := hm
              subst this; rfl
            · rfl
          rw [h1]
          simp only
          exact denOpsR_ok hm rest (i + 1) _ σ none ρ S w _ _ hl' h hs (by rw [put_defers]; exact hd) hr he (hf.put o.dst (v := .e .nili) .nili) hK
      · rw [if_neg hrec] at h
        split at h
        · rename_i ok v hev
          obtain ⟨rfl, h⟩ := go_must h
          have hev' : evalOp C.P arr.toList fr σ 0 o = some (true, v, σ) := by unfold evalOp; rw [hev]
          obtain ⟨n, cv, w', ρ', S', h1, h2, h3, h4, h5⟩ := evalOp_ok hr hf hev'
          have hnext : wpOpsS C.P arr Q (List.range' (i + 1) rest.length) (a.put o.dst cv) ({ c0 with mode := u' } :: cs) w' :=
            denOpsR_ok hm rest (i + 1) _ σ pv ρ' S' w' _ _ hl' h hs (by rw [put_defers]; exact hd) h3 (he.trans h4) ((hf.mono h4).put o.dst h5) hK
          rw [h1]
          rcases h2 with rfl | ⟨rfl, rfl⟩
          · simpa [Oper.upon] using hnext
          · simpa [Oper.upon] using hnext
        · cases h

theorem denCodeR_ok (hfo : C.P.follows .mixedOrders = true) (hp : PrimOk C.P C.H) (hrun : RunOk C.P run) (hloop : LoopOk C.P C.m loop) (h0 : σ0.length = C.m) (hm : ModeOk C.P w0 S0 pv0 u) : ∀ (c : Code) (fr : Fr) (σ : Heap) (pv : Option E) (K : Out → Option E → T) (Q : Exit → Act → List Frame → World → Prop),
    (denCodeR C c fr σ pv K).runs run loop = some (r, σ') → ∀ (ρ : Gr) (S : Cells) (w : World) (a : Act) (u' : FrameMode), StR pv0 u pv u' → a.defers = [] → Rel C.P σ ρ S w → Ext σ0 ρ0 S0 w0 σ ρ S w → FR C.P σ ρ S w fr a.tmps →
    (∀ (out : Out) (pv' : Option E) (e : Exit) (a' : Act) (cs' : List Frame) (w' : World), OutPostR C.P pv0 u c0 cs out pv' σ0 ρ0 S0 w0 e a' cs' w' → (K out pv').runs run loop = some (r, σ') → Q e a' cs' w') → c.wpS C.P Q a ({ c0 with mode := u' } :: cs) w := by
  -- a piece that does not recover
  have hplain : ∀ (c : Code) (fr : Fr) (σ : Heap) (pv : Option E) (K : Out → Option E → T) (Q : Exit → Act → List Frame → World → Prop),
    (denCode C c fr σ [] fun o => match o.df with | [] => K o pv | _ => .fail).runs run loop = some (r, σ') → ∀ (ρ : Gr) (S : Cells) (w : World) (a : Act) (u' : FrameMode), StR pv0 u pv u' → a.defers = [] → Rel C.P σ ρ S w → Ext σ0 ρ0 S0 w0 σ ρ S w → FR C.P σ ρ S w fr a.tmps →
    (∀ (out : Out) (pv' : Option E) (e : Exit) (a' : Act) (cs' : List Frame) (w' : World), OutPostR C.P pv0 u c0 cs out pv' σ0 ρ0 S0 w0 e a' cs' w' → (K out pv').runs run loop = some (r, σ') → Q e a' cs' w') → c.wpS C.P Q a ({ c0 with mode := u' } :: cs) w := by
    intro c fr σ pv K Q h ρ S w a u' hs hd hr he hf hK
    refine wpS_of_wp (denCode_ok (D := []) hfo hp hrun hloop h0 c fr σ [] _ (r, σ') _ h ρ S w a [] hr he hf hd .nil ?_)
    intro out e a' w' ho hk
    obtain ⟨ρ', S', ds, k0, k1, k2, k3, k4, k5⟩ := ho
    split at hk
    · rename_i hdf
      rw [hdf] at k1
      have := k1.nil_inv; subst this
      exact hK out pv e a' _ w' ⟨ρ', S', u', rfl, hs, k0, k2, k3, k4, k5⟩ hk
    · cases hk
  intro c
  induction c with
  | seq x y ihx ihy =>
    intro fr σ pv K Q h ρ S w a u' hs hd hr he hf hK
    unfold denCodeR at h
    refine wpS_seq (ihx fr σ pv _ _ h ρ S w a u' hs hd hr he hf ?_)
    rintro ⟨ex, fr', σ1, df'⟩ pv' e a' cs' w' hout hk
    obtain ⟨ρ', S', u2, rfl, k1, k2, k3, k4, k5, k6⟩ := id hout
    cases ex with
    | norm =>
      have : e = .normal := k6
      subst this
      exact ihy fr' σ1 pv' K Q hk ρ' S' w' a' u2 k1 k2 k3 k4 k5 hK
    | exit i => have : e = .exit i := k6; subst this; exact hK _ _ _ a' _ w' hout hk
    | ret => have : e = .ret := k6; subst this; exact hK _ _ _ a' _ w' hout hk
    | pan x => obtain ⟨cv, rfl, _⟩ := k6; exact hK _ _ _ a' _ w' hout hk
  | region id ops draw =>
    intro fr σ pv K Q h ρ S w a u' hs hd hr he hf hK
    unfold denCodeR at h
    split at h
    · split at h
      · cases h
      · rename_i hdraw
        have : draw = false := by simpa using hdraw
        subst this
        refine wpS_region ?_
        rw [List.range_eq_range']
        refine denOpsR_ok (arr := ops) (K := fun fr σ pv => K ⟨.norm, fr, σ, []⟩ pv) hm ops.toList 0 fr σ pv ρ S w a u' rfl h hs hd hr he hf ?_
        intro fr' σ1 pv' ρ' S' w' a' u2 k1 k2 k3 k4 k5 k6
        exact hK ⟨.norm, fr', σ1, []⟩ pv' .normal a' _ w' ⟨ρ', S', u2, rfl, k1, k2, k3, k4, k5, rfl⟩ k6
    · exact hplain _ fr σ pv K Q h ρ S w a u' hs hd hr he hf hK
  | _ =>
    intro fr σ pv K Q h ρ S w a u' hs hd hr he hf hK
    unfold denCodeR at h
    exact hplain _ fr σ pv K Q h ρ S w a u' hs hd hr he hf hK
end

/-! ### Whole functions -/

def Named (P : Program) : Prop := ∀ (f : FuncId) (fn : Func), P.funcs[f]? = some fn → (fn.name == "runtime.NumGoroutine") = false

section
variable {P : Program} {H : Hints} {run : RunF} {loop : LoopF}

theorem start_ok {σ : Heap} {ρ : Gr} {S : Cells} {w : World} {fn : Func} {args : List AV} {cargs : Array Value} (ha : ArgsOk P σ ρ S w args cargs) : FR P σ ρ S w (startFr fn args) (cargs ++ Array.replicate (fn.ntmps - cargs.size) undef) := by
  obtain ⟨hsz, ha⟩ := ha
  unfold startFr
  refine ⟨by simp [hsz], fun t v ht => ?_⟩
  by_cases htl : t < args.length
  · rw [List.getElem?_append_left htl] at ht
    obtain ⟨cv, h1, h2⟩ := ha t v ht
    exact ⟨cv, by rw [Array.getElem?_append_left (by omega)]; exact h1, h2.to3⟩
  · rw [List.getElem?_append_right (by omega), List.getElem?_replicate] at ht
    split at ht
    · injection ht with ht; subst ht
      refine ⟨undef, ?_, VA3_skip⟩
      rw [Array.getElem?_append_right (by omega), Array.getElem?_replicate, if_pos (by omega)]
    · cases ht

theorem leaving_exit {C : Ctx} {fn : Func} {o : Out} {loop : Code → Fr → Heap → Option Out} {ds : List Df} {σ : Heap} {i : Nat} (hne : ds = [] → False) : (leaving C fn o ds σ (.exit i)).runs run loop = none := by
  cases ds with
  | nil => exact (hne rfl).elim
  | cons d ds =>
    unfold leaving
    generalize closure σ 6 (addNew [] (d.args.flatMap AV.ids2)) = ids
    simp only
    split <;> rfl

theorem bodyRun_ok (hm : P.follows .mixedOrders = true) (hN : Named P) (hprim : PrimOk P H) (hrun : RunOk P run) (hloop : ∀ f m, LoopOk P m (loop f m)) : RunOk P (bodyRun P H run loop) := by
  intro md f args σ r σ' h
  unfold bodyRun bodyT at h
  split at h
  · rename_i g hg
    obtain ⟨⟨r', h'⟩, hq, hk⟩ := splice_inv h
    injection hk with hk; injection hk with e1 e2
    subst e1; subst e2
    exact hprim md f g args σ r' h' hg hq
  · split at h
    · cases h
    · rename_i fn hfn
      split at h
      · cases h
      · rename_i c hc
        refine ⟨⟨fn, hfn, hN f fn hfn, by rw [hc]; rfl⟩, fun ρ S w cargs hr ha => ?_⟩
        simp only at h
        have hst := start_ok (fn := fn) ha
        cases md with
        | none =>
          simp only at h ⊢
          refine calls_of_wp_defers hfn hc ?_
          refine denCode_ok (C := { P, m := σ.length, fid := f, H, md := none }) (σ0 := σ) (ρ0 := ρ) (S0 := S) (w0 := w) (D := []) hm hprim hrun (hloop f σ.length) rfl c _ σ [] _ (r, σ') _ h ρ S w _ [] hr (Ext.refl _ _ _ _) hst rfl .nil ?_
          intro out e a' w' ho hk
          obtain ⟨ρ', S', ds, k0, k1, k2, k3, k4, k5⟩ := ho
          rw [List.append_nil] at k0
          split at hk
          · rename_i hdf
            rw [hdf] at k1
            have := k1.nil_inv; subst this
            exact finish_ok hk k2 k3 k4 k5 k0
          · have hlv : ∀ u, LvR P S' w' out.ex u → Leaves P fn a'.tmps (RunPost P r σ' σ ρ S w) a'.defers u w' := fun u hu => by
              rw [k0]
              exact leaving_ok (C := { P, m := σ.length, fid := f, H, md := none }) hrun rfl _ _ _ ds ρ' S' w' u hk k2 k3 k4 k1 hu
            cases hex : out.ex with
            | norm => rw [hex] at k5 hlv; have : e = .normal := k5; subst this; exact hlv _ rfl
            | ret => rw [hex] at k5 hlv; have : e = .ret := k5; subst this; exact hlv _ rfl
            | pan x => rw [hex] at k5 hlv; obtain ⟨cv, rfl, hv⟩ := k5; exact hlv _ ⟨cv, rfl, hv⟩
            | exit i =>
              exfalso
              rw [hex] at hk
              rename_i hne
              exact absurd ((leaving_exit (run := run) hne).symm.trans hk) (by simp)
        | some pv =>
          simp only at h ⊢
          intro u hu
          refine callsD_of_wpS hfn hc ?_
          intro c0 cs hc0
          have hcs : c0 :: cs = { c0 with mode := u } :: cs := by subst hc0; rfl
          rw [hcs]
          refine denCodeR_ok (C := { P, m := σ.length, fid := f, H, md := some pv }) (σ0 := σ) (ρ0 := ρ) (S0 := S) (w0 := w) (pv0 := pv) (u := u) hm hprim hrun (hloop f σ.length) rfl hu c _ σ pv _ _ h ρ S w _ u (.inl ⟨rfl, rfl⟩) rfl hr (Ext.refl _ _ _ _) hst ?_
          intro out pv' e a' cs' w' ho hk
          obtain ⟨ρ', S', u2, rfl, k1, k2, k3, k4, k5, k6⟩ := ho
          split at hk
          · cases hk
          · rename_i hnp
            have hret : (out.ex = .norm ∨ out.ex = .ret) → ∃ v, (results fn a'.tmps).run P w' = .ok v w' ∧ RunPostD P u r σ' σ ρ S w (.returned v) u2 w' := fun hex => by
              obtain ⟨v, cv, ρ2, S2, h1, h2, h3, h4, _⟩ := finish_val hk hex k3 k4 k5
              refine ⟨cv, h2, ρ2, S2, h3, h4, ⟨cv, rfl⟩, ?_⟩
              rcases k1 with ⟨rfl, rfl⟩ | ⟨x, cv2, rfl, rfl, rfl⟩
              · have : (pv'.isSome && pv'.isNone) = false := by cases pv' <;> rfl
                rw [this] at h1
                subst h1
                exact rfl
              · subst h1
                exact ⟨cv2, rfl⟩
            cases hex : out.ex with
            | norm =>
              rw [hex] at k6
              have : e = .normal := k6
              subst this
              exact ⟨k2, u2, rfl, hret (.inl hex)⟩
            | ret =>
              rw [hex] at k6
              have : e = .ret := k6
              subst this
              exact ⟨k2, u2, rfl, hret (.inr hex)⟩
            | pan x => rw [hex] at hnp; exact absurd rfl hnp
            | exit i => unfold finish at hk; rw [hex] at hk; cases hk

theorem bodyLoop_ok (hm : P.follows .mixedOrders = true) (hprim : PrimOk P H) (hrun : RunOk P run) (hloop : ∀ f m, LoopOk P m (loop f m)) (f : FuncId) (m : Nat) : LoopOk P m (bodyLoop P H run loop f m) := by
  intro b fr σ out h σ0 ρ0 S0 w0 D h0 ρ S w a hr he hf hd
  exact round_ok (C := { P, m, fid := f, H, md := none }) hm hprim hrun (hloop f m) h0 h hr he hf hd

theorem runK_ok (hm : P.follows .mixedOrders = true) (hN : Named P) (hprim : PrimOk P H) : ∀ k, RunOk P (runK P H k) ∧ ∀ f m, LoopOk P m (loopK P H k f m)
  | 0 => ⟨fun md f args σ r σ' h => by simp [runK] at h, fun f m b fr σ out h => by simp [loopK] at h⟩
  | k + 1 => by
    obtain ⟨h1, h2⟩ := runK_ok hm hN hprim k
    have e1 : runK P H (k + 1) = bodyRun P H (runK P H k) (loopK P H k) := by funext md f args σ; rw [runK]
    have e2 : ∀ f m, loopK P H (k + 1) f m = bodyLoop P H (runK P H k) (loopK P H k) f m := fun f m => by funext b fr σ; rw [loopK]
    refine ⟨by rw [e1]; exact bodyRun_ok hm hN hprim h1 h2, fun f m => by rw [e2]; exact bodyLoop_ok hm hprim h1 h2 f m⟩
end
end Go.Den

