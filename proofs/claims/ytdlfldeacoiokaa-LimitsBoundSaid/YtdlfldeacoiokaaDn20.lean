/- Two operations that have nothing in common may change places: so a region may be carried out in any of its orders. -/
import Derived.Test.YtdlfldeacoiokaaDn19
namespace Go.Den
open Go

section
variable {P : Program} {H : Hints} {run : RunF} {ops : List Oper} {fr fr' : Fr} {σ σ' : Heap} {k : Nat} {o : Oper} {v : AV}

/-! ### What an operation looks at in the frame -/

theorem evalT_congr {t : TypeId} {x : Operand} (h : evalO fr' x = evalO fr x) : evalT P t fr' x = evalT P t fr x := by
  unfold evalT
  split <;> first | rfl | exact h

theorem zip_mapM_congr {xs : List Operand} {ts : List TypeId} (h : ∀ x ∈ xs, evalO fr' x = evalO fr x) : ((xs.zip ts).mapM fun (x, t) => evalT P t fr' x) = (xs.zip ts).mapM fun (x, t) => evalT P t fr x :=
  mapM_congr fun p hp => evalT_congr (h p.1 (List.of_mem_zip hp).1)

theorem parts_congr {ty : Nat → Option TypeId} {ps : Array (Nat × Operand)} (h : ∀ p ∈ ps, evalO fr' p.2 = evalO fr p.2) :
    (ps.toList.mapM fun p => partOf P fr' (ty p.1) p) = ps.toList.mapM fun p => partOf P fr (ty p.1) p :=
  mapM_congr fun p hp => by
    unfold partOf
    cases ty p.1 with
    | none => rfl
    | some t => simp only [evalT_congr (h p (by simpa using hp))]

theorem sliceLit_congr {t : TypeId} {n : Nat} {ps : Array (Nat × Operand)} (h : ∀ p ∈ ps, evalO fr' p.2 = evalO fr p.2) : sliceLit P fr' t n ps = sliceLit P fr t n ps := by
  unfold sliceLit
  split
  · rename_i et hu
    rw [parts_congr (P := P) (ty := fun _ => some et) h]
  · rfl

theorem sliceL_congr {x : Option Operand} (h : ∀ y, x = some y → evalO fr' y = evalO fr y) : sliceL fr' x = sliceL fr x := by
  unfold sliceL
  cases x with
  | none => rfl
  | some y => simp only [h y rfl]
theorem sliceH_congr {x : Option Operand} {n : Nat} (h : ∀ y, x = some y → evalO fr' y = evalO fr y) : sliceH fr' n x = sliceH fr n x := by
  unfold sliceH
  cases x with
  | none => rfl
  | some y => simp only [h y rfl]

theorem map_evalO_congr {xs : List Operand} (h : ∀ x ∈ xs, evalO fr' x = evalO fr x) : xs.map (evalO fr') = xs.map (evalO fr) := List.map_congr_left h

set_option maxHeartbeats 1000000 in
theorem evalPure_congr (h : ∀ x ∈ o.op.operands, evalO fr' x = evalO fr x) : evalPure P ops fr' o = evalPure P ops fr o := by
  obtain ⟨dst, op, type, pos, after, guard⟩ := o
  cases op with
  | move x => have h1 := h x (by simp [Op.operands]); simp only [evalPure, evalT_congr h1]
  | assign x => have h1 := h x (by simp [Op.operands]); simp only [evalPure, evalT_congr h1]
  | pick c a b =>
    have h1 := h c (by simp [Op.operands]); have h2 := h a (by simp [Op.operands]); have h3 := h b (by simp [Op.operands])
    simp only [evalPure, h1, h2, h3]
  | build t ps =>
    have hp : ∀ p ∈ ps, evalO fr' p.2 = evalO fr p.2 := fun p hp => h p.2 (by simp [Op.operands]; exact ⟨p.1, hp⟩)
    simp only [evalPure]
    split
    · rename_i zs fs hz hu
      rw [parts_congr (P := P) (ty := fun i => (fs[i]?).map (·.type)) hp]
    · rfl
  | buildSlice t n ps =>
    have hp : ∀ p ∈ ps, evalO fr' p.2 = evalO fr p.2 := fun p hp => h p.2 (by simp [Op.operands]; exact ⟨p.1, hp⟩)
    simp only [evalPure, sliceLit_congr hp]
  | load t a => have h1 := h a (by simp [Op.operands]); simp only [evalPure, h1]
  | nilCheck a => have h1 := h a (by simp [Op.operands]); simp only [evalPure, h1]
  | binOp op t x y t' =>
    have h1 := h x (by simp [Op.operands]); have h2 := h y (by simp [Op.operands])
    simp only [evalPure, evalT_congr h1, evalT_congr h2]
  | unOp op t x => have h1 := h x (by simp [Op.operands]); simp only [evalPure, h1]
  | convert s d x => have h1 := h x (by simp [Op.operands]); simp only [evalPure, h1]
  | makeInterface t x => have h1 := h x (by simp [Op.operands]); simp only [evalPure, h1]
  | slice t x lo hi mx =>
    have h1 := h x (by simp [Op.operands])
    cases mx with
    | none =>
      have h2 : sliceL fr' lo = sliceL fr lo := sliceL_congr fun y hy => h y (by subst hy; simp [Op.operands])
      have h3 : ∀ n, sliceH fr' n hi = sliceH fr n hi := fun n => sliceH_congr fun y hy => h y (by subst hy; simp [Op.operands])
      simp only [evalPure, h1, h2, h3]
    | some m => rfl
  | fieldAddr s x i => have h1 := h x (by simp [Op.operands]); simp only [evalPure, h1]
  | field t x i => have h1 := h x (by simp [Op.operands]); simp only [evalPure, h1]
  | indexAddr t x i =>
    have h1 := h x (by simp [Op.operands]); have h2 := h i (by simp [Op.operands])
    simp only [evalPure, h1, h2]
  | index t x i =>
    have h1 := h x (by simp [Op.operands]); have h2 := h i (by simp [Op.operands])
    simp only [evalPure, h1, h2]
  | typeAssert x t u ok => have h1 := h x (by simp [Op.operands]); simp only [evalPure, h1]
  | extract x i => have h1 := h x (by simp [Op.operands]); simp only [evalPure, h1]
  | makeFunc f first captured =>
    cases f with
    | func f =>
      have : captured.toList.mapM (ptrOf fr') = captured.toList.mapM (ptrOf fr) :=
        mapM_congr fun x hx => by unfold ptrOf; rw [h x (by simp [Op.operands]; exact .inr (by simpa using hx))]
      simp only [evalPure, this]
    | _ => rfl
  | call c =>
    obtain ⟨ce, args, ats⟩ := c
    cases ce with
    | builtin b =>
      have hm := map_evalO_congr (fr := fr) (fr' := fr') (xs := args.toList) fun x hx => h x (by simp [Op.operands, Call.operands]; simpa using hx)
      cases b <;> first | rfl | simp only [evalPure, hm]
    | _ => rfl
  | _ => rfl

theorem evalHeap_congr (h : ∀ x ∈ o.op.operands, evalO fr' x = evalO fr x) : evalHeap P ops fr' σ k o = evalHeap P ops fr σ k o := by
  obtain ⟨dst, op, type, pos, after, guard⟩ := o
  cases op with
  | box t x => have h1 := h x (by simp [Op.operands]); simp only [evalHeap, evalT_congr h1]
  | alloc t => rfl
  | buildSlice t n ps =>
    have hp : ∀ p ∈ ps, evalO fr' p.2 = evalO fr p.2 := fun p hp => h p.2 (by simp [Op.operands]; exact ⟨p.1, hp⟩)
    simp only [evalHeap, sliceLit_congr hp]
  | load t a => have h1 := h a (by simp [Op.operands]); simp only [evalHeap, h1]
  | store t a x =>
    have h1 := h a (by simp [Op.operands]); have h2 := h x (by simp [Op.operands])
    simp only [evalHeap, h1, evalT_congr h2]
  | range t x => have h1 := h x (by simp [Op.operands]); simp only [evalHeap, h1]
  | call c =>
    obtain ⟨ce, args, ats⟩ := c
    cases ce with
    | builtin b =>
      cases b with
      | append =>
        have hx : ∀ x ∈ args.toList, evalO fr' x = evalO fr x := fun x hx => h x (by simp [Op.operands, Call.operands]; simpa using hx)
        generalize hl : args.toList = l at hx
        simp only [evalHeap, hl]
        split
        · rename_i x y _
          have h1 := hx x (by simp); have h2 := hx y (by simp)
          simp only [evalT_congr h1, evalT_congr h2]
        · rfl
      | _ => rfl
    | _ => rfl
  | _ => rfl

theorem callOf_congr {c : Call} (h : ∀ x ∈ c.operands, evalO fr' x = evalO fr x) : callOf P fr' c = callOf P fr c := by
  obtain ⟨ce, args, ats⟩ := c
  have hz : ((args.toList.zip ats.toList).mapM fun (x, t) => evalT P t fr' x) = (args.toList.zip ats.toList).mapM fun (x, t) => evalT P t fr x :=
    zip_mapM_congr fun x hx => h x (by simp only [Call.operands, Array.mem_append]; exact .inr (by simpa using hx))
  unfold callOf
  simp only [hz]
  cases ce with
  | value f =>
    cases f with
    | tmp u =>
      have h1 : fr'[u]? = fr[u]? := h (.tmp u) (by simp [Call.operands])
      simp only [h1]
    | _ => rfl
  | invoke r m =>
    cases r with
    | tmp u =>
      have h1 : fr'[u]? = fr[u]? := h (.tmp u) (by simp [Call.operands])
      simp only [h1]
    | _ => rfl
  | builtin b => rfl

theorem footOf_congr (h : ∀ x ∈ o.op.operands, evalO fr' x = evalO fr x) : footOf P ops fr' σ k o = footOf P ops fr σ k o := by
  have hpu := evalPure_congr (P := P) (ops := ops) h
  obtain ⟨dst, op, type, pos, after, guard⟩ := o
  cases op with
  | box t x => have h1 := h x (by simp [Op.operands]); simp only [footOf, evalT_congr h1]
  | load t a => have h1 := h a (by simp [Op.operands]); simp only [footOf, h1]
  | next a s => have h1 := h a (by simp [Op.operands]); simp only [footOf, h1]
  | store t a x =>
    have h1 := h a (by simp [Op.operands]); have h2 := h x (by simp [Op.operands])
    simp only [footOf, h1, evalT_congr h2]
  | call c =>
    have hc : callOf P fr' c = callOf P fr c := callOf_congr fun x hx => h x hx
    obtain ⟨ce, args, ats⟩ := c
    cases ce with
    | builtin b =>
      simp only [footOf, hpu]
      split
      · rename_i x l _ hl
        have : x ∈ args.toList := by rw [hl]; simp
        rw [h x (by simp [Op.operands, Call.operands]; simpa using this)]
      · rfl
    | _ => simp only [footOf, hc]
  | _ => rfl

theorem Does.congr (h : ∀ x ∈ o.op.operands, evalO fr' x = evalO fr x) (hd : Does P H run ops o fr σ k v σ') : Does P H run ops o fr' σ k v σ' := by
  cases hd with
  | op v σ' he hb => exact .op _ _ (by unfold evalOp at he ⊢; rw [evalPure_congr h, evalHeap_congr h]; exact he) hb
  | call c f as v σ' ho hc hout => exact .call c f as v σ' ho (by rw [callOf_congr fun x hx => h x (by rw [ho]; exact hx)]; exact hc) hout
  | more x id s p q ho hx hs hp hq => exact .more x id s p q ho (by rw [h x (by rw [ho]; simp [Op.operands])]; exact hx) hs hp hq
  | over x id s p ho hx hs hp => exact .over x id s p ho (by rw [h x (by rw [ho]; simp [Op.operands])]; exact hx) hs hp

theorem Pans.congr {x : E} (h : ∀ x ∈ o.op.operands, evalO fr' x = evalO fr x) (hd : Pans P H run o fr σ x σ') : Pans P H run o fr' σ x σ' := by
  cases hd with
  | panic y t u ho hx => exact .panic y t u ho (by rw [h y (by rw [ho]; simp [Op.operands])]; exact hx)
  | call c f as x σ' ho hc hout => exact .call c f as x σ' ho (by rw [callOf_congr fun x hx => h x (by rw [ho]; exact hx)]; exact hc) hout

/-! ### One step of a region -/

/-- Is the operation wanted? -/
def Wanted (ops : List Oper) (fr : Fr) (o : Oper) : Prop := o.guard = none ∨ ∃ j w dj, o.guard = some (j, w) ∧ dstOf ops j = some dj ∧ fr[dj]? = some (.e (.bool w))
def Skipped (ops : List Oper) (fr : Fr) (o : Oper) : Prop := ∃ j w dj, o.guard = some (j, w) ∧ dstOf ops j = some dj ∧ (fr[dj]? = some (.tup []) ∨ ∃ b, b ≠ w ∧ fr[dj]? = some (.e (.bool b)))

inductive Step (P : Program) (H : Hints) (run : RunF) (ops : List Oper) (o : Oper) (k : Nat) (fr : Fr) (σ : Heap) : AV → Heap → Foot → Prop
  | skip (h : Skipped ops fr o) : Step P H run ops o k fr σ (.tup []) σ .no
  | does (v : AV) (σ' : Heap) (hw : Wanted ops fr o) (h : Does P H run ops o fr σ k v σ') : Step P H run ops o k fr σ v σ' ((footOf P ops fr σ k o).with σ.length σ'.length)

/-- The frame at the places that an operation looks at. -/
def SameAt (arr : Array Oper) (o : Oper) (fr fr' : Fr) : Prop := ∀ t ∈ o.looksAt arr, fr'[t]? = fr[t]?

theorem SameAt.operands {arr : Array Oper} (h : SameAt arr o fr fr') : ∀ x ∈ o.op.operands, evalO fr' x = evalO fr x := by
  intro x hx
  cases x with
  | tmp t =>
    refine h t ?_
    unfold Oper.looksAt
    exact List.mem_append_left _ (List.mem_filterMap.2 ⟨.tmp t, by simpa using hx, rfl⟩)
  | const c => cases c <;> first | rfl | (rename_i p; cases p <;> rfl)
  | _ => rfl

theorem SameAt.guard {arr : Array Oper} (h : SameAt arr o fr fr') {j dj : Nat} {w : Bool} (hg : o.guard = some (j, w)) (hd : dstOf arr.toList j = some dj) : fr'[dj]? = fr[dj]? := by
  refine h dj ?_
  unfold Oper.looksAt
  refine List.mem_append_right _ ?_
  rw [hg]
  have : (arr[j]?).bind (·.dst) = some dj := by unfold dstOf at hd; simpa using hd
  simp [this]

theorem Step.congr {arr : Array Oper} (h : SameAt arr o fr fr') {ft : Foot} (hs : Step P H run arr.toList o k fr σ v σ' ft) : Step P H run arr.toList o k fr' σ v σ' ft := by
  cases hs with
  | skip hs =>
    obtain ⟨j, w, dj, h1, h2, h3⟩ := hs
    exact .skip ⟨j, w, dj, h1, h2, by rw [h.guard h1 h2]; exact h3⟩
  | does v σ' hw hd =>
    rw [← footOf_congr h.operands]
    refine .does v σ' ?_ (hd.congr h.operands)
    rcases hw with hw | ⟨j, w, dj, h1, h2, h3⟩
    · exact .inl hw
    · exact .inr ⟨j, w, dj, h1, h2, by rw [h.guard h1 h2]; exact h3⟩

theorem Foot.with_wr {f : Foot} {n n' i : Nat} (h : i ∈ f.wr) : i ∈ (f.with n n').wr := by
  unfold Foot.with; split
  · exact h
  · exact List.mem_append_left _ h
theorem Foot.with_rd {f : Foot} {n n' : Nat} : (f.with n n').rd = f.rd := by unfold Foot.with; split <;> rfl
theorem Foot.with_dep {f : Foot} {n n' : Nat} : (f.with n n').dep = f.dep := by unfold Foot.with; split <;> rfl

/-- A step elsewhere. -/
theorem Step.local {ft : Foot} (hs : Step P H run ops o k fr σ v σ' ft) :
    ∃ (pat : Nat → Option Ob) (e : List Ob), (∀ i, pat i ≠ none → i ∈ ft.wr) ∧ (e ≠ [] → ft.ext = true ∧ ft.dep = true) ∧ (∀ i, σ.length ≤ i → i < σ.length + e.length → i ∈ ft.wr) ∧ σ' = patch pat e σ ∧
      ∀ τ : Heap, (∀ i, i ∈ ft.rd ∨ i ∈ ft.wr → τ[i]? = σ[i]?) → (ft.dep = true → τ.length = σ.length) → Step P H run ops o k fr τ v (patch pat e τ) ft := by
  cases hs with
  | skip h => exact ⟨nopat, [], fun i hi => absurd rfl hi, fun h => absurd rfl h, fun i h1 h2 => by simp at h2; omega, patch_nop.symm, fun τ _ _ => by rw [patch_nop]; exact .skip h⟩
  | does v σ' hw h =>
    obtain ⟨pat, e, h1, h2, h3, h4⟩ := h.local
    have hl : σ'.length = σ.length + e.length := by rw [h3, patch_len]
    refine ⟨pat, e, fun i hi => Foot.with_wr (h1 i hi), fun he => ?_, fun i hi1 hi2 => ?_, h3, fun τ ht hd => ?_⟩
    · refine ⟨?_, by rw [Foot.with_dep]; exact h2 he⟩
      have : e.length ≠ 0 := fun h0 => he (List.eq_nil_of_length_eq_zero h0)
      unfold Foot.with
      rw [if_neg (by omega)]
    · unfold Foot.with
      rw [if_neg (by omega)]
      exact List.mem_append_right _ (List.mem_range'_1.2 ⟨hi1, by omega⟩)
    · rw [Foot.with_dep] at hd
      obtain ⟨h5, h6⟩ := h4 τ (fun i hi => ht i (hi.imp (fun h => by rw [Foot.with_rd]; exact h) Foot.with_wr)) hd
      have hft : (footOf P ops fr σ k o).with σ.length σ'.length = (footOf P ops fr τ k o).with τ.length (patch pat e τ).length := by
        rw [h6]
        unfold Foot.with
        rw [patch_len, hl]
        by_cases he : e = []
        · subst he; simp
        · have : e.length ≠ 0 := fun h0 => he (List.eq_nil_of_length_eq_zero h0)
          rw [if_neg (by omega), if_neg (by omega), hd (h2 he)]
      rw [hft]
      exact .does v _ hw h5

theorem apartF_spec {f g : Foot} (h : apartF f g = true) : (∀ i ∈ f.wr, i ∉ g.rd ∧ i ∉ g.wr) ∧ (∀ i ∈ g.wr, i ∉ f.rd) ∧ (f.ext = true → g.dep = true → False) ∧ (g.ext = true → f.dep = true → False) ∧ (f.ext = true → g.ext = true → False) := by
  unfold apartF at h
  simp only [Bool.and_eq_true, List.all_eq_true, Bool.not_eq_true', List.contains_eq_mem, decide_eq_false_iff_not] at h
  obtain ⟨⟨⟨⟨h1, h2⟩, h3⟩, h4⟩, h5⟩ := h
  refine ⟨h1, h2, fun a b => ?_, fun a b => ?_, fun a b => ?_⟩
  · rw [a, b] at h3; cases h3
  · rw [a, b] at h4; cases h4
  · rw [a, b] at h5; cases h5

theorem patch_swap {p1 p2 : Nat → Option Ob} {e1 e2 : List Ob} {σ : Heap} (hd : ∀ i, p1 i = none ∨ p2 i = none) (he : e1 = [] ∨ e2 = []) (h1 : ∀ i, σ.length ≤ i → i < σ.length + e1.length → p2 i = none) (h2 : ∀ i, σ.length ≤ i → i < σ.length + e2.length → p1 i = none) :
    patch p2 e2 (patch p1 e1 σ) = patch p1 e1 (patch p2 e2 σ) := by
  apply List.ext_getElem?
  intro i
  rcases Nat.lt_or_ge i σ.length with h | h
  · rw [patch_lt (σ := patch p1 e1 σ) (by rw [patch_len]; omega), patch_lt (σ := patch p2 e2 σ) (by rw [patch_len]; omega), patch_lt (σ := σ) h, patch_lt (σ := σ) h]
    simp only [Option.map_map]
    cases σ[i]? with
    | none => rfl
    | some o =>
      simp only [Option.map_some, Function.comp]
      rcases hd i with h | h <;> rw [h] <;> simp
  · rcases he with rfl | rfl
    · rw [patch_ge (by rw [patch_len]; simpa using h), patch_len]
      simp only [List.length_nil, Nat.add_zero]
      rcases Nat.lt_or_ge i (σ.length + e2.length) with hl | hl
      · rw [patch_lt (by rw [patch_len]; exact hl), patch_ge h, h2 i h hl]
        cases e2[i - σ.length]? <;> rfl
      · rw [patch_ge (by rw [patch_len]; exact hl)]
        simp
        omega
    · rw [patch_ge (σ := patch p2 [] σ) (by rw [patch_len]; simpa using h), patch_len]
      simp only [List.length_nil, Nat.add_zero]
      rcases Nat.lt_or_ge i (σ.length + e1.length) with hl | hl
      · rw [patch_lt (by rw [patch_len]; exact hl), patch_ge h, h1 i h hl]
        cases e1[i - σ.length]? <;> rfl
      · rw [patch_ge (by rw [patch_len]; exact hl)]
        simp
        omega

theorem put_comm' {fr : Fr} {x y : Option Nat} {v u : AV} (h : ∀ d, x = some d → y ≠ some d) : put (put fr x v) y u = put (put fr y u) x v := by
  cases x with
  | none => rfl
  | some d =>
    cases y with
    | none => rfl
    | some d' =>
      simp only [put]
      exact List.set_comm _ _ (fun e => h d rfl (by rw [e]))

theorem same_put {arr : Array Oper} {d : Option Nat} {u : AV} (h : ∀ x, d = some x → x ∉ o.looksAt arr) : SameAt arr o fr (put fr d u) := by
  intro t ht
  exact put_ne (fun e => h t e ht)
theorem SameAt.symm {arr : Array Oper} (h : SameAt arr o fr fr') : SameAt arr o fr' fr := fun t ht => (h t ht).symm

/-- Two steps change places. -/
theorem Step.swap {arr : Array Oper} {o1 o2 : Oper} {k1 k2 : Nat} {v1 v2 : AV} {σ1 σ2 : Heap} {f1 f2 : Foot} (ha : o1.apart arr o2 = true) (hf : apartF f1 f2 = true)
    (h1 : Step P H run arr.toList o1 k1 fr σ v1 σ1 f1) (h2 : Step P H run arr.toList o2 k2 (put fr o1.dst v1) σ1 v2 σ2 f2) :
    ∃ τ, Step P H run arr.toList o2 k2 fr σ v2 τ f2 ∧ Step P H run arr.toList o1 k1 (put fr o2.dst v2) τ v1 σ2 f1 ∧ put (put fr o1.dst v1) o2.dst v2 = put (put fr o2.dst v2) o1.dst v1 := by
  obtain ⟨a1, a2, a3⟩ := Oper.apart_spec ha
  obtain ⟨b1, b2, b3, b4, b5⟩ := apartF_spec hf
  have h2' : Step P H run arr.toList o2 k2 fr σ1 v2 σ2 f2 := h2.congr (SameAt.symm (same_put a1))
  obtain ⟨p1, e1, c1, c2, c3, c4, c5⟩ := h1.local
  obtain ⟨p2, e2, d1, d2, d3, d4, d5⟩ := h2'.local
  have hp1 : ∀ i, i ∈ f2.rd ∨ i ∈ f2.wr → p1 i = none := fun i hi => by
    cases hpi : p1 i with
    | none => rfl
    | some q =>
      have := b1 i (c1 i (by rw [hpi]; simp))
      rcases hi with hi | hi
      · exact absurd hi this.1
      · exact absurd hi this.2
  have hp2 : ∀ i, i ∈ f1.rd ∨ i ∈ f1.wr → p2 i = none := fun i hi => by
    cases hpi : p2 i with
    | none => rfl
    | some q =>
      have hw := d1 i (by rw [hpi]; simp)
      rcases hi with hi | hi
      · exact absurd hi (b2 i hw)
      · exact absurd hw (b1 i hi).2
  have hpat : ∀ {p : Nat → Option Ob} {e : List Ob} {i : Nat} {τ : Heap}, p i = none → (τ.length ≤ i → ¬ i < τ.length + e.length) → (patch p e τ)[i]? = τ[i]? := fun {p e i τ} hn hi => by
    rcases Nat.lt_or_ge i τ.length with hl | hl
    · rw [patch_lt hl, hn]; cases τ[i]? <;> rfl
    · have := hi hl
      rw [patch_ge hl, List.getElem?_eq_none hl, List.getElem?_eq_none (by omega)]
  -- the second one first
  have hl1 : f2.dep = true → e1 = [] := fun hd => by
    by_cases he : e1 = []
    · exact he
    · exact (b3 (c2 he).1 hd).elim
  have s2 := d5 σ (fun i hi => by
    rw [c4]
    exact (hpat (hp1 i hi) fun hl hlt => by
      have hw := c3 i hl hlt
      rcases hi with hi | hi
      · exact (b1 i hw).1 hi
      · exact (b1 i hw).2 hi).symm) (fun hd => by rw [c4, patch_len, hl1 hd]; simp)
  have hlen1 : σ1.length = σ.length + e1.length := by rw [c4, patch_len]
  have hnew2 : e2 ≠ [] → σ1.length = σ.length := fun he => by
    have := hl1 (d2 he).2
    rw [hlen1, this]; simp
  have hl2 : f1.dep = true → e2 = [] := fun hd => by
    by_cases he : e2 = []
    · exact he
    · exact (b4 (d2 he).1 hd).elim
  have d3' : ∀ i, σ.length ≤ i → i < σ.length + e2.length → i ∈ f2.wr := fun i hi hlt => by
    by_cases he : e2 = []
    · subst he; simp at hlt; omega
    · have := hnew2 he
      exact d3 i (by omega) (by omega)
  have s1 := c5 (patch p2 e2 σ) (fun i hi => hpat (hp2 i hi) fun hl hlt => by
    have hw := d3' i hl hlt
    rcases hi with hi | hi
    · exact b2 i hw hi
    · exact (b1 i hi).2 hw) (fun hd => by rw [patch_len, hl2 hd]; simp)
  have hee : e1 = [] ∨ e2 = [] := by
    by_cases h1 : e1 = []
    · exact .inl h1
    · by_cases h2 : e2 = []
      · exact .inr h2
      · exact (b5 (c2 h1).1 (d2 h2).1).elim
  have heq : patch p1 e1 (patch p2 e2 σ) = σ2 := by
    rw [d4, c4]
    refine (patch_swap (fun i => ?_) hee (fun i hi hlt => hp2 i (.inr (c3 i hi hlt))) (fun i hi hlt => hp1 i (.inr (d3' i hi hlt)))).symm
    cases hpi : p1 i with
    | none => exact .inl rfl
    | some q => exact .inr (hp2 i (.inr (c1 i (by rw [hpi]; simp))))
  rw [heq] at s1
  refine ⟨_, s2, s1.congr (same_put a3), put_comm' a2⟩

end
end Go.Den
