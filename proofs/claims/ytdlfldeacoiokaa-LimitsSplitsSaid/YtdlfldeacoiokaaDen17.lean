/- Regions whose operations come in their order. -/
import Derived.Test.YtdlfldeacoiokaaDen16
namespace Go.Den
open Go

section
variable {P : Program} {σ σ' : Heap} {ρ : Gr} {S : Cells} {w : World} {fr : Fr} {a : Act} {o : Oper}

theorem run_enter {ev : Operand → Value} {f : FuncId} {args : Array Operand} {ats : Array TypeId} (h : o.op = .call { callee := .value (.func f), args := args, argTypes := ats }) (he : ∀ f, ev (.func f) = .func (.func f) #[] #[])
    (hf : Enters P f) : (execOp ev o).run P w = .ok (.enter f (args.map ev)) w := by
  obtain ⟨fn, h1, h2, h3⟩ := hf
  have h2' : fn.name ≠ "runtime.NumGoroutine" := by simpa using h2
  have h3' : fn.body ≠ none := by intro e; rw [e] at h3; cases h3
  simp [execOp, h, go_sem, resolve, invoke, he, callFunc, h1, h2', h3']

theorem run_panic {ev : Operand → Value} {x : Operand} {t : TypeId} {v : Value} (h : o.op = .panic x) (e : ev x = .iface t v) :
    (execOp ev o).run P w = .halt (.panic (.iface t v)) w := by
  simp [execOp, h, go_sem, Instr.panic, e]

theorem eval_func (a : Act) (f : FuncId) : a.eval (.func f) = .func (.func f) #[] #[] := by simp [Act.eval]

theorem evalOp_still {ops : List Oper} {b : Bool} {v : AV} (h : evalOp P true ops fr σ o = some (b, v, σ')) : σ' = σ := by
  unfold evalOp at h
  simp only [if_true, Bool.true_or] at h
  repeat' split at h
  all_goals first
    | (cases h; done)
    | (injection h with h; injection h with _ h; injection h with _ h; exact h.symm)
    | (simp only [Option.map_eq_some_iff] at h; obtain ⟨_, _, h⟩ := h; injection h with _ h; injection h with _ h; exact h.symm)

theorem VA3_undef {cv : Value} : VA3 P σ ρ S w .undef cv := trivial
theorem VA3_skip : VA3 P σ ρ S w (.tup []) undef := ⟨#[], rfl, rfl, by simp⟩
theorem VA3_skip_inv {cv : Value} (h : VA3 P σ ρ S w (.tup []) cv) : cv = undef := by
  obtain ⟨arr, h1, h2, _⟩ := h
  rw [h1]; unfold undef
  rw [show arr = #[] from Array.eq_empty_of_size_eq_zero h2]

/-- The arguments of a call. -/
theorem args_ok (hf : FR P σ ρ S w fr a.tmps) {args : Array Operand} {ats : Array TypeId} {as : List AV} (hs : args.size = ats.size)
    (h : ((args.toList.zip ats.toList).mapM fun (x, t) => evalT P t fr x) = some as) :
    (args.map a.eval).size = as.length ∧ ∀ (j : Nat) (v : AV), as[j]? = some v → ∃ cv, (args.map a.eval)[j]? = some cv ∧ VA3 P σ ρ S w v cv := by
  obtain ⟨h1, h2⟩ := mapM_some_get h
  refine ⟨by rw [h1]; simp [hs], fun j v hj => ?_⟩
  obtain ⟨⟨x, t⟩, h3, h4⟩ := mapM_some_back h j v hj
  rw [List.getElem?_zip_eq_some] at h3
  refine ⟨a.eval x, ?_, evalT_ok hf h4⟩
  rw [Array.getElem?_map]
  have : args[j]? = some x := by simpa using h3.1
  rw [this]; rfl

theorem put_defers (a : Act) (d : Option Tmp) (v : Value) : (a.put d v).defers = a.defers := by cases d <;> rfl
end

section
variable {R : Type} {C : Ctx} {ops : List Oper} {σ : Heap} {ρ : Gr} {S : Cells} {w : World} {fr : Fr} {a : Act} {o : Oper} {r : R}

/-- One operation, whatever comes behind it. -/
def denGo (C : Ctx) (ops : List Oper) (o : Oper) (fr : Fr) (σ : Heap) (Kn : Fr → Heap → Option R) (Kp : E → Fr → Heap → Option R) : Option R :=
  match o.op with
  | .call { callee := .value (.func f), args, argTypes } =>
    match (args.toList.zip argTypes.toList).mapM fun (x, t) => evalT C.P t fr x with
    | some as => if args.size = argTypes.size then callK C o.type f as σ (fun v σ' => Kn (put fr o.dst v) σ') (fun x σ' => Kp x fr σ') else none
    | none => none
  | .panic x =>
    match evalO fr x with
    | some (.e (.ifc t v)) => Kp (.ifc t v) fr σ
    | _ => none
  | _ =>
    match evalOp C.P false ops fr σ o with
    | some (ok, v, σ') => cond ok (Kn (put fr o.dst v) σ') none
    | none => none

theorem OpOk.wp {P : Program} {v : AV} {σ' : Heap} {N : Act → World → Prop} {Q : Exit → Act → World → Prop} (h : OpOk P σ ρ S w a o v σ')
    (hN : ∀ cv w' ρ' S', Rel P σ' ρ' S' w' → Ext σ ρ S w σ' ρ' S' w' → VA3 P σ' ρ' S' w' v cv → N (a.put o.dst cv) w') : o.wp P a w N Q := by
  obtain ⟨n, cv, w', ρ', S', h1, h2, h3, h4, h5⟩ := h
  unfold Oper.wp
  rw [h1]
  rcases h2 with h2 | ⟨h2, h2'⟩
  · rw [h2, Oper.upon_value]; exact hN cv w' ρ' S' h3 h4 h5
  · rw [h2, Oper.upon_skip, ← h2']; exact hN cv w' ρ' S' h3 h4 h5

theorem denGo_ok (hrun : RunOk C.P C.run) {Kn : Fr → Heap → Option R} {Kp : E → Fr → Heap → Option R} {N : Act → World → Prop} {Q : Exit → Act → World → Prop}
    (h : denGo C ops o fr σ Kn Kp = some r) (hr : Rel C.P σ ρ S w) (hf : FR C.P σ ρ S w fr a.tmps) (hd : a.defers = [])
    (hN : ∀ (fr' : Fr) (σ' : Heap) (ρ' : Gr) (S' : Cells) (w' : World) (a' : Act), a'.defers = [] → Rel C.P σ' ρ' S' w' → Ext σ ρ S w σ' ρ' S' w' → FR C.P σ' ρ' S' w' fr' a'.tmps → Kn fr' σ' = some r → N a' w')
    (hp : ∀ (x : E) (fr' : Fr) (σ' : Heap) (ρ' : Gr) (S' : Cells) (w' : World) (a' : Act) (cv : Value), a'.defers = [] → Rel C.P σ' ρ' S' w' → Ext σ ρ S w σ' ρ' S' w' → FR C.P σ' ρ' S' w' fr' a'.tmps →
      VE C.P w' S' x cv → Kp x fr' σ' = some r → Q (.panic [{ v := cv, recovered := false }]) a' w') : o.wp C.P a w N Q := by
  unfold denGo at h
  split at h
  · rename_i f args ats hop
    split at h
    · rename_i as has
      by_cases hs : args.size = ats.size
      · rw [if_pos hs] at h
        obtain ⟨out, hout, hk⟩ := callK_inv h
        obtain ⟨h1, h2⟩ := args_ok hf hs has
        obtain ⟨hen, hc⟩ := CallOut_ok hrun hr h1 h2 hout
        unfold Oper.wp
        rw [run_enter hop (eval_func a) hen, Oper.upon_enter]
        refine Calls.mono hc ?_
        rintro e w' ⟨ρ', S', h3⟩
        cases out with
        | ret v σ' =>
          obtain ⟨h4, h5, cv, rfl, h6⟩ := h3
          exact hN _ σ' ρ' S' w' _ (by rw [put_defers]; exact hd) h4 h5 ((hf.mono h5).put o.dst h6) hk
        | pan x σ' =>
          obtain ⟨h4, h5, cv, rfl, h6⟩ := h3
          exact hp x fr σ' ρ' S' w' a cv hd h4 h5 (hf.mono h5) h6 hk
      · rw [if_neg hs] at h; cases h
    · cases h
  · rename_i x hop
    split at h
    · rename_i t v hx
      have hv : VE C.P w S (.ifc t v) (a.eval x) := evalO_ok hf hx
      unfold Oper.wp
      generalize he : a.eval x = cv at hv
      cases hv with
      | ifc _ _ u hu =>
        rw [run_panic hop he, Oper.upon_panic]
        exact hp _ fr σ ρ S w a _ hd hr (Ext.refl _ _ _ _) hf (.ifc t v u hu) h
    · cases h
  · split at h
    · rename_i ok v σ' he
      cases ok with
      | false => cases h
      | true =>
        rw [cond_true] at h
        refine OpOk.wp (evalOp_ok hr hf he) fun cv w' ρ' S' h1 h2 h3 => ?_
        exact hN _ σ' ρ' S' w' _ (by rw [put_defers]; exact hd) h1 h2 ((hf.mono h2).put o.dst h3) h
    · cases h

theorem FR.get {P : Program} (hf : FR P σ ρ S w fr a.tmps) {t : Nat} {v : AV} (h : fr[t]? = some v) : ∃ cv, a.tmps[t]? = some cv ∧ VA3 P σ ρ S w v cv := hf.2 t v h

theorem FR.bool {P : Program} (hf : FR P σ ρ S w fr a.tmps) {t : Nat} {b : Bool} (h : fr[t]? = some (.e (.bool b))) : a.tmps[t]? = some (.bool b) := by
  obtain ⟨cv, h1, h2⟩ := hf.get h
  have : VE P w S (.bool b) cv := h2
  cases this
  exact h1

/-- A slot that holds a boolean may be written out. -/
theorem FR.lit {P : Program} (hf : FR P σ ρ S w fr a.tmps) {t : Nat} {b b' : Bool} (h : fr[t]? = some (.e (.bool b))) (he : b = b') : FR P σ ρ S w (fr.set t (.e (.bool b'))) a.tmps := by
  subst he
  refine ⟨by simpa using hf.1, fun u v hu => ?_⟩
  rw [List.getElem?_set] at hu
  split at hu
  · rename_i e
    subst e
    split at hu
    · injection hu with hu; subst hu
      exact hf.get h
    · cases hu
  · exact hf.2 u v hu

theorem yielded_bool {arr : Array Oper} {j dj : Nat} {b : Bool} (h : dstOf arr.toList j = some dj) (hb : a.tmps[dj]? = some (.bool b)) : yielded arr a.tmps j = some b := by
  unfold dstOf at h
  unfold yielded
  have : (arr[j]?).bind (·.dst) = some dj := by simpa using h
  simp only [this, Option.bind_some, hb]

theorem yielded_undef {arr : Array Oper} {j dj : Nat} (h : dstOf arr.toList j = some dj) (hb : a.tmps[dj]? = some undef) : yielded arr a.tmps j = none := by
  unfold dstOf at h
  unfold yielded
  have : (arr[j]?).bind (·.dst) = some dj := by simpa using h
  simp only [this, Option.bind_some, hb, undef]

/-- Slots of which nothing is said any more. -/
theorem FR.forget {P : Program} (hf : FR P σ ρ S w fr a.tmps) (d : Option Nat) (cv : Value) : FR P σ ρ S w (Go.Den.put fr d .undef) (a.put d cv).tmps := hf.put d VA3_undef

theorem put_len (fr : Fr) (d : Option Nat) (v : AV) : (put fr d v).length = fr.length := by cases d <;> simp [put]
theorem put_ne {fr : Fr} {d : Option Nat} {v : AV} {u : Nat} (h : d ≠ some u) : (put fr d v)[u]? = fr[u]? := by
  cases d with
  | none => rfl
  | some d => simp only [put]; rw [List.getElem?_set_ne]; rintro rfl; exact h rfl
theorem actput_ne {d : Option Nat} {v : Value} {u : Nat} (h : d ≠ some u) : (a.put d v).tmps[u]? = a.tmps[u]? := by
  cases d with
  | none => rfl
  | some d => simp only [Act.put]; rw [Array.getElem?_setIfInBounds_ne]; rintro rfl; exact h rfl

theorem foldl_put_ne : ∀ (g : List Oper) (fr : Fr) (u : Nat), (∀ q ∈ g, q.dst ≠ some u) → (g.foldl (fun a q => put a q.dst .undef) fr)[u]? = fr[u]?
  | [], _, _, _ => rfl
  | q :: g, fr, u, h => by
    simp only [List.foldl_cons]
    rw [foldl_put_ne g _ u fun q' hq => h q' (by simp [hq]), put_ne (h q (by simp))]

theorem evalGroup_ne {P : Program} {ops : List Oper} : ∀ (g : List Oper) (fr fr1 : Fr) (σ : Heap) (u : Nat), (∀ q ∈ g, q.dst ≠ some u) → evalGroup P ops g fr σ = some fr1 → fr1[u]? = fr[u]?
  | [], fr, fr1, _, _, _, h => by injection h with h; rw [h]
  | q :: g, fr, fr1, σ, u, hq, h => by
    unfold evalGroup at h
    split at h
    · rw [evalGroup_ne g _ fr1 σ u (fun q' hq' => hq q' (by simp [hq'])) h, put_ne (hq q (by simp))]
    · cases h

/-- The operations of a guard, where they are wanted: then what comes behind. -/
theorem group_wanted {P : Program} {arr : Array Oper} {Q : Exit → Act → World → Prop} {j dj : Nat} {b : Bool} (hdj : dstOf arr.toList j = some dj) :
    ∀ (g : List Oper) (fr fr0 fr1 : Fr) (ρ : Gr) (S : Cells) (w : World) (a : Act) (tail : List Oper), evalGroup P arr.toList g fr σ = some fr1 → (∀ q ∈ g, q.guard = some (j, b) ∧ q.dst ≠ some dj) →
      Rel P σ ρ S w → FR P σ ρ S w fr a.tmps → FR P σ ρ S w fr0 a.tmps → fr[dj]? = some (.e (.bool b)) → a.defers = [] →
      (∀ (ρ' : Gr) (S' : Cells) (w' : World) (a' : Act), Rel P σ ρ' S' w' → Ext σ ρ S w σ ρ' S' w' → FR P σ ρ' S' w' fr1 a'.tmps → FR P σ ρ' S' w' (g.foldl (fun a q => put a q.dst .undef) fr0) a'.tmps →
        a'.defers = [] → wpList P arr Q tail a' w') → wpList P arr Q (g ++ tail) a w
  | [], fr, fr0, fr1, ρ, S, w, a, tail, h, _, hr, hf, hf0, _, hd, k => by
    injection h with h; subst h
    exact k ρ S w a hr (Ext.refl _ _ _ _) hf hf0 hd
  | q :: g, fr, fr0, fr1, ρ, S, w, a, tail, h, hg, hr, hf, hf0, hb, hd, k => by
    unfold evalGroup at h
    split at h
    · rename_i v σ' he
      have hs := evalOp_still he
      rw [hs] at he
      refine wpList_step fun N hN => ?_
      have hw : Region.wanted q (yielded arr a.tmps) = true := by
        unfold Region.wanted
        rw [(hg q (by simp)).1]
        simp [yielded_bool hdj (hf.bool hb)]
      rw [if_pos hw]
      refine OpOk.wp (evalOp_ok hr hf he) fun cv w' ρ' S' h1 h2 h3 => hN _ _ ?_
      refine group_wanted hdj g _ (put fr0 q.dst .undef) fr1 ρ' S' w' _ tail h (fun q' hq' => hg q' (by simp [hq'])) h1 ((hf.mono h2).put q.dst h3) ((hf0.mono h2).forget q.dst cv) ?_ (by rw [put_defers]; exact hd) ?_
      · rw [put_ne (hg q (by simp)).2]; exact hb
      · intro ρ2 S2 w2 a2 k1 k2 k3 k4 k5
        exact k ρ2 S2 w2 a2 k1 (h2.trans k2) k3 k4 k5
    · cases h

/-- The operations of a guard, where they are not wanted. -/
theorem group_skipped {P : Program} {arr : Array Oper} {Q : Exit → Act → World → Prop} {j dj : Nat} {b w0 : Bool} (hdj : dstOf arr.toList j = some dj) (hne : b ≠ w0) :
    ∀ (g : List Oper) (fr : Fr) (ρ : Gr) (S : Cells) (w : World) (a : Act) (tail : List Oper), (∀ q ∈ g, q.guard = some (j, w0) ∧ q.dst ≠ some dj) →
      FR P σ ρ S w fr a.tmps → fr[dj]? = some (.e (.bool b)) → a.defers = [] →
      (∀ (a' : Act), FR P σ ρ S w (g.foldl (fun a q => put a q.dst .undef) fr) a'.tmps → a'.defers = [] → wpList P arr Q tail a' w) → wpList P arr Q (g ++ tail) a w
  | [], fr, ρ, S, w, a, tail, _, hf, _, hd, k => k a hf hd
  | q :: g, fr, ρ, S, w, a, tail, hg, hf, hb, hd, k => by
    have hw : Region.wanted q (yielded arr a.tmps) = false := by
      unfold Region.wanted
      rw [(hg q (by simp)).1]
      simp only [yielded_bool hdj (hf.bool hb)]
      simpa using hne
    refine wpList_skip hw ?_
    refine group_skipped hdj hne g _ ρ S w _ tail (fun q' hq' => hg q' (by simp [hq'])) (hf.forget q.dst _) ?_ (by rw [put_defers]; exact hd) k
    rw [put_ne (hg q (by simp)).2]; exact hb

theorem groupTo_spec {dj : Nat} : ∀ {l g : List Oper} {p : Oper} {r : List Oper}, groupTo dj l = some (g, p, r) → l = g ++ p :: r
  | [], _, _, _, h => by cases h
  | o :: l, g, p, r, h => by
    unfold groupTo at h
    split at h
    · split at h
      · injection h with h; injection h with h1 h2; injection h2 with h2 h3; subst h1; subst h2; subst h3; rfl
      · obtain ⟨⟨g', p', r'⟩, h1, h2⟩ := Option.map_eq_some_iff.1 h
        injection h2 with h2 h3; injection h3 with h3 h4; subst h2; subst h3; subst h4
        rw [groupTo_spec h1]; rfl
    · obtain ⟨⟨g', p', r'⟩, h1, h2⟩ := Option.map_eq_some_iff.1 h
      injection h2 with h2 h3; injection h3 with h3 h4; subst h2; subst h3; subst h4
      rw [groupTo_spec h1]; rfl

theorem fused_spec {ops : List Oper} {dj j : Nat} {w0 : Bool} {l g r : List Oper} {x y : Operand} {d : Option Nat} (h : fused ops dj j w0 l = some (g, x, y, d, r)) :
    ∃ p : Oper, l = g ++ p :: r ∧ p.op = .pick (.tmp dj) x y ∧ p.guard = none ∧ p.dst = d ∧ (∀ q ∈ g, q.guard = some (j, w0) ∧ q.dst ≠ some dj) ∧ aside g (cond w0 y x) = true := by
  unfold fused at h
  split at h
  · rename_i g' p r' hg
    split at h
    · rename_i c x' y' hop hgd
      split at h
      · rename_i hc
        injection h with h; injection h with h1 h; injection h with h2 h; injection h with h3 h; injection h with h4 h5
        subst h1; subst h2; subst h3; subst h4; subst h5
        obtain ⟨h1, h2, _, h4⟩ := hc
        subst h1
        refine ⟨p, groupTo_spec hg, hop, hgd, rfl, fun q hq => ?_, h4⟩
        have := List.all_eq_true.1 h2 q hq
        simp only [Bool.and_eq_true, beq_iff_eq, bne_iff_ne] at this
        exact ⟨this.1.2, this.2⟩
      · cases h
    · cases h
  · cases h

theorem aside_spec {g : List Oper} {x : Operand} (h : aside g x = true) {fr fr' : Fr} (he : ∀ u, (∀ q ∈ g, q.dst ≠ some u) → fr'[u]? = fr[u]?) : evalO fr' x = evalO fr x := by
  by_cases hx : ∃ u, x = .tmp u
  case neg =>
    cases x with
    | tmp u => exact absurd ⟨u, rfl⟩ hx
    | const v => cases v <;> first | rfl | (rename_i p; cases p <;> rfl)
    | _ => rfl
  obtain ⟨u, rfl⟩ := hx
  simp only [evalO]
  refine he u fun q hq => ?_
  have := List.all_eq_true.1 (show (g.all fun q => q.dst != some u) = true from h) q hq
  simpa using this

theorem denOps_ok (hrun : RunOk C.P C.run) {arr : Array Oper} {Q : Exit → Act → World → Prop} : ∀ (n : Nat) (l : List Oper) (fr : Fr) (σ : Heap) (K : Fr → Heap → Option R) (Kp : E → Fr → Heap → Option R) (r : R),
    denOps C arr.toList n l fr σ K Kp = some r → ∀ (ρ : Gr) (S : Cells) (w : World) (a : Act), Rel C.P σ ρ S w → FR C.P σ ρ S w fr a.tmps → a.defers = [] →
    (∀ (fr' : Fr) (σ' : Heap) (ρ' : Gr) (S' : Cells) (w' : World) (a' : Act), a'.defers = [] → Rel C.P σ' ρ' S' w' → Ext σ ρ S w σ' ρ' S' w' → FR C.P σ' ρ' S' w' fr' a'.tmps → K fr' σ' = some r → Q .normal a' w') →
    (∀ (x : E) (fr' : Fr) (σ' : Heap) (ρ' : Gr) (S' : Cells) (w' : World) (a' : Act) (cv : Value), a'.defers = [] → Rel C.P σ' ρ' S' w' → Ext σ ρ S w σ' ρ' S' w' → FR C.P σ' ρ' S' w' fr' a'.tmps →
      VE C.P w' S' x cv → Kp x fr' σ' = some r → Q (.panic [{ v := cv, recovered := false }]) a' w') →
    wpList C.P arr Q l a w := by
  intro n
  induction n with
  | zero => intro l fr σ K Kp r h; simp [denOps] at h
  | succ n ih =>
    intro l fr σ K Kp r h ρ S w a hr hf hd hK hKp
    cases l with
    | nil => exact hK fr σ ρ S w a hd hr (Ext.refl _ _ _ _) hf h
    | cons o rest =>
      -- what comes behind, from any state
      have hrest : ∀ (fr' : Fr) (σ' : Heap) (ρ' : Gr) (S' : Cells) (w' : World) (a' : Act) (l' : List Oper), a'.defers = [] → Rel C.P σ' ρ' S' w' → Ext σ ρ S w σ' ρ' S' w' → FR C.P σ' ρ' S' w' fr' a'.tmps →
          denOps C arr.toList n l' fr' σ' K Kp = some r → wpList C.P arr Q l' a' w' := by
        intro fr' σ' ρ' S' w' a' l' h1 h2 h3 h4 h5
        refine ih l' fr' σ' K Kp r h5 ρ' S' w' a' h2 h4 h1 ?_ ?_
        · intro fr2 σ2 ρ2 S2 w2 a2 k1 k2 k3 k4 k5
          exact hK fr2 σ2 ρ2 S2 w2 a2 k1 k2 (h3.trans k3) k4 k5
        · intro x fr2 σ2 ρ2 S2 w2 a2 cv k1 k2 k3 k4 k5 k6
          exact hKp x fr2 σ2 ρ2 S2 w2 a2 cv k1 k2 (h3.trans k3) k4 k5 k6
      have hgo : ∀ (fr' : Fr), FR C.P σ ρ S w fr' a.tmps → denGo C arr.toList o fr' σ (fun f s => denOps C arr.toList n rest f s K Kp) Kp = some r → o.wp C.P a w (wpList C.P arr Q rest) Q := by
        intro fr' hf' h'
        refine denGo_ok hrun h' hr hf' hd ?_ ?_
        · intro fr2 σ2 ρ2 S2 w2 a2 k1 k2 k3 k4 k5
          exact hrest fr2 σ2 ρ2 S2 w2 a2 rest k1 k2 k3 k4 k5
        · intro x fr2 σ2 ρ2 S2 w2 a2 cv k1 k2 k3 k4 k5 k6
          exact hKp x fr2 σ2 ρ2 S2 w2 a2 cv k1 k2 k3 k4 k5 k6
      change (match o.guard with
        | none => denGo C arr.toList o fr σ (fun f s => denOps C arr.toList n rest f s K Kp) Kp
        | some (j, w0) =>
          match dstOf arr.toList j with
          | none => none
          | some dj =>
            match fr[dj]? with
            | some (.e (.bool b)) =>
              match fused arr.toList dj j w0 (o :: rest) with
              | some (g, x, y, d, r) =>
                match evalGroup C.P arr.toList g fr σ with
                | some fr1 =>
                  match evalO fr1 x, evalO fr1 y with
                  | some (.e (.bool bx)), some (.e (.bool by')) => denOps C arr.toList n r (put (g.foldl (fun a q => put a q.dst .undef) fr) d (.e (.bool (cond b bx by')))) σ K Kp
                  | _, _ => none
                | none => none
              | none => cond (b == w0) (denGo C arr.toList o (fr.set dj (.e (.bool w0))) σ (fun f s => denOps C arr.toList n rest f s K Kp) Kp) (denOps C arr.toList n rest (put (fr.set dj (.e (.bool (!w0)))) o.dst (.tup [])) σ K Kp)
            | some (.tup []) => denOps C arr.toList n rest (put fr o.dst (.tup [])) σ K Kp
            | _ => none) = some r at h
      split at h
      · rename_i hg
        refine wpList_plain hg fun N hN => ?_
        exact Oper.wp_mono hN (hgo fr hf h)
      · rename_i j w0 hg
        split at h
        · cases h
        · rename_i dj hdj
          split at h
          · rename_i b hb
            have hbt := hf.bool hb
            split at h
            · -- the operations of the guard at once
              rename_i g x y d rr hfu
              obtain ⟨p, hl, hpop, hpg, hpd, hgall, has⟩ := fused_spec hfu
              rw [hl]
              split at h
              · rename_i fr1 hev
                split at h
                · rename_i bx by' hx hy
                  by_cases hbw : b = w0
                  · subst hbw
                    refine group_wanted hdj g fr fr fr1 ρ S w a (p :: rr) hev hgall hr hf hf hb hd ?_
                    intro ρ' S' w' a' k1 k2 k3 k4 k5
                    refine wpList_plain hpg fun N hN => ?_
                    have hb1 : fr1[dj]? = some (.e (.bool b)) := by rw [evalGroup_ne g fr fr1 σ dj (fun q hq => (hgall q hq).2) hev]; exact hb
                    have ho : OpOk C.P σ ρ' S' w' a' p (.e (.bool (cond b bx by'))) σ := by
                      have := op_pick k1 k3 hpop (x := x) (y := y) (b := b) (c := .tmp dj) (by exact hb1) hx hy
                      cases b <;> exact this
                    refine OpOk.wp ho fun cv w2 ρ2 S2 m1 m2 m3 => hN _ _ ?_
                    refine hrest _ σ ρ2 S2 w2 _ rr (by rw [put_defers]; exact k5) m1 (k2.trans m2) ?_ h
                    rw [← hpd]
                    exact (k4.mono m2).put p.dst m3
                  · refine group_skipped hdj hbw g fr ρ S w a (p :: rr) hgall hf hb hd ?_
                    intro a' k1 k2
                    refine wpList_plain hpg fun N hN => ?_
                    have hb1 : (g.foldl (fun a q => put a q.dst .undef) fr)[dj]? = some (.e (.bool b)) := by rw [foldl_put_ne g fr dj fun q hq => (hgall q hq).2]; exact hb
                    have hsame : evalO (g.foldl (fun a q => put a q.dst .undef) fr) (cond w0 y x) = evalO fr1 (cond w0 y x) :=
                      aside_spec has fun u hu => by rw [foldl_put_ne g fr u hu, evalGroup_ne g fr fr1 σ u hu hev]
                    have hev' : VA3 C.P σ ρ S w (.e (.bool (cond b bx by'))) (cond b (a'.eval x) (a'.eval y)) := by
                      cases b <;> cases w0 <;> first | exact absurd rfl hbw | skip
                      · rw [show (cond true y x) = y from rfl, hy] at hsame; exact evalO_ok k1 hsame
                      · rw [show (cond false y x) = x from rfl, hx] at hsame; exact evalO_ok k1 hsame
                    have ho : OpOk C.P σ ρ S w a' p (.e (.bool (cond b bx by'))) σ := by
                      refine OpOk.pure hr (run_pick hpop ?_) hev'
                      exact eval_tmp (FR.bool k1 hb1)
                    refine OpOk.wp ho fun cv w2 ρ2 S2 m1 m2 m3 => hN _ _ ?_
                    refine hrest _ σ ρ2 S2 w2 _ rr (by rw [put_defers]; exact k2) m1 m2 ?_ h
                    rw [← hpd]
                    exact (k1.mono m2).put p.dst m3
                · cases h
              · cases h
            · -- one by one
              cases hbw : (b == w0) with
              | true =>
                rw [hbw, cond_true] at h
                have hbe : b = w0 := by simpa using hbw
                have hw : Region.wanted o (yielded arr a.tmps) = true := by
                  unfold Region.wanted
                  rw [hg]
                  simp [yielded_bool hdj hbt, hbe]
                refine wpList_step fun N hN => ?_
                rw [if_pos hw]
                exact Oper.wp_mono hN (hgo _ (hf.lit hb hbe) h)
              | false =>
                rw [hbw, cond_false] at h
                have hbe : b ≠ w0 := by simpa using hbw
                have hw : Region.wanted o (yielded arr a.tmps) = false := by
                  unfold Region.wanted
                  rw [hg]
                  simpa [yielded_bool hdj hbt] using hbe
                refine wpList_skip hw ?_
                refine hrest _ σ ρ S w _ rest (by rw [put_defers]; exact hd) hr (Ext.refl _ _ _ _) ?_ h
                exact (hf.lit hb (by cases b <;> cases w0 <;> simp at hbe ⊢)).put o.dst VA3_skip
          · rename_i hb
            obtain ⟨cv, h1, h2⟩ := hf.get hb
            rw [VA3_skip_inv h2] at h1
            have hw : Region.wanted o (yielded arr a.tmps) = false := by
              unfold Region.wanted
              rw [hg]
              simp [yielded_undef hdj h1]
            refine wpList_skip hw ?_
            exact hrest _ σ ρ S w _ rest (by rw [put_defers]; exact hd) hr (Ext.refl _ _ _ _) (hf.put o.dst VA3_skip) h
          · cases h
end
end Go.Den
