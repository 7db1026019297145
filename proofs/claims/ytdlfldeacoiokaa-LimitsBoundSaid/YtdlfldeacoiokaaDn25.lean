/- Calls that recover; every run of the interpreter is right. -/
import Derived.Test.YtdlfldeacoiokaaDn24
namespace Go.Den
open Go

/-- The caller's state, while the call that it put off runs. -/
def StR (pv0 : Option E) (u : FrameMode) (pv : Option E) (u' : FrameMode) : Prop :=
  (pv = pv0 ∧ u' = u) ∨ ∃ x cv, pv0 = some x ∧ pv = none ∧ u' = .panicking [{ v := cv, recovered := true }]

section
variable {P : Program} {H : Hints} {run : RunF} {loop : Code → Fr → Heap → Option Out} {r : Res} {σ' σ0 : Heap} {ρ0 : Gr} {S0 : Cells} {w0 : World} {fn : Func} {pv0 : Option E} {u : FrameMode} {c0 : Frame} {cs : List Frame} {C : Ctx}

theorem run_recover {ev : Operand → Value} {o : Oper} {w : World} (h : isRecover o = true) : (execOp ev o).run P w = .ok .recover w := by
  unfold isRecover at h
  split at h
  · rename_i args ats hop
    simp only [execOp, hop, resolve, Sem.run_bind, Sem.run_pure, Result.andThen_ok, invoke]
    rfl
  · cases h

/-- What such a piece of code came to. -/
def OutPostR (P : Program) (pv0 : Option E) (u : FrameMode) (c0 : Frame) (cs : List Frame) (out : Out) (pv : Option E) (σ0 : Heap) (ρ0 : Gr) (S0 : Cells) (w0 : World) (e : Exit) (a : Act) (cs' : List Frame) (w : World) : Prop :=
  ∃ ρ S u', cs' = { c0 with mode := u' } :: cs ∧ StR pv0 u pv u' ∧ a.defers = [] ∧ Rel P out.hp ρ S w ∧ Ext σ0 ρ0 S0 w0 out.hp ρ S w ∧ FR P out.hp ρ S w out.fr a.tmps ∧ ExR P S w out.ex e

theorem recover_some {x : E} {ρ S w} {u' : FrameMode} (hm : ModeOk P w0 S0 pv0 u) (he : Ext σ0 ρ0 S0 w0 σ' ρ S w) (hs : StR pv0 u (some x) u') :
    ∃ cv, VE P w S x cv ∧ recoverD ({ c0 with mode := u' } :: cs) = some (cv, { c0 with mode := .panicking [{ v := cv, recovered := true }] } :: cs) ∧ StR pv0 u none (.panicking [{ v := cv, recovered := true }]) := by
  rcases hs with ⟨h1, rfl⟩ | ⟨x', cv, _, h2, _⟩
  · subst h1
    obtain ⟨cv, hv, rfl⟩ := hm
    exact ⟨cv, hv.mono he.cell, rfl, .inr ⟨x, cv, rfl, rfl, rfl⟩⟩
  · cases h2

theorem recover_none {S w} {u' : FrameMode} (hm : ModeOk P w S pv0 u) (hs : StR pv0 u none u') : recoverD ({ c0 with mode := u' } :: cs) = none := by
  rcases hs with ⟨h1, rfl⟩ | ⟨x', cv, _, _, rfl⟩
  · subst h1
    have : u' = .returning := hm
    subst this
    rfl
  · rfl

theorem denOpsR_ok {arr : Array Oper} {K : Fr → Heap → Option E → T} {Q : Exit → Act → List Frame → World → Prop} (hm : ModeOk C.P w0 S0 pv0 u) : ∀ (l : List Oper) (i : Nat) (fr : Fr) (σ : Heap) (pv : Option E) (ρ : Gr) (S : Cells) (w : World) (a : Act) (u' : FrameMode),
    arr.toList.drop i = l → (denOpsR C arr.toList l fr σ pv K).runs run loop = some (r, σ') → StR pv0 u pv u' → a.defers = [] → Rel C.P σ ρ S w → Ext σ0 ρ0 S0 w0 σ ρ S w → FR C.P σ ρ S w fr a.tmps →
    (∀ (fr' : Fr) (σ1 : Heap) (pv' : Option E) (ρ' : Gr) (S' : Cells) (w' : World) (a' : Act) (u2 : FrameMode), StR pv0 u pv' u2 → a'.defers = [] → Rel C.P σ1 ρ' S' w' → Ext σ0 ρ0 S0 w0 σ1 ρ' S' w' → FR C.P σ1 ρ' S' w' fr' a'.tmps →
      (K fr' σ1 pv').runs run loop = some (r, σ') → Q .normal a' ({ c0 with mode := u2 } :: cs) w') → wpOpsS C.P arr Q (List.range' i l.length) a ({ c0 with mode := u' } :: cs) w
  | [], i, fr, σ, pv, ρ, S, w, a, u', hl, h, hs, hd, hr, he, hf, hK => hK fr σ pv ρ S w a u' hs hd hr he hf h
  | o :: rest, i, fr, σ, pv, ρ, S, w, a, u', hl, h, hs, hd, hr, he, hf, hK => by
    have hlen := congrArg List.length hl
    simp at hlen
    have ho : arr[i]? = some o := by
      have := congrArg (fun l => l[0]?) hl
      simpa using this
    have hl' : arr.toList.drop (i + 1) = rest := by rw [← List.drop_drop, hl]; rfl
    rw [List.length_cons, List.range'_succ]
    unfold denOpsR at h
    simp only [wpOpsS, ho]
    split at h
    · cases h
    · rename_i hg
      have hw : Region.wanted o (yielded arr a.tmps) = true := by unfold Region.wanted; rw [hg]
      rw [if_pos hw]
      by_cases hrec : isRecover o = true
      · rw [if_pos hrec] at h
        rw [run_recover hrec]
        simp only
        cases pv with
        | some x =>
          obtain ⟨cv, hv, h1, h2⟩ := recover_some (c0 := c0) (cs := cs) hm he hs
          rw [h1]
          simp only
          exact denOpsR_ok hm rest (i + 1) _ σ none ρ S w _ _ hl' h h2 (by rw [put_defers]; exact hd) hr he (hf.put o.dst (v := .e x) hv) hK
        | none =>
          have h1 : recoverD ({ c0 with mode := u' } :: cs) = none := by
            rcases hs with ⟨e1, rfl⟩ | ⟨x', cv, _, _, rfl⟩
            · subst e1
              have : u' = .returning := hm
              subst this; rfl
            · rfl
          rw [h1]
          simp only
          exact denOpsR_ok hm rest (i + 1) _ σ none ρ S w _ _ hl' h hs (by rw [put_defers]; exact hd) hr he (hf.put o.dst (v := .e .nili) .nili) hK
      · rw [if_neg hrec] at h
        split at h
        · rename_i ok v hev
          obtain ⟨rfl, h⟩ := go_must h
          have hev' : evalOp C.P arr.toList fr σ 0 o = some (true, v, σ) := by unfold evalOp; rw [hev]
          obtain ⟨n, cv, w', ρ', S', h1, h2, h3, h4, h5⟩ := evalOp_ok hr hf hev'
          have hnext : wpOpsS C.P arr Q (List.range' (i + 1) rest.length) (a.put o.dst cv) ({ c0 with mode := u' } :: cs) w' :=
            denOpsR_ok hm rest (i + 1) _ σ pv ρ' S' w' _ _ hl' h hs (by rw [put_defers]; exact hd) h3 (he.trans h4) ((hf.mono h4).put o.dst h5) hK
          rw [h1]
          rcases h2 with rfl | ⟨rfl, rfl⟩
          · simpa [Oper.upon] using hnext
          · simpa [Oper.upon] using hnext
        · cases h

theorem denCodeR_ok (hfo : C.P.follows .mixedOrders = true) (hp : PrimOk C.P C.H) (hrun : RunOk C.P run) (hloop : LoopOk C.P C.m loop) (h0 : σ0.length = C.m) (hm : ModeOk C.P w0 S0 pv0 u) : ∀ (c : Code) (fr : Fr) (σ : Heap) (pv : Option E) (K : Out → Option E → T) (Q : Exit → Act → List Frame → World → Prop),
    (denCodeR C c fr σ pv K).runs run loop = some (r, σ') → ∀ (ρ : Gr) (S : Cells) (w : World) (a : Act) (u' : FrameMode), StR pv0 u pv u' → a.defers = [] → Rel C.P σ ρ S w → Ext σ0 ρ0 S0 w0 σ ρ S w → FR C.P σ ρ S w fr a.tmps →
    (∀ (out : Out) (pv' : Option E) (e : Exit) (a' : Act) (cs' : List Frame) (w' : World), OutPostR C.P pv0 u c0 cs out pv' σ0 ρ0 S0 w0 e a' cs' w' → (K out pv').runs run loop = some (r, σ') → Q e a' cs' w') → c.wpS C.P Q a ({ c0 with mode := u' } :: cs) w := by
  -- a piece that does not recover
  have hplain : ∀ (c : Code) (fr : Fr) (σ : Heap) (pv : Option E) (K : Out → Option E → T) (Q : Exit → Act → List Frame → World → Prop),
    (denCode C c fr σ [] fun o => match o.df with | [] => K o pv | _ => .fail).runs run loop = some (r, σ') → ∀ (ρ : Gr) (S : Cells) (w : World) (a : Act) (u' : FrameMode), StR pv0 u pv u' → a.defers = [] → Rel C.P σ ρ S w → Ext σ0 ρ0 S0 w0 σ ρ S w → FR C.P σ ρ S w fr a.tmps →
    (∀ (out : Out) (pv' : Option E) (e : Exit) (a' : Act) (cs' : List Frame) (w' : World), OutPostR C.P pv0 u c0 cs out pv' σ0 ρ0 S0 w0 e a' cs' w' → (K out pv').runs run loop = some (r, σ') → Q e a' cs' w') → c.wpS C.P Q a ({ c0 with mode := u' } :: cs) w := by
    intro c fr σ pv K Q h ρ S w a u' hs hd hr he hf hK
    refine wpS_of_wp (denCode_ok (D := []) hfo hp hrun hloop h0 c fr σ [] _ (r, σ') _ h ρ S w a [] hr he hf hd .nil ?_)
    intro out e a' w' ho hk
    obtain ⟨ρ', S', ds, k0, k1, k2, k3, k4, k5⟩ := ho
    split at hk
    · rename_i hdf
      rw [hdf] at k1
      have := k1.nil_inv; subst this
      exact hK out pv e a' _ w' ⟨ρ', S', u', rfl, hs, k0, k2, k3, k4, k5⟩ hk
    · cases hk
  intro c
  induction c with
  | seq x y ihx ihy =>
    intro fr σ pv K Q h ρ S w a u' hs hd hr he hf hK
    unfold denCodeR at h
    refine wpS_seq (ihx fr σ pv _ _ h ρ S w a u' hs hd hr he hf ?_)
    rintro ⟨ex, fr', σ1, df'⟩ pv' e a' cs' w' hout hk
    obtain ⟨ρ', S', u2, rfl, k1, k2, k3, k4, k5, k6⟩ := id hout
    cases ex with
    | norm =>
      have : e = .normal := k6
      subst this
      exact ihy fr' σ1 pv' K Q hk ρ' S' w' a' u2 k1 k2 k3 k4 k5 hK
    | exit i => have : e = .exit i := k6; subst this; exact hK _ _ _ a' _ w' hout hk
    | ret => have : e = .ret := k6; subst this; exact hK _ _ _ a' _ w' hout hk
    | pan x => obtain ⟨cv, rfl, _⟩ := k6; exact hK _ _ _ a' _ w' hout hk
  | region id ops draw =>
    intro fr σ pv K Q h ρ S w a u' hs hd hr he hf hK
    unfold denCodeR at h
    split at h
    · split at h
      · cases h
      · rename_i hdraw
        have : draw = false := by simpa using hdraw
        subst this
        refine wpS_region ?_
        rw [List.range_eq_range']
        refine denOpsR_ok (arr := ops) (K := fun fr σ pv => K ⟨.norm, fr, σ, []⟩ pv) hm ops.toList 0 fr σ pv ρ S w a u' rfl h hs hd hr he hf ?_
        intro fr' σ1 pv' ρ' S' w' a' u2 k1 k2 k3 k4 k5 k6
        exact hK ⟨.norm, fr', σ1, []⟩ pv' .normal a' _ w' ⟨ρ', S', u2, rfl, k1, k2, k3, k4, k5, rfl⟩ k6
    · exact hplain _ fr σ pv K Q h ρ S w a u' hs hd hr he hf hK
  | _ =>
    intro fr σ pv K Q h ρ S w a u' hs hd hr he hf hK
    unfold denCodeR at h
    exact hplain _ fr σ pv K Q h ρ S w a u' hs hd hr he hf hK
end

/-! ### Whole functions -/

def Named (P : Program) : Prop := ∀ (f : FuncId) (fn : Func), P.funcs[f]? = some fn → (fn.name == "runtime.NumGoroutine") = false

section
variable {P : Program} {H : Hints} {run : RunF} {loop : LoopF}

theorem start_ok {σ : Heap} {ρ : Gr} {S : Cells} {w : World} {fn : Func} {args : List AV} {cargs : Array Value} (ha : ArgsOk P σ ρ S w args cargs) : FR P σ ρ S w (startFr fn args) (cargs ++ Array.replicate (fn.ntmps - cargs.size) undef) := by
  obtain ⟨hsz, ha⟩ := ha
  unfold startFr
  refine ⟨by simp [hsz], fun t v ht => ?_⟩
  by_cases htl : t < args.length
  · rw [List.getElem?_append_left htl] at ht
    obtain ⟨cv, h1, h2⟩ := ha t v ht
    exact ⟨cv, by rw [Array.getElem?_append_left (by omega)]; exact h1, h2.to3⟩
  · rw [List.getElem?_append_right (by omega), List.getElem?_replicate] at ht
    split at ht
    · injection ht with ht; subst ht
      refine ⟨undef, ?_, VA3_skip⟩
      rw [Array.getElem?_append_right (by omega), Array.getElem?_replicate, if_pos (by omega)]
    · cases ht

theorem leaving_exit {C : Ctx} {fn : Func} {o : Out} {loop : Code → Fr → Heap → Option Out} {ds : List Df} {σ : Heap} {i : Nat} (hne : ds = [] → False) : (leaving C fn o ds σ (.exit i)).runs run loop = none := by
  cases ds with
  | nil => exact (hne rfl).elim
  | cons d ds =>
    unfold leaving
    generalize closure σ 6 (addNew [] (d.args.flatMap AV.ids2)) = ids
    simp only
    split <;> rfl

theorem bodyRun_ok (hm : P.follows .mixedOrders = true) (hN : Named P) (hprim : PrimOk P H) (hrun : RunOk P run) (hloop : ∀ f m, LoopOk P m (loop f m)) : RunOk P (bodyRun P H run loop) := by
  intro md f args σ r σ' h
  unfold bodyRun bodyT at h
  split at h
  · rename_i g hg
    obtain ⟨⟨r', h'⟩, hq, hk⟩ := splice_inv h
    injection hk with hk; injection hk with e1 e2
    subst e1; subst e2
    exact hprim md f g args σ r' h' hg hq
  · split at h
    · cases h
    · rename_i fn hfn
      split at h
      · cases h
      · rename_i c hc
        refine ⟨⟨fn, hfn, hN f fn hfn, by rw [hc]; rfl⟩, fun ρ S w cargs hr ha => ?_⟩
        simp only at h
        have hst := start_ok (fn := fn) ha
        cases md with
        | none =>
          simp only at h ⊢
          refine calls_of_wp_defers hfn hc ?_
          refine denCode_ok (C := { P, m := σ.length, fid := f, H, md := none }) (σ0 := σ) (ρ0 := ρ) (S0 := S) (w0 := w) (D := []) hm hprim hrun (hloop f σ.length) rfl c _ σ [] _ (r, σ') _ h ρ S w _ [] hr (Ext.refl _ _ _ _) hst rfl .nil ?_
          intro out e a' w' ho hk
          obtain ⟨ρ', S', ds, k0, k1, k2, k3, k4, k5⟩ := ho
          rw [List.append_nil] at k0
          split at hk
          · rename_i hdf
            rw [hdf] at k1
            have := k1.nil_inv; subst this
            exact finish_ok hk k2 k3 k4 k5 k0
          · have hlv : ∀ u, LvR P S' w' out.ex u → Leaves P fn a'.tmps (RunPost P r σ' σ ρ S w) a'.defers u w' := fun u hu => by
              rw [k0]
              exact leaving_ok (C := { P, m := σ.length, fid := f, H, md := none }) hrun rfl _ _ _ ds ρ' S' w' u hk k2 k3 k4 k1 hu
            cases hex : out.ex with
            | norm => rw [hex] at k5 hlv; have : e = .normal := k5; subst this; exact hlv _ rfl
            | ret => rw [hex] at k5 hlv; have : e = .ret := k5; subst this; exact hlv _ rfl
            | pan x => rw [hex] at k5 hlv; obtain ⟨cv, rfl, hv⟩ := k5; exact hlv _ ⟨cv, rfl, hv⟩
            | exit i =>
              exfalso
              rw [hex] at hk
              rename_i hne
              exact absurd ((leaving_exit (run := run) hne).symm.trans hk) (by simp)
        | some pv =>
          simp only at h ⊢
          intro u hu
          refine callsD_of_wpS hfn hc ?_
          intro c0 cs hc0
          have hcs : c0 :: cs = { c0 with mode := u } :: cs := by subst hc0; rfl
          rw [hcs]
          refine denCodeR_ok (C := { P, m := σ.length, fid := f, H, md := some pv }) (σ0 := σ) (ρ0 := ρ) (S0 := S) (w0 := w) (pv0 := pv) (u := u) hm hprim hrun (hloop f σ.length) rfl hu c _ σ pv _ _ h ρ S w _ u (.inl ⟨rfl, rfl⟩) rfl hr (Ext.refl _ _ _ _) hst ?_
          intro out pv' e a' cs' w' ho hk
          obtain ⟨ρ', S', u2, rfl, k1, k2, k3, k4, k5, k6⟩ := ho
          split at hk
          · cases hk
          · rename_i hnp
            have hret : (out.ex = .norm ∨ out.ex = .ret) → ∃ v, (results fn a'.tmps).run P w' = .ok v w' ∧ RunPostD P u r σ' σ ρ S w (.returned v) u2 w' := fun hex => by
              obtain ⟨v, cv, ρ2, h1, h2, h3, h4, _⟩ := finish_val hk hex k3 k4 k5
              refine ⟨cv, h2, ρ2, S', h3, h4, ⟨cv, rfl⟩, ?_⟩
              rcases k1 with ⟨rfl, rfl⟩ | ⟨x, cv2, rfl, rfl, rfl⟩
              · have : (pv'.isSome && pv'.isNone) = false := by cases pv' <;> rfl
                rw [this] at h1
                subst h1
                exact rfl
              · subst h1
                exact ⟨cv2, rfl⟩
            cases hex : out.ex with
            | norm =>
              rw [hex] at k6
              have : e = .normal := k6
              subst this
              exact ⟨k2, u2, rfl, hret (.inl hex)⟩
            | ret =>
              rw [hex] at k6
              have : e = .ret := k6
              subst this
              exact ⟨k2, u2, rfl, hret (.inr hex)⟩
            | pan x => rw [hex] at hnp; exact absurd rfl hnp
            | exit i => unfold finish at hk; rw [hex] at hk; cases hk

theorem bodyLoop_ok (hm : P.follows .mixedOrders = true) (hprim : PrimOk P H) (hrun : RunOk P run) (hloop : ∀ f m, LoopOk P m (loop f m)) (f : FuncId) (m : Nat) : LoopOk P m (bodyLoop P H run loop f m) := by
  intro b fr σ out h σ0 ρ0 S0 w0 D h0 ρ S w a hr he hf hd
  exact round_ok (C := { P, m, fid := f, H, md := none }) hm hprim hrun (hloop f m) h0 h hr he hf hd

theorem runK_ok (hm : P.follows .mixedOrders = true) (hN : Named P) (hprim : PrimOk P H) : ∀ k, RunOk P (runK P H k) ∧ ∀ f m, LoopOk P m (loopK P H k f m)
  | 0 => ⟨fun md f args σ r σ' h => by simp [runK] at h, fun f m b fr σ out h => by simp [loopK] at h⟩
  | k + 1 => by
    obtain ⟨h1, h2⟩ := runK_ok hm hN hprim k
    have e1 : runK P H (k + 1) = bodyRun P H (runK P H k) (loopK P H k) := by funext md f args σ; rw [runK]
    have e2 : ∀ f m, loopK P H (k + 1) f m = bodyLoop P H (runK P H k) (loopK P H k) f m := fun f m => by funext b fr σ; rw [loopK]
    refine ⟨by rw [e1]; exact bodyRun_ok hm hN hprim h1 h2, fun f m => by rw [e2]; exact bodyLoop_ok hm hprim h1 h2 f m⟩
end
end Go.Den
