/- The interpreter without a bound on its steps: what it comes to from some number of steps on. -/
import Derived.Test.YtdlfldeacoiokaaDen21
namespace Go.Den
open Go

/-- From some number on. -/
def Ev (p : Nat → Prop) : Prop := ∃ k0, ∀ k, k0 ≤ k → p k

theorem Ev.all {p : Nat → Prop} (h : ∀ k, p k) : Ev p := ⟨0, fun k _ => h k⟩
theorem Ev.mono {p q : Nat → Prop} (h : Ev p) (hpq : ∀ k, p k → q k) : Ev q := let ⟨k0, hk⟩ := h; ⟨k0, fun k hl => hpq k (hk k hl)⟩
theorem Ev.and {p q : Nat → Prop} (h : Ev p) (h' : Ev q) : Ev fun k => p k ∧ q k :=
  let ⟨k0, hk⟩ := h; let ⟨k1, hk'⟩ := h'; ⟨max k0 k1, fun k hl => ⟨hk k (by omega), hk' k (by omega)⟩⟩

/-- A call, without what comes behind. -/
def postC (P : Program) (pans : Bool) (t : TypeId) (σ : Heap) (ids : List Nat) (σc : Heap) (rh : Res × Heap) : Option Come :=
  match σc with
  | [] =>
    match canonRes P t rh.1.val with
    | some v =>
      if pans then
        cond (rh.2.isEmpty) (cond rh.1.isPan (some (.pan rh.1.why σ)) (cond (okRes P t rh.1) (some (.ret v σ)) none)) none
      else cond (okRes P t rh.1 && rh.2.isEmpty) (some (.ret v σ)) none
    | none => none
  | σc =>
    match canonRes P t rh.1.val with
    | some v =>
      let h := backTo ids (likeHeap σc rh.2) σ
      if pans then
        cond (okHeap σc rh.2) (cond rh.1.isPan (some (.pan rh.1.why h)) (cond (okRes P t rh.1) (some (.ret (v.ren3 (unidx ids)) h)) none)) none
      else cond (okRes P t rh.1 && okHeap σc rh.2) (some (.ret (v.ren3 (unidx ids)) h)) none
    | none => none

def callR (C : Ctx) (t : TypeId) (f : FuncId) (args : List AV) (σ : Heap) : Option Come :=
  let as := args.map AV.calm
  let ids := closure σ 6 (addNew [] (as.flatMap AV.ids2))
  match subHeap σ ids with
  | none => none
  | some σc => (C.run f (as.map (AV.ren2 (idx ids))) σc).bind (postC C.P (C.pans f) t σ ids σc)

def comeK {R : Type} (K : AV → Heap → Option R) (Kp : E → Heap → Option R) : Come → Option R
  | .ret v h => K v h
  | .pan x h => Kp x h

theorem cond_bind {α β : Type} (b : Bool) (x y : Option α) (g : α → Option β) : (cond b x y).bind g = cond b (x.bind g) (y.bind g) := by cases b <;> rfl

theorem callK_eq {R : Type} (C : Ctx) (t : TypeId) (f : FuncId) (args : List AV) (σ : Heap) (K : AV → Heap → Option R) (Kp : E → Heap → Option R) :
    callK C t f args σ K Kp = (callR C t f args σ).bind (comeK K Kp) := by
  unfold callK callR
  simp only
  generalize closure σ 6 (addNew [] ((args.map AV.calm).flatMap AV.ids2)) = ids
  cases subHeap σ ids with
  | none => rfl
  | some σc =>
    simp only
    cases C.run f ((args.map AV.calm).map (AV.ren2 (idx ids))) σc with
    | none => rfl
    | some rh =>
      simp only [Option.bind_some]
      unfold postC
      cases σc with
      | nil =>
        simp only
        cases canonRes C.P t rh.1.val with
        | none => rfl
        | some v =>
          simp only
          cases C.pans f with
          | true => simp only [if_true, cond_bind, Option.bind_none, Option.bind_some, comeK]
          | false => simp only [Bool.false_eq_true, if_false, cond_bind, Option.bind_none, Option.bind_some, comeK]
      | cons o os =>
        simp only
        cases canonRes C.P t rh.1.val with
        | none => rfl
        | some v =>
          simp only
          cases C.pans f with
          | true => simp only [if_true, cond_bind, Option.bind_none, Option.bind_some, comeK]
          | false => simp only [Bool.false_eq_true, if_false, cond_bind, Option.bind_none, Option.bind_some, comeK]

section
variable (D : Ctx) (rk : Nat → FuncId → List AV → Heap → Option (Res × Heap)) (lk : Nat → Code → Fr → Heap → Option Out)

def at' (k : Nat) : Ctx := { D with run := rk k, loop := lk k }

variable {D rk lk}

def RunEv (D : Ctx) (rk : Nat → FuncId → List AV → Heap → Option (Res × Heap)) : Prop := ∀ f a s r, D.run f a s = some r → Ev fun k => rk k f a s = some r
def LoopEv (D : Ctx) (lk : Nat → Code → Fr → Heap → Option Out) : Prop := ∀ b fr s o, D.loop b fr s = some o → Ev fun k => lk k b fr s = some o

theorem callR_ev (hr : RunEv D rk) {t : TypeId} {f : FuncId} {args : List AV} {σ : Heap} {out : Come} (h : callR D t f args σ = some out) : Ev fun k => callR (at' D rk lk k) t f args σ = some out := by
  unfold callR at *
  simp only at *
  split at h
  · cases h
  · rename_i σc hs
    obtain ⟨rh, h1, h2⟩ := Option.bind_eq_some_iff.1 h
    refine (hr _ _ _ _ h1).mono fun k hk => ?_
    simp only [at', hk, Option.bind_some]
    exact h2

theorem callK_ev (hr : RunEv D rk) {R : Type} {r : R} {t : TypeId} {f : FuncId} {args : List AV} {σ : Heap} {K : AV → Heap → Option R} {Kp : E → Heap → Option R} {Kk : Nat → AV → Heap → Option R} {Kpk : Nat → E → Heap → Option R}
    (hK : ∀ v h, K v h = some r → Ev fun k => Kk k v h = some r) (hKp : ∀ x h, Kp x h = some r → Ev fun k => Kpk k x h = some r)
    (h : callK D t f args σ K Kp = some r) : Ev fun k => callK (at' D rk lk k) t f args σ (Kk k) (Kpk k) = some r := by
  rw [callK_eq] at h
  obtain ⟨out, h1, h2⟩ := Option.bind_eq_some_iff.1 h
  cases out with
  | ret v h => exact ((callR_ev hr h1).and (hK v h h2)).mono fun k hk => by rw [callK_eq, hk.1]; exact hk.2
  | pan x h => exact ((callR_ev hr h1).and (hKp x h h2)).mono fun k hk => by rw [callK_eq, hk.1]; exact hk.2

theorem denStill_ev (hr : RunEv D rk) {R : Type} {r : R} {ops : List Oper} {σ : Heap} {fr : Fr} {K : Fr → Option R} {Kk : Nat → Fr → Option R} (hK : ∀ f, K f = some r → Ev fun k => Kk k f = some r) : ∀ (l : List Oper) (vals : Vals),
    denStill D ops l vals fr σ K = some r → Ev fun k => denStill (at' D rk lk k) ops l vals fr σ (Kk k) = some r
  | [], vals, h => hK _ h
  | o :: rest, vals, h => by
    have hev : ∀ vals : Vals, (match evalOp D.P true ops (envOf vals fr o) σ o with
        | some (ok, v, _) => cond ok (denStill D ops rest (vals ++ [(o.dst, v)]) fr σ K) none
        | none => none) = some r → Ev fun k => (match evalOp D.P true ops (envOf vals fr o) σ o with
        | some (ok, v, _) => cond ok (denStill (at' D rk lk k) ops rest (vals ++ [(o.dst, v)]) fr σ (Kk k)) none
        | none => none) = some r := by
      intro vals h
      cases he : evalOp D.P true ops (envOf vals fr o) σ o with
      | none => rw [he] at h; cases h
      | some q =>
        obtain ⟨ok, v, σ'⟩ := q
        rw [he] at h
        simp only at h ⊢
        cases ok with
        | false => cases h
        | true => exact denStill_ev hr hK rest _ h
    have hcall : ∀ (vals : Vals) (f : FuncId) (args : Array Operand) (ats : Array TypeId), (match (args.toList.zip ats.toList).mapM fun (x, t) => evalT D.P t (envOf vals fr o) x with
        | some as => if args.size = ats.size then callK D o.type f as [] (fun v _ => denStill D ops rest (vals ++ [(o.dst, v)]) fr σ K) (fun _ _ => none) else none
        | none => none) = some r → Ev fun k => (match (args.toList.zip ats.toList).mapM fun (x, t) => evalT D.P t (envOf vals fr o) x with
        | some as => if args.size = ats.size then callK (at' D rk lk k) o.type f as [] (fun v _ => denStill (at' D rk lk k) ops rest (vals ++ [(o.dst, v)]) fr σ (Kk k)) (fun _ _ => none) else none
        | none => none) = some r := by
      intro vals f args ats h
      generalize (args.toList.zip ats.toList).mapM (fun (x, t) => evalT D.P t (envOf vals fr o) x) = q at h ⊢
      cases q with
      | none => cases h
      | some as =>
        simp only at h ⊢
        by_cases hs : args.size = ats.size
        · simp only [if_pos hs] at h ⊢
          exact callK_ev (lk := lk) hr (t := o.type) (f := f) (args := as) (σ := []) (K := fun v _ => denStill D ops rest (vals ++ [(o.dst, v)]) fr σ K) (Kp := fun _ _ => none)
            (Kk := fun k v _ => denStill (at' D rk lk k) ops rest (vals ++ [(o.dst, v)]) fr σ (Kk k)) (Kpk := fun _ _ _ => none)
            (fun v _ h => denStill_ev hr hK rest _ h) (fun _ _ h => by cases h) h
        · rw [if_neg hs] at h; cases h
    have hgo : ∀ vals : Vals, (match o.op with
          | .call { callee := .value (.func f), args, argTypes } =>
            match (args.toList.zip argTypes.toList).mapM fun (x, t) => evalT D.P t (envOf vals fr o) x with
            | some as => if args.size = argTypes.size then callK D o.type f as [] (fun v _ => denStill D ops rest (vals ++ [(o.dst, v)]) fr σ K) (fun _ _ => none) else none
            | none => none
          | _ =>
            match evalOp D.P true ops (envOf vals fr o) σ o with
            | some (ok, v, _) => cond ok (denStill D ops rest (vals ++ [(o.dst, v)]) fr σ K) none
            | none => none) = some r →
        Ev fun k => (match o.op with
          | .call { callee := .value (.func f), args, argTypes } =>
            match (args.toList.zip argTypes.toList).mapM fun (x, t) => evalT D.P t (envOf vals fr o) x with
            | some as => if args.size = argTypes.size then callK (at' D rk lk k) o.type f as [] (fun v _ => denStill (at' D rk lk k) ops rest (vals ++ [(o.dst, v)]) fr σ (Kk k)) (fun _ _ => none) else none
            | none => none
          | _ =>
            match evalOp D.P true ops (envOf vals fr o) σ o with
            | some (ok, v, _) => cond ok (denStill (at' D rk lk k) ops rest (vals ++ [(o.dst, v)]) fr σ (Kk k)) none
            | none => none) = some r := by
      intro vals h
      have h1 := hev vals
      have h2 := hcall vals
      generalize o.op = op at h ⊢
      cases op with
      | call c =>
        obtain ⟨callee, args, ats⟩ := c
        cases callee with
        | value x =>
          cases x with
          | func f => exact h2 f args ats h
          | _ => exact h1 h
        | _ => exact h1 h
      | _ => exact h1 h
    unfold denStill at h ⊢
    simp only at h ⊢
    split at h
    · rename_i j w0 hg
      split at h
      · rename_i hw
        simp only [if_pos hw]
        split at h
        · rename_i d b hb
          split at h
          · rename_i hd
            simp only [if_pos hd]
            cases hbw : (b == w0) with
            | true => rw [hbw, cond_true] at h; exact hgo _ h
            | false => rw [hbw, cond_false] at h; exact denStill_ev hr hK rest _ h
          · cases h
        · split at h
          · rename_i hd
            simp only [if_pos hd]
            exact denStill_ev hr hK rest _ h
          · cases h
        · cases h
      · cases h
    · exact hgo _ h

theorem denGo_ev (hr : RunEv D rk) {R : Type} {r : R} {ops : List Oper} {o : Oper} {fr : Fr} {σ : Heap} {Kn : Fr → Heap → Option R} {Kp : E → Fr → Heap → Option R} {Knk : Nat → Fr → Heap → Option R} {Kpk : Nat → E → Fr → Heap → Option R}
    (hKn : ∀ f s, Kn f s = some r → Ev fun k => Knk k f s = some r) (hKp : ∀ x f s, Kp x f s = some r → Ev fun k => Kpk k x f s = some r)
    (h : denGo D ops o fr σ Kn Kp = some r) : Ev fun k => denGo (at' D rk lk k) ops o fr σ (Knk k) (Kpk k) = some r := by
  have hev : (match evalOp D.P false ops fr σ o with
      | some (ok, v, σ') => cond ok (Kn (put fr o.dst v) σ') none
      | none => none) = some r → Ev fun k => (match evalOp D.P false ops fr σ o with
      | some (ok, v, σ') => cond ok (Knk k (put fr o.dst v) σ') none
      | none => none) = some r := by
    intro h
    cases he : evalOp D.P false ops fr σ o with
    | none => rw [he] at h; cases h
    | some q =>
      obtain ⟨ok, v, σ'⟩ := q
      rw [he] at h
      simp only at h ⊢
      cases ok with
      | false => cases h
      | true => exact hKn _ _ h
  have hcall : ∀ (f : FuncId) (args : Array Operand) (ats : Array TypeId), (match (args.toList.zip ats.toList).mapM fun (x, t) => evalT D.P t fr x with
      | some as => if args.size = ats.size then callK D o.type f as σ (fun v σ' => Kn (put fr o.dst v) σ') (fun x σ' => Kp x fr σ') else none
      | none => none) = some r → Ev fun k => (match (args.toList.zip ats.toList).mapM fun (x, t) => evalT D.P t fr x with
      | some as => if args.size = ats.size then callK (at' D rk lk k) o.type f as σ (fun v σ' => Knk k (put fr o.dst v) σ') (fun x σ' => Kpk k x fr σ') else none
      | none => none) = some r := by
    intro f args ats h
    generalize (args.toList.zip ats.toList).mapM (fun (x, t) => evalT D.P t fr x) = q at h ⊢
    cases q with
    | none => cases h
    | some as =>
      simp only at h ⊢
      by_cases hs : args.size = ats.size
      · simp only [if_pos hs] at h ⊢
        exact callK_ev (lk := lk) hr (t := o.type) (f := f) (args := as) (σ := σ) (K := fun v σ' => Kn (put fr o.dst v) σ') (Kp := fun x σ' => Kp x fr σ')
          (Kk := fun k v σ' => Knk k (put fr o.dst v) σ') (Kpk := fun k x σ' => Kpk k x fr σ')
          (fun v s h => hKn _ s h) (fun x s h => hKp x _ s h) h
      · rw [if_neg hs] at h; cases h
  have hpan : ∀ x : Operand, (match evalO fr x with
      | some (.e (.ifc t v)) => Kp (.ifc t v) fr σ
      | _ => none) = some r → Ev fun k => (match evalO fr x with
      | some (.e (.ifc t v)) => Kpk k (.ifc t v) fr σ
      | _ => none) = some r := by
    intro x h
    generalize evalO fr x = q at h ⊢
    split at h
    · exact hKp _ _ _ h
    · cases h
  unfold denGo at h
  unfold denGo
  generalize o.op = op at h ⊢
  cases op with
  | call c =>
    obtain ⟨callee, args, ats⟩ := c
    cases callee with
    | value x =>
      cases x with
      | func f => exact hcall f args ats h
      | _ => exact hev h
    | _ => exact hev h
  | panic x => exact hpan x h
  | _ => exact hev h

theorem denOps_ev (hr : RunEv D rk) {R : Type} {ops : List Oper} : ∀ (n : Nat) (l : List Oper) (fr : Fr) (σ : Heap) (K : Fr → Heap → Option R) (Kp : E → Fr → Heap → Option R) (Kk : Nat → Fr → Heap → Option R) (Kpk : Nat → E → Fr → Heap → Option R) (r : R),
    (∀ f s, K f s = some r → Ev fun k => Kk k f s = some r) → (∀ x f s, Kp x f s = some r → Ev fun k => Kpk k x f s = some r) →
    denOps D ops n l fr σ K Kp = some r → Ev fun k => denOps (at' D rk lk k) ops n l fr σ (Kk k) (Kpk k) = some r := by
  intro n
  induction n with
  | zero => intro l fr σ K Kp Kk Kpk r _ _ h; simp [denOps] at h
  | succ n ih =>
    intro l fr σ K Kp Kk Kpk r hK hKp h
    cases l with
    | nil => exact hK fr σ h
    | cons o rest =>
      have hgo : ∀ fr', denGo D ops o fr' σ (fun f s => denOps D ops n rest f s K Kp) Kp = some r →
          Ev fun k => denGo (at' D rk lk k) ops o fr' σ (fun f s => denOps (at' D rk lk k) ops n rest f s (Kk k) (Kpk k)) (Kpk k) = some r := by
        intro fr' h
        exact denGo_ev hr (fun f s h => ih rest f s K Kp Kk Kpk r hK hKp h) hKp h
      change (match o.guard with
        | none => denGo D ops o fr σ (fun f s => denOps D ops n rest f s K Kp) Kp
        | some (j, w0) =>
          match dstOf ops j with
          | none => none
          | some dj =>
            match fr[dj]? with
            | some (.e (.bool b)) =>
              match fused ops dj j w0 (o :: rest) with
              | some (g, x, y, d, r) =>
                match evalGroup D.P ops g fr σ with
                | some fr1 =>
                  match evalO fr1 x, evalO fr1 y with
                  | some (.e (.bool bx)), some (.e (.bool by')) => denOps D ops n r (put (g.foldl (fun a q => put a q.dst .undef) fr) d (.e (.bool (cond b bx by')))) σ K Kp
                  | _, _ => none
                | none => none
              | none => cond (b == w0) (denGo D ops o (fr.set dj (.e (.bool w0))) σ (fun f s => denOps D ops n rest f s K Kp) Kp) (denOps D ops n rest (put (fr.set dj (.e (.bool (!w0)))) o.dst (.tup [])) σ K Kp)
            | some (.tup []) => denOps D ops n rest (put fr o.dst (.tup [])) σ K Kp
            | _ => none) = some r at h
      change Ev fun k => (match o.guard with
        | none => denGo (at' D rk lk k) ops o fr σ (fun f s => denOps (at' D rk lk k) ops n rest f s (Kk k) (Kpk k)) (Kpk k)
        | some (j, w0) =>
          match dstOf ops j with
          | none => none
          | some dj =>
            match fr[dj]? with
            | some (.e (.bool b)) =>
              match fused ops dj j w0 (o :: rest) with
              | some (g, x, y, d, r) =>
                match evalGroup D.P ops g fr σ with
                | some fr1 =>
                  match evalO fr1 x, evalO fr1 y with
                  | some (.e (.bool bx)), some (.e (.bool by')) => denOps (at' D rk lk k) ops n r (put (g.foldl (fun a q => put a q.dst .undef) fr) d (.e (.bool (cond b bx by')))) σ (Kk k) (Kpk k)
                  | _, _ => none
                | none => none
              | none => cond (b == w0) (denGo (at' D rk lk k) ops o (fr.set dj (.e (.bool w0))) σ (fun f s => denOps (at' D rk lk k) ops n rest f s (Kk k) (Kpk k)) (Kpk k)) (denOps (at' D rk lk k) ops n rest (put (fr.set dj (.e (.bool (!w0)))) o.dst (.tup [])) σ (Kk k) (Kpk k))
            | some (.tup []) => denOps (at' D rk lk k) ops n rest (put fr o.dst (.tup [])) σ (Kk k) (Kpk k)
            | _ => none) = some r
      split at h
      · exact hgo fr h
      · rename_i j w0 hg
        split at h
        · cases h
        · rename_i dj hdj
          split at h
          · rename_i b hb
            split at h
            · rename_i g x y d rr hfu
              split at h
              · split at h
                · exact ih _ _ _ K Kp Kk Kpk r hK hKp h
                · cases h
              · cases h
            · cases hbw : (b == w0) with
              | true => rw [hbw, cond_true] at h; exact hgo _ h
              | false => rw [hbw, cond_false] at h; exact ih _ _ _ K Kp Kk Kpk r hK hKp h
          · exact ih _ _ _ K Kp Kk Kpk r hK hKp h
          · cases h

theorem denCode_ev (hr : RunEv D rk) (hl : LoopEv D lk) {R : Type} : ∀ (c : Code) (fr : Fr) (σ : Heap) (K : Out → Option R) (Kk : Nat → Out → Option R) (r : R), (∀ o, K o = some r → Ev fun k => Kk k o = some r) →
    denCode D c fr σ K = some r → Ev fun k => denCode (at' D rk lk k) c fr σ (Kk k) = some r := by
  intro c
  induction c with
  | skip => intro fr σ K Kk r hK h; exact hK _ h
  | label l => intro fr σ K Kk r hK h; exact hK _ h
  | region id ops draw =>
    intro fr σ K Kk r hK h
    unfold denCode at h ⊢
    cases draw with
    | true =>
      rw [if_pos rfl] at h
      simp only [if_true]
      simp only at h ⊢
      split at h
      · rename_i ho
        simp only [if_pos ho]
        refine denStill_ev hr (fun f h => ?_) _ _ h
        exact denOps_ev hr _ _ _ _ _ _ _ _ r (fun f s h => hK _ h) (fun x f s h => hK _ h) h
      · cases h
    | false =>
      rw [if_neg (by simp)] at h
      simp only [Bool.false_eq_true, if_false]
      exact denOps_ev hr _ _ _ _ _ _ _ _ r (fun f s h => hK _ h) (fun x f s h => hK _ h) h
  | seq x y ihx ihy =>
    intro fr σ K Kk r hK h
    unfold denCode at h ⊢
    refine ihx fr σ _ _ r ?_ h
    rintro ⟨ex, fr', σ'⟩ h
    cases ex with
    | norm => exact ihy _ _ K Kk r hK h
    | exit i => exact hK _ h
    | ret => exact hK _ h
    | pan x => exact hK _ h
  | cond c x y ihx ihy =>
    intro fr σ K Kk r hK h
    unfold denCode at h ⊢
    split at h
    · rename_i b hb
      cases b with
      | true => exact ihx _ _ K Kk r hK h
      | false => exact ihy _ _ K Kk r hK h
    · cases h
  | block i b ih =>
    intro fr σ K Kk r hK h
    unfold denCode at h ⊢
    refine ih fr σ _ _ r ?_ h
    rintro ⟨ex, fr', σ'⟩ h
    cases ex with
    | norm => exact hK _ h
    | ret => exact hK _ h
    | pan x => exact hK _ h
    | exit j =>
      simp only at h ⊢
      split at h
      · rename_i hj; simp only [if_pos hj]; exact hK _ h
      · rename_i hj; simp only [if_neg hj]; exact hK _ h
  | loop b _ =>
    intro fr σ K Kk r hK h
    unfold denCode at h ⊢
    split at h
    · rename_i i hi
      split at h
      · rename_i fr1 σ1 ht
        obtain ⟨out, h1, h2⟩ := Option.bind_eq_some_iff.1 h
        refine ((hl _ _ _ _ h1).and (hK out h2)).mono fun k hk => ?_
        simp only [at', ht, hk.1, Option.bind_some, hk.2]
      · cases h
    · cases h
  | exit i => intro fr σ K Kk r hK h; exact hK _ h
  | ret => intro fr σ K Kk r hK h; exact hK _ h
  | _ => intro fr σ K Kk r hK h; cases h

end

/-! ### The limit -/

section
variable (P : Program) (H : Hints)

open Classical in
noncomputable def run (f : FuncId) (args : List AV) (σ : Heap) : Option (Res × Heap) :=
  if h : ∃ r, Ev fun k => runK P H k f args σ = some r then some h.choose else none
open Classical in
noncomputable def loop (f : FuncId) (m : Nat) (b : Code) (fr : Fr) (σ : Heap) : Option Out :=
  if h : ∃ r, Ev fun k => loopK P H k f m b fr σ = some r then some h.choose else none

variable {P H}
theorem Ev.uniq {α : Type} {g : Nat → Option α} {x y : α} (h : Ev fun k => g k = some x) (h' : Ev fun k => g k = some y) : x = y := by
  obtain ⟨k0, hk⟩ := h.and h'
  obtain ⟨h1, h2⟩ := hk k0 (Nat.le_refl _)
  rw [h1] at h2; injection h2

theorem run_iff {f : FuncId} {args : List AV} {σ : Heap} {r : Res × Heap} : run P H f args σ = some r ↔ Ev fun k => runK P H k f args σ = some r := by
  unfold run
  constructor
  · intro h
    split at h
    · rename_i hh; injection h with h; rw [← h]; exact hh.choose_spec
    · cases h
  · intro h
    have hh : ∃ r, Ev fun k => runK P H k f args σ = some r := ⟨r, h⟩
    rw [dif_pos hh, hh.choose_spec.uniq h]

theorem loop_iff {f : FuncId} {m : Nat} {b : Code} {fr : Fr} {σ : Heap} {r : Out} : loop P H f m b fr σ = some r ↔ Ev fun k => loopK P H k f m b fr σ = some r := by
  unfold loop
  constructor
  · intro h
    split at h
    · rename_i hh; injection h with h; rw [← h]; exact hh.choose_spec
    · cases h
  · intro h
    have hh : ∃ r, Ev fun k => loopK P H k f m b fr σ = some r := ⟨r, h⟩
    rw [dif_pos hh, hh.choose_spec.uniq h]

theorem Ev.shift {p : Nat → Prop} (h : Ev fun k => p (k + 1)) : Ev p := by
  obtain ⟨k0, hk⟩ := h
  refine ⟨k0 + 1, fun k hl => ?_⟩
  obtain ⟨j, rfl⟩ : ∃ j, k = j + 1 := ⟨k - 1, by omega⟩
  exact hk j (by omega)

/-- A function's equation: its body, at the limit. -/
theorem run_of_body {f : FuncId} {args : List AV} {σ : Heap} {r : Res × Heap} (h : bodyRun P H (run P H) (loop P H) f args σ = some r) : run P H f args σ = some r := by
  rw [run_iff]
  refine Ev.shift ?_
  have e : ∀ k, runK P H (k + 1) f args σ = bodyRun P H (runK P H k) (loopK P H k) f args σ := fun k => by rw [runK]
  simp only [e]
  unfold bodyRun at h ⊢
  split at h
  · exact Ev.all fun _ => h
  · split at h
    · cases h
    · rename_i fn hfn
      split at h
      · cases h
      · rename_i c hc
        exact denCode_ev (D := { P, m := σ.length, live := H.live f, pans := H.pans, run := run P H, loop := loop P H f σ.length }) (rk := runK P H) (lk := fun k => loopK P H k f σ.length)
          (fun f a s r h => run_iff.1 h) (fun b fr s o h => loop_iff.1 h) c _ _ _ (fun _ => finish P fn σ.length) r (fun o h => Ev.all fun _ => h) h

def tailK (m : Nat) (live : Nat → List Nat) (lp : Code → Fr → Heap → Option Out) (b : Code) (o : Out) : Option Out :=
  match o.ex with
  | .norm =>
    match firstRegion b with
    | some i =>
      match tidy m (live i) o.fr o.hp with
      | some (fr1, σ1) => lp b fr1 σ1
      | none => none
    | none => none
  | _ => some o

theorem round_eq (C : Ctx) (b : Code) (fr : Fr) (σ : Heap) : round C b fr σ = denCode C b fr σ (tailK C.m C.live C.loop b) := by
  delta round
  generalize denCode (R := Out) C b fr σ = g
  refine congrArg g (funext fun o => ?_)
  unfold tailK
  cases o.ex with
  | norm =>
    simp only
    cases firstRegion b with
    | none => rfl
    | some i =>
      simp only
      cases tidy C.m (C.live i) o.fr o.hp <;> rfl
  | _ => rfl

theorem loop_of_body {f : FuncId} {m : Nat} {b : Code} {fr : Fr} {σ : Heap} {r : Out} (h : bodyLoop P H (run P H) (loop P H) f m b fr σ = some r) : loop P H f m b fr σ = some r := by
  rw [loop_iff]
  refine Ev.shift ?_
  have e : ∀ k, loopK P H (k + 1) f m b fr σ = bodyLoop P H (runK P H k) (loopK P H k) f m b fr σ := fun k => by rw [loopK]
  simp only [e]
  unfold bodyLoop at h ⊢
  simp only [round_eq] at h ⊢
  have key := denCode_ev (D := { P, m, live := H.live f, pans := H.pans, run := run P H, loop := loop P H f m }) (rk := runK P H) (lk := fun k => loopK P H k f m)
    (fun f a s r h => run_iff.1 h) (fun b fr s o h => loop_iff.1 h) b fr σ (tailK m (H.live f) (loop P H f m) b) (fun k => tailK m (H.live f) (loopK P H k f m) b) r ?_ h
  · exact key
  rintro ⟨ex, fr', σ'⟩ h
  cases ex with
  | norm =>
    unfold tailK at h ⊢
    simp only at h ⊢
    split at h
    · split at h
      · exact loop_iff.1 h
      · cases h
    · cases h
  | exit i => exact Ev.all fun _ => h
  | ret => exact Ev.all fun _ => h
  | pan x => exact Ev.all fun _ => h

/-- A run with a bound is a run. -/
theorem lawRuns_of {n : FuncId} {ts : List TypeId} (h : ∀ ess : List (List E), All2 (ParamTy P) ts ess → run P H n (List.zipWith (argOf P) ts ess) [] = some (.ret (.e (.bool true)), [])) : LawRuns P H n ts := by
  intro ess he
  obtain ⟨k0, hk⟩ := run_iff.1 (h ess he)
  exact ⟨k0, hk k0 (Nat.le_refl _)⟩
end
end Go.Den
