/- Dn5: texts Ze17 .. Ze19 in one. -/
import Derived.Test.YtapndkailgcboaaGreatDoorDn4
import Derived.Orders
/- Regions whose operations come in their order. -/
namespace Go.Den
open Go

section
variable {P : Program} {σ σ' : Heap} {ρ : Gr} {S : Cells} {w : World} {fr : Fr} {a : Act} {o : Oper}

theorem run_callFunc {f : FuncId} {args : Array Value} (hf : Enters P f) : (callFunc f args).run P w = .ok (.enter f args) w := by
  obtain ⟨fn, h1, h2, h3⟩ := hf
  have h2' : fn.name ≠ "runtime.NumGoroutine" := by simpa using h2
  have h3' : fn.body ≠ none := by intro e; rw [e] at h3; cases h3
  simp [callFunc, h1, h2', h3']

theorem run_enter {ev : Operand → Value} {c : Call} {x : Operand} {f : FuncId} {cap : Array Value} (h : o.op = .call c) (hc : c.callee = .value x) (he : ev x = .func (.func f) #[] cap)
    (hf : Enters P f) : (execOp ev o).run P w = .ok (.enter f (c.args.map ev ++ cap)) w := by
  simp only [execOp, h, resolve, hc, he, Deferred.ofValue, Sem.run_bind, Sem.run_pure, Result.andThen_ok, invoke]
  rw [run_callFunc hf]
  simp

theorem run_method {t : TypeId} {i : TypeInfo} {m : Method} {d : TypeDesc} {f : FuncId} {v : Value} {name : String} (hi : P.info? t = some i) (hm : i.methods.find? (·.name == name) = some m) (hd : P.underlying t = some d)
    (hp : ∀ e, d ≠ .pointer e) (hf : m.func = some (f, false)) (hpath : m.path.isEmpty = true) (n : Nat) : (method (n + 1) t v name).run P w = .ok (f, v) w := by
  have hp0 : m.path = #[] := by simpa using hpath
  have hp1 : m.path.toList = [] := by rw [hp0]
  simp only [method, typeInfo, Sem.run_bind, run_program, Result.andThen_ok, hi, Sem.run_pure, hm, hp1, follow, hf, receiverAt, run_underlying hd]
  cases d <;> first | exact absurd rfl (hp _) | rfl

theorem run_invoke {ev : Operand → Value} {c : Call} {x : Operand} {name : String} {t : TypeId} {v : Value} {f : FuncId} (h : o.op = .call c) (hc : c.callee = .invoke x name) (he : ev x = .iface t v)
    (hm : methodOf P t name = some f) (hf : Enters P f) : (execOp ev o).run P w = .ok (.enter f (#[v] ++ c.args.map ev)) w := by
  unfold methodOf at hm
  split at hm
  · rename_i i hi
    split at hm
    · rename_i m hmm
      split at hm
      · cases hm
      · rename_i d f' hnp hd hfun
        split at hm
        · rename_i hpath
          injection hm with hm; subst hm
          have hrm := run_method (w := w) (v := v) hi hmm hd (fun e he => hnp e he) hfun hpath (P.types.size + (Made.depth - 1))
          have e : P.types.size + (Made.depth - 1) + 1 = P.types.size + Made.depth := rfl
          rw [e] at hrm
          simp only [execOp, h, resolve, hc, he, Sem.run_bind, Sem.run_pure, Result.andThen_ok, invoke]
          have e1 : (#[Value.iface t v] ++ Array.map ev c.args)[0]? = some (.iface t v) := by rw [Array.getElem?_append_left (by simp)]; rfl
          have e2 : (#[Value.iface t v] ++ Array.map ev c.args).extract 1 (#[Value.iface t v] ++ Array.map ev c.args).size = Array.map ev c.args := by
            apply Array.ext'
            simp
            exact List.take_of_length_le (by simp)
          simp only [e1, callMethod, e2, Sem.run_bind, run_program, Result.andThen_ok, hrm]
          exact run_callFunc hf
        · cases hm
      · cases hm
    · cases hm
  · cases hm

theorem run_panic {ev : Operand → Value} {x : Operand} {t : TypeId} {v : Value} (h : o.op = .panic x) (e : ev x = .iface t v) :
    (execOp ev o).run P w = .halt (.panic (.iface t v)) w := by
  simp [execOp, h, go_sem, Instr.panic, e]

theorem eval_func (a : Act) (f : FuncId) : a.eval (.func f) = .func (.func f) #[] #[] := by simp [Act.eval]

theorem run_next_more {ev : Operand → Value} {x : Operand} {b : Nat} {s : ByteArray} {pos : Nat} (h : o.op = .next x true) (e : ev x = .pointer (some ⟨b, 0, none⟩)) (hh : w.heap[b]? = some (.stringIter s pos)) (hp : pos < s.size) :
    (execOp ev o).run P w = .ok (.value (.tuple #[.bool true, goInt pos, .int .i32 (Utf8.decode s pos).1])) { w with heap := w.heap.setIfInBounds b (.stringIter s (pos + (Utf8.decode s pos).2)) } := by
  simp [execOp, h, Instr.next, e, getObj, setObj, Sem.run, hh, hp]
theorem run_next_over {ev : Operand → Value} {x : Operand} {b : Nat} {s : ByteArray} {pos : Nat} (h : o.op = .next x true) (e : ev x = .pointer (some ⟨b, 0, none⟩)) (hh : w.heap[b]? = some (.stringIter s pos)) (hp : ¬ pos < s.size) :
    (execOp ev o).run P w = .ok (.value (.tuple #[.bool false])) w := by
  simp [execOp, h, Instr.next, e, getObj, Sem.run, hh, hp]

theorem VA3_undef {cv : Value} : VA3 P σ ρ S w .undef cv := trivial
theorem VA3_skip : VA3 P σ ρ S w (.tup []) undef := ⟨#[], rfl, rfl, by simp⟩
theorem VA3_skip_inv {cv : Value} (h : VA3 P σ ρ S w (.tup []) cv) : cv = undef := by
  obtain ⟨arr, h1, h2, _⟩ := h
  rw [h1]; unfold undef
  rw [show arr = #[] from Array.eq_empty_of_size_eq_zero h2]

/-- The arguments of a call. -/
theorem args_ok (hf : FR P σ ρ S w fr a.tmps) {args : Array Operand} {ats : Array TypeId} {as : List AV} (hs : args.size = ats.size)
    (h : ((args.toList.zip ats.toList).mapM fun (x, t) => evalT P t fr x) = some as) :
    (args.map a.eval).size = as.length ∧ ∀ (j : Nat) (v : AV), as[j]? = some v → ∃ cv, (args.map a.eval)[j]? = some cv ∧ VA3 P σ ρ S w v cv := by
  obtain ⟨h1, h2⟩ := mapM_some_get h
  refine ⟨by rw [h1]; simp [hs], fun j v hj => ?_⟩
  obtain ⟨⟨x, t⟩, h3, h4⟩ := mapM_some_back h j v hj
  rw [List.getElem?_zip_eq_some] at h3
  refine ⟨a.eval x, ?_, evalT_ok hf h4⟩
  rw [Array.getElem?_map]
  have : args[j]? = some x := by simpa using h3.1
  rw [this]; rfl

theorem put_defers (a : Act) (d : Option Tmp) (v : Value) : (a.put d v).defers = a.defers := by cases d <;> rfl

/-- Room for new objects. -/
theorem Rel.more (hr : Rel P σ ρ S w) (n : Nat) : Rel P (σ ++ List.replicate n .hole) (ρ ++ List.replicate n none) S w ∧ Ext σ ρ S w (σ ++ List.replicate n .hole) (ρ ++ List.replicate n none) S w := by
  have hs : ∀ {i : Nat} {q : Ob}, σ[i]? = some q → (σ ++ List.replicate n .hole)[i]? = some q := fun {i q} h => by
    rw [List.getElem?_append_left (List.getElem?_eq_some_iff.1 h).1]; exact h
  have hg : ∀ {i : Nat} {q : Ob}, σ[i]? = some q → (ρ ++ List.replicate n none)[i]? = ρ[i]? := fun {i q} h => by
    rw [List.getElem?_append_left (by rw [hr.len]; exact (List.getElem?_eq_some_iff.1 h).1)]
  have hb : ∀ {i b c : Nat}, (ρ ++ List.replicate n none)[i]? = some (some (b, c)) → ρ[i]? = some (some (b, c)) := fun {i b c} h => by
    rcases Nat.lt_or_ge i ρ.length with hi | hi
    · rwa [List.getElem?_append_left hi] at h
    · rw [List.getElem?_append_right hi, List.getElem?_replicate] at h
      split at h <;> simp at h
  have hbs : ∀ {i : Nat} {q : Ob}, (σ ++ List.replicate n .hole)[i]? = some q → σ[i]? = some q ∨ (q = .hole ∧ σ.length ≤ i) := fun {i q} h => by
    rcases Nat.lt_or_ge i σ.length with hi | hi
    · rw [List.getElem?_append_left hi] at h; exact .inl h
    · rw [List.getElem?_append_right hi, List.getElem?_replicate] at h
      split at h
      · injection h with h; exact .inr ⟨h.symm, hi⟩
      · cases h
  have he : Ext σ ρ S w (σ ++ List.replicate n .hole) (ρ ++ List.replicate n none) S w :=
    ⟨fun _ _ h => ⟨h, rfl⟩, fun i cs h => ⟨⟨cs, hs h⟩, hg h⟩, fun i t m h => .inl ⟨m, Nat.le_refl _, hs h, fun _ => hg h⟩, fun i r h => .inl ⟨r, rfl, Nat.le_refl _, hs h, fun _ => hg h⟩, fun i h => hs h, fun _ _ _ => rfl,
      fun i _ c h => .inr ⟨i, c, hb h⟩, fun _ _ h => .inl h, Nat.le_refl _, rfl, rfl, rfl⟩
  refine ⟨⟨by simp [hr.len], ?_, ?_, ?_, ?_, fun i b c h => hr.lt i b c (hb h), fun i j b c c' h h' => hr.inj i j b c c' (hb h) (hb h'), hr.cells, hr.glob.mono he⟩, he⟩
  · intro i cs h
    rcases hbs h with h | ⟨h, _⟩
    · obtain ⟨b, c, arr, T, h1, h2, h3, h4, h5⟩ := hr.box i cs h
      exact ⟨b, c, arr, T, (hg h).trans h1, h2, h3, fun j v hj => let ⟨h6, x, h7, h8⟩ := h4 j v hj; ⟨h6, x, h7, h8.mono he⟩, h5⟩
    · cases h
  · intro i et m b c h h'
    rcases hbs h with h | ⟨h, _⟩
    · exact hr.vec i et m b c h (hb h')
    · cases h
  · intro i r h
    rcases hbs h with h | ⟨h, _⟩
    · obtain ⟨b, c, ob, h1, h2, h3, h4⟩ := hr.raw i r h
      exact ⟨b, c, ob, (hg h).trans h1, h2, h3.mono he, h4⟩
    · cases h
  · intro i h
    rcases hbs h with h' | ⟨_, hi⟩
    · exact (hg h').trans (hr.hole i h')
    · have hlt := (List.getElem?_eq_some_iff.1 h).1
      simp at hlt
      rw [List.getElem?_append_right (by rw [hr.len]; exact hi), List.getElem?_replicate, if_pos (by rw [hr.len]; omega)]

/-- A block turns. -/
theorem TurnedAt.set {b : Nat} {ob : Obj} (h : b < w.heap.size) : TurnedAt w { w with heap := w.heap.setIfInBounds b ob } b ob :=
  ⟨by simp [h], fun k hk => Array.getElem?_setIfInBounds_ne (fun e => hk e.symm), by simp, rfl, rfl, rfl⟩

/-- A string's iterator moves on. -/
theorem Rel.setRaw (hr : Rel P σ ρ S w) {id b c : Nat} {r r' : Raw} {ob : Obj} (hb : σ[id]? = some (.raw r)) (hid : ρ[id]? = some (some (b, c))) (hk : r'.kind = r.kind) (hz : r.size ≤ r'.size) (hok : RawOk P σ ρ S w c r' ob) :
    Rel P (σ.set id (.raw r')) ρ S { w with heap := w.heap.setIfInBounds b ob } ∧ Ext σ ρ S w (σ.set id (.raw r')) ρ S { w with heap := w.heap.setIfInBounds b ob } :=
  hr.setRawAt hb hid (TurnedAt.set (hr.lt _ _ _ hid)) hk hz hok

/-- What a call enters. -/
theorem callOf_ok (hf : FR P σ ρ S w fr a.tmps) {c : Call} {f : FuncId} {as : List AV} (ho : o.op = .call c) (h : callOf P fr c = some (f, as)) :
    ∃ cargs : Array Value, cargs.size = as.length ∧ (∀ (j : Nat) (v : AV), as[j]? = some v → ∃ cv, cargs[j]? = some cv ∧ VA3 P σ ρ S w v cv) ∧ (Enters P f → (execOp a.eval o).run P w = .ok (.enter f cargs) w) := by
  unfold callOf at h
  split at h
  · rename_i hs
    split at h
    · rename_i as0 has
      obtain ⟨h1, h2⟩ := args_ok hf hs has
      have hplain : ∀ (x : Operand) (f' : FuncId), c.callee = .value x → a.eval x = .func (.func f') #[] #[] → f' = f → as0 = as →
          ∃ cargs : Array Value, cargs.size = as.length ∧ (∀ (j : Nat) (v : AV), as[j]? = some v → ∃ cv, cargs[j]? = some cv ∧ VA3 P σ ρ S w v cv) ∧ (Enters P f → (execOp a.eval o).run P w = .ok (.enter f cargs) w) := by
        rintro x f' hc hx rfl rfl
        exact ⟨_, h1, h2, fun hen => by rw [run_enter ho hc hx hen]; simp⟩
      split at h
      · rename_i f' hc
        injection h with h; injection h with h3 h4
        exact hplain _ _ hc (eval_func a f') h3 h4
      · rename_i u hc
        split at h
        · rename_i f' hu
          injection h with h; injection h with h3 h4
          have hx : VA1 P σ ρ S w (.fn f') (a.eval (.tmp u)) := evalO_ok hf (x := .tmp u) hu
          exact hplain _ _ hc hx h3 h4
        · rename_i f' ps hu
          injection h with h; injection h with h3 h4
          subst h3; subst h4
          obtain ⟨cap, hx, hcs, hcap⟩ : VA1 P σ ρ S w (.clo f' ps) (a.eval (.tmp u)) := evalO_ok hf (x := .tmp u) hu
          refine ⟨c.args.map a.eval ++ cap, by simp [hcs]; simpa using h1, fun j v hj => ?_, fun hen => run_enter ho hc hx hen⟩
          rcases Nat.lt_or_ge j as0.length with hl | hl
          · rw [List.getElem?_append_left hl] at hj
            obtain ⟨cv, h5, h6⟩ := h2 j v hj
            exact ⟨cv, by rw [Array.getElem?_append_left (by rw [h1]; exact hl)]; exact h5, h6⟩
          · rw [List.getElem?_append_right hl, List.getElem?_map] at hj
            obtain ⟨p, hp, rfl⟩ := Option.map_eq_some_iff.1 hj
            obtain ⟨b, c', h5, h6, h7⟩ := hcap _ p hp
            refine ⟨_, ?_, ⟨b, c', h5, h6, rfl⟩⟩
            rw [Array.getElem?_append_right (by rw [h1]; exact hl), h1]
            exact h7
        · cases h
      · rename_i u name hc
        split at h
        · rename_i t x hu
          split at h
          · rename_i f' v hm hun
            injection h with h; injection h with h3 h4
            subst h3; subst h4
            have hx : VE P w S (.ifc t x) (a.eval (.tmp u)) := evalO_ok hf (x := .tmp u) hu
            generalize hcv : a.eval (.tmp u) = cv at hx
            cases hx with
            | ifc _ _ vv hv =>
              refine ⟨#[vv] ++ c.args.map a.eval, by (have h1' : c.args.size = as0.length := by simpa using h1); simp; omega, fun j q hj => ?_, fun hen => run_invoke ho hc hcv hm hen⟩
              cases j with
              | zero =>
                simp at hj; subst hj
                exact ⟨vv, by rw [Array.getElem?_append_left (by simp)]; rfl, (unfold1_ok hun hv).to3⟩
              | succ j =>
                obtain ⟨cv, h5, h6⟩ := h2 j q (by simpa using hj)
                refine ⟨cv, ?_, h6⟩
                rw [Array.getElem?_append_right (by simp)]
                simpa using h5
          · cases h
        · cases h
      · cases h
    · cases h
  · cases h

end

section
variable {R : Type} {run : RunF} {loop : Code → Fr → Heap → Option Out} {lr : Res → Heap → Option R} {lo : Out → Option R} {r : R}
variable {C : Ctx} {D : List Deferred} {ops : List Oper} {σ : Heap} {ρ : Gr} {S : Cells} {w : World} {fr : Fr} {a : Act} {o : Oper}

theorem OpOk.wp {P : Program} {v : AV} {σ' : Heap} {N : Act → World → Prop} {Q : Exit → Act → World → Prop} (h : OpOk P σ ρ S w a o v σ')
    (hN : ∀ cv w' ρ' S', Rel P σ' ρ' S' w' → Ext σ ρ S w σ' ρ' S' w' → VA3 P σ' ρ' S' w' v cv → N (a.put o.dst cv) w') : o.wp P a w N Q := by
  obtain ⟨n, cv, w', ρ', S', h1, h2, h3, h4, h5⟩ := h
  unfold Oper.wp
  rw [h1]
  rcases h2 with h2 | ⟨h2, h2'⟩
  · rw [h2, Oper.upon_value]; exact hN cv w' ρ' S' h3 h4 h5
  · rw [h2, Oper.upon_skip, ← h2']; exact hN cv w' ρ' S' h3 h4 h5

/-- What one operation does. -/
inductive Does (P : Program) (H : Hints) (run : RunF) (ops : List Oper) (o : Oper) (fr : Fr) (σ : Heap) (k : Nat) : AV → Heap → Prop
  | op (v : AV) (σ' : Heap) (h : evalOp P ops fr σ k o = some (true, v, σ')) (hb : ∀ c, o.op = .call c → ∃ b, c.callee = .builtin b) : Does P H run ops o fr σ k v σ'
  | arr (v : AV) (σ' : Heap) (h : evalArr P fr σ k o = some (true, v, σ')) (hb : ∀ c, o.op = .call c → ∃ b, c.callee = .builtin b) (h0 : ops = []) : Does P H run ops o fr σ k v σ'
  | none (et : TypeId) (h : roomless P fr o = some (et, [])) (hb : ∀ c, o.op = .call c → ∃ b, c.callee = .builtin b) : Does P H run ops o fr σ k (.nilc et) σ
  | call (c : Call) (f : FuncId) (as : List AV) (v : AV) (σ' : Heap) (h : o.op = .call c) (hc : callOf P fr c = some (f, as)) (ho : CallOut H run f as σ (.ret v σ')) : Does P H run ops o fr σ k v σ'
  | more (x : Operand) (id : Nat) (s : List UInt8) (p : Nat) (q : Nat × Nat) (h : o.op = .next x true) (hx : evalO fr x = some (.itr id)) (hs : σ[id]? = some (.raw (.iter s p))) (hp : p < s.length) (hq : Utf8.decode ⟨s.toArray⟩ p = q) :
      Does P H run ops o fr σ k (.tup [.e (.bool true), .e (.int .i64 p), .e (.int .i32 q.1)]) (σ.set id (.raw (.iter s (p + q.2))))
  | over (x : Operand) (id : Nat) (s : List UInt8) (p : Nat) (h : o.op = .next x true) (hx : evalO fr x = some (.itr id)) (hs : σ[id]? = some (.raw (.iter s p))) (hp : ¬ p < s.length) :
      Does P H run ops o fr σ k (.tup [.e (.bool false)]) σ

/-- How one operation panics. -/
inductive Pans (P : Program) (H : Hints) (run : RunF) (o : Oper) (fr : Fr) (σ : Heap) : E → Heap → Prop
  | panic (x : Operand) (t : TypeId) (v : E) (h : o.op = .panic x) (hx : evalO fr x = some (.e (.ifc t v))) : Pans P H run o fr σ (.ifc t v) σ
  | call (c : Call) (f : FuncId) (as : List AV) (x : E) (σ' : Heap) (h : o.op = .call c) (hc : callOf P fr c = some (f, as)) (ho : CallOut H run f as σ (.pan x σ')) : Pans P H run o fr σ x σ'

theorem sp_nil {C : Ctx} {ops : List Oper} (h : C.H.arrF C.fid = true) : C.sp ops = [] := by unfold Ctx.sp; rw [if_pos h]

theorem ovT_go : ∀ {ov : List (Nat × Nat × AV)} {i j : Nat} {K : Option AV → T}, (ovT ov i j K).go run loop lr lo = some r → (K (ovAt ov i j)).go run loop lr lo = some r
  | [], _, _, _, h => h
  | (i0, j0, a) :: l, i, j, K, h => by
    unfold ovT at h
    simp only [ovAt]
    split at h
    · rename_i hj
      rw [hj]
      rcases go_br h with ⟨hi, h⟩ | ⟨hi, h⟩
      · rw [hi]; exact h
      · rw [hi]; exact ovT_go h
    · rename_i hj
      have hj : (j0 == j) = false := by simpa using hj
      rw [hj]; exact ovT_go h

theorem cellsT_go {P : Program} {ov : List (Nat × Nat × AV)} {y : E} {i : Nat} : ∀ {l : List (TypeId × Nat)} {K : List AV → T}, (cellsT P ov y i l K).go run loop lr lo = some r →
    ∃ cs, l.mapM (cellA P ov y i) = some cs ∧ (K cs).go run loop lr lo = some r
  | [], K, h => ⟨[], rfl, h⟩
  | p :: l, K, h => by
    unfold cellsT at h
    have h := ovT_go h
    cases hq : ovAt ov i p.2 with
    | some a =>
      rw [hq] at h
      obtain ⟨cs, h1, h2⟩ := cellsT_go h
      refine ⟨a :: cs, ?_, h2⟩
      have : cellA P ov y i p = some a := by unfold cellA; rw [hq]
      simp [List.mapM_cons, this, h1]
    | none =>
      rw [hq] at h
      simp only at h
      split at h
      · rename_i x hx
        obtain ⟨cs, h1, h2⟩ := cellsT_go h
        refine ⟨.e x :: cs, ?_, h2⟩
        have : cellA P ov y i p = some (.e x) := by unfold cellA; rw [hq]; simp [hx]
        simp [List.mapM_cons, this, h1]
      · cases h

theorem loadT_go {P : Program} {t : TypeId} {id n i j : Nat} {K : AV → T} (h : (loadT P t σ id n i j K).go run loop lr lo = some r) :
    ∃ et xs ov v, σ[id]? = some (.raw (.arr et xs ov)) ∧ n = xs.length ∧ loadArr P t et xs ov i j = some v ∧ (K v).go run loop lr lo = some r := by
  unfold loadT at h
  split at h
  · rename_i et xs ov hb
    split at h
    · rename_i l hfit
      obtain ⟨hn, h⟩ := go_must h
      obtain ⟨cs, h1, h2⟩ := cellsT_go h
      split at h2
      · rename_i v hv
        refine ⟨et, xs, ov, v, hb, of_decide_eq_true hn, ?_, h2⟩
        unfold loadArr
        rw [hfit]
        simp only
        rw [h1]
        exact hv
      · cases h2
    · cases h
  · cases h

theorem doneT_go {q : Option (Bool × AV × Heap)} {K : AV → Heap → T} (h : (doneT q K).go run loop lr lo = some r) : ∃ v σ', q = some (true, v, σ') ∧ (K v σ').go run loop lr lo = some r := by
  unfold doneT at h
  split at h
  · rename_i ok v σ'
    obtain ⟨rfl, h⟩ := go_must h
    exact ⟨v, σ', rfl, h⟩
  · cases h

theorem opT_go {k : Nat} {K : AV → Heap → T} (h : (opT C ops o fr σ k K).go run loop lr lo = some r) :
    ∃ v σ', (evalOp C.P ops fr σ k o = some (true, v, σ') ∨ (C.H.arrF C.fid = true ∧ evalArr C.P fr σ k o = some (true, v, σ'))) ∧ (K v σ').go run loop lr lo = some r := by
  unfold opT at h
  split at h
  · rename_i hc
    rcases go_br h with ⟨_, h⟩ | ⟨_, h⟩
    · obtain ⟨v, σ', hq, h⟩ := doneT_go h
      refine ⟨v, σ', ?_, h⟩
      cases ha : evalArr C.P fr σ k o with
      | none => rw [ha] at hq; exact .inl hq
      | some q => rw [ha] at hq; exact .inr ⟨hc.2, hq⟩
    · obtain ⟨v, σ', hq, h⟩ := doneT_go h
      exact ⟨v, σ', .inl hq, h⟩
  · obtain ⟨v, σ', hq, h⟩ := doneT_go h
    exact ⟨v, σ', .inl hq, h⟩

theorem denGo_inv {k : Nat} {Kn : Fr → Heap → T} {Kp : E → Heap → T} (hops : C.H.arrF C.fid = true → ops = []) (h : (denGo C ops o fr σ k Kn Kp).go run loop lr lo = some r) :
    (∃ v σ', Does C.P C.H run ops o fr σ k v σ' ∧ (Kn (put fr o.dst v) σ').go run loop lr lo = some r) ∨ ∃ x σ', Pans C.P C.H run o fr σ x σ' ∧ (Kp x σ').go run loop lr lo = some r := by
  unfold denGo at h
  split at h
  · rename_i x hop
    split at h
    · rename_i t v hx
      exact .inr ⟨_, _, .panic x t v hop hx, h⟩
    · cases h
  · rename_i x hop
    split at h
    · rename_i id hx
      split at h
      · rename_i s p hs
        rcases go_br h with ⟨hp, h⟩ | ⟨hp, h⟩
        · exact .inl ⟨_, _, .more x id s p _ hop hx hs (of_decide_eq_true hp) rfl, h⟩
        · exact .inl ⟨_, _, .over x id s p hop hx hs (of_decide_eq_false hp), h⟩
      · cases h
    · cases h
  · rename_i b args ats hop
    have hb : ∀ c, o.op = .call c → ∃ b, c.callee = .builtin b := fun c hc => by rw [hop] at hc; injection hc with hc; subst hc; exact ⟨b, rfl⟩
    have hrest : ∀ {h : T}, h = opT C ops o fr σ k (fun v σ' => Kn (put fr o.dst v) σ') → h.go run loop lr lo = some r → (∃ v σ', Does C.P C.H run ops o fr σ k v σ' ∧ (Kn (put fr o.dst v) σ').go run loop lr lo = some r) ∨ ∃ x σ', Pans C.P C.H run o fr σ x σ' ∧ (Kp x σ').go run loop lr lo = some r := by
      intro q hq h
      subst hq
      obtain ⟨v, σ', he | ⟨ha, he⟩, h⟩ := opT_go h
      · exact .inl ⟨_, _, .op v σ' he hb, h⟩
      · exact .inl ⟨_, _, .arr v σ' he hb (hops ha), h⟩
    split at h
    · rename_i et ys hrl
      rcases go_br h with ⟨hy, h⟩ | ⟨_, h⟩
      · have : ys = [] := by simpa using hy
        subst this
        exact .inl ⟨_, _, .none et hrl hb, h⟩
      · exact hrest rfl h
    · exact hrest rfl h
  · rename_i t len parts hop
    have hb : ∀ c, o.op = .call c → ∃ b, c.callee = .builtin b := fun c hc => by rw [hop] at hc; cases hc
    have hrest : ∀ {h : T}, h = opT C ops o fr σ k (fun v σ' => Kn (put fr o.dst v) σ') → h.go run loop lr lo = some r → (∃ v σ', Does C.P C.H run ops o fr σ k v σ' ∧ (Kn (put fr o.dst v) σ').go run loop lr lo = some r) ∨ ∃ x σ', Pans C.P C.H run o fr σ x σ' ∧ (Kp x σ').go run loop lr lo = some r := by
      intro q hq h
      subst hq
      obtain ⟨v, σ', he | ⟨ha, he⟩, h⟩ := opT_go h
      · exact .inl ⟨_, _, .op v σ' he hb, h⟩
      · exact .inl ⟨_, _, .arr v σ' he hb (hops ha), h⟩
    split at h
    · rename_i et ys hrl
      rcases go_br h with ⟨hy, h⟩ | ⟨_, h⟩
      · have : ys = [] := by simpa using hy
        subst this
        exact .inl ⟨_, _, .none et hrl hb, h⟩
      · exact hrest rfl h
    · exact hrest rfl h
  · rename_i t x hop
    have hb : ∀ c, o.op = .call c → ∃ b, c.callee = .builtin b := fun c hc => by rw [hop] at hc; cases hc
    split at h
    · rename_i id n i j hx
      obtain ⟨et, xs, ov, v, h1, h2, h3, h⟩ := loadT_go h
      refine .inl ⟨v, σ, .op v σ ?_ hb, h⟩
      unfold evalOp
      have hp : evalPure C.P ops fr o = none := by
        unfold evalPure
        rw [hop]
        simp only [hx]
      rw [hp]
      simp only
      unfold evalHeap
      rw [hop]
      simp only [hx, h1, h3, Option.map_some]
      rw [decide_eq_true h2]
    · obtain ⟨v, σ', he | ⟨ha, he⟩, h⟩ := opT_go h
      · exact .inl ⟨_, _, .op v σ' he hb, h⟩
      · exact .inl ⟨_, _, .arr v σ' he hb (hops ha), h⟩
  · rename_i c _ hop
    split at h
    · rename_i f as hc
      obtain ⟨out, hout, h⟩ := callT_inv h
      cases out with
      | ret v σ' => exact .inl ⟨_, _, .call c f as v σ' hop hc hout, h⟩
      | pan x σ' => exact .inr ⟨_, _, .call c f as x σ' hop hc hout, h⟩
    · cases h
  · rename_i hnl hnc
    obtain ⟨v, σ', he | ⟨ha, he⟩, h⟩ := opT_go h
    · exact .inl ⟨_, _, .op v σ' he (fun c hc => absurd hc (hnc c)), h⟩
    · exact .inl ⟨_, _, .arr v σ' he (fun c hc => absurd hc (hnc c)) (hops ha), h⟩

theorem roomless_ok {P : Program} {et : TypeId} (hr : Rel P σ ρ S w) (hf : FR P σ ρ S w fr a.tmps) (h : roomless P fr o = some (et, [])) : OpOk P σ ρ S w a o (.nilc et) σ := by
  unfold roomless at h
  split at h
  · rename_i args ats hop
    split at h
    · rename_i t tx x y hats hargs
      have e1 : ats = #[t, tx] := by rw [← hats]
      have e2 : args = #[x, y] := by rw [← hargs]
      subst e1; subst e2
      split at h
      · rename_i et' ht
        split at h
        · rename_i i fs et2 ys hi hfs hx hys
          split at h
          · rename_i hc
            obtain ⟨rfl, c2, c3⟩ := hc
            injection h with h; injection h with e1 e2; subst e1; subst e2
            obtain ⟨u, hu, hsrc⟩ := Option.bind_eq_some_iff.1 hys
            obtain ⟨news, n1, n2, n3⟩ := srcOf_ok hsrc hfs c3 (evalT_ok hf hu)
            obtain ⟨⟨A, h3⟩, h4⟩ : VA1 P σ ρ S w (.nilc et') (a.eval x) := evalO_ok hf hx
            have hn : news = [] := List.eq_nil_of_length_eq_zero (by rw [n2.1]; simp)
            subst hn
            have hs' : Src P i.size tx (a.eval y) 0 [] w := by rw [c2]; exact n1
            have hrun := run_append_nothing w t tx o.type et' i ht hi A 0 0 (Nat.le_refl _) (a.eval y) hs'
            exact OpOk.pure hr (run_append_op hop (by rw [h3]; exact hrun)) ⟨⟨A, rfl⟩, h4⟩
          · cases h
        · cases h
      · cases h
    · cases h
  · rename_i t parts hop
    split at h
    · rename_i et' hps ht
      split at h
      · rename_i fs sz hfs hsz
        injection h with h; injection h with e1 _; subst e1
        have hrun : (execOp a.eval o).run P w = .ok (.value (.slice (some ⟨w.heap.size, 0, none⟩) 0 0)) (w.alloc (.cells #[] et')) := by
          have h2 := run_sizeOf (w := w) hsz
          have e : parts = #[] := by rw [← Array.toArray_toList (xs := parts), hps]
          subst e
          have hlt : ¬ (0 > 2 ^ 24) := by decide
          simp only [execOp, hop, Instr.buildSlice, Sem.run_bind, run_underlying ht, Result.andThen_ok, h2, Nat.zero_mul, if_neg hlt, if_true, Sem.run_pure]
          have er : Array.range 0 = #[] := by decide
          simp only [List.map_toArray, List.map_nil, er, Instr.fill]
          rfl
        obtain ⟨r1, x1⟩ := hr.newCells (NewBlock.alloc w #[] et') (m := 0) (by simp)
        exact ⟨_, _, _, _, _, hrun, .inl rfl, r1, x1, ⟨_, rfl⟩, fs, hfs⟩
      · cases h
    · cases h
  · cases h

theorem Does.wp (hp : PrimOk C.P C.H) (hrun : RunOk C.P run) {k : Nat} {v : AV} {σ' : Heap} {N : Act → World → Prop} {Q : Exit → Act → World → Prop} (h : Does C.P C.H run ops o fr σ k v σ') (hr : Rel C.P σ ρ S w) (hf : FR C.P σ ρ S w fr a.tmps)
    (hN : ∀ (cv : Value) (ρ' : Gr) (S' : Cells) (w' : World), Rel C.P σ' ρ' S' w' → Ext σ ρ S w σ' ρ' S' w' → VA3 C.P σ' ρ' S' w' v cv → N (a.put o.dst cv) w') : o.wp C.P a w N Q := by
  cases h with
  | op v σ' h hb => exact OpOk.wp (evalOp_ok hr hf h) fun cv w' ρ' S' h1 h2 h3 => hN cv ρ' S' w' h1 h2 h3
  | arr v σ' h hb _ => exact OpOk.wp (evalArr_ok hr hf h) fun cv w' ρ' S' h1 h2 h3 => hN cv ρ' S' w' h1 h2 h3
  | none et h hb => exact OpOk.wp (roomless_ok hr hf h) fun cv w' ρ' S' h1 h2 h3 => hN cv ρ' S' w' h1 h2 h3
  | call c f as v σ' h hc ho =>
    obtain ⟨cargs, h1, h2, h3⟩ := callOf_ok (w := w) hf h hc
    obtain ⟨hen, hcall⟩ := CallOut_ok hp hrun hr h1 h2 ho
    unfold Oper.wp
    rw [h3 hen, Oper.upon_enter]
    refine Calls.mono hcall ?_
    rintro e w' ⟨ρ', S', h4, h5, cv, rfl, h6⟩
    exact hN cv ρ' S' w' h4 h5 h6
  | more x id s p q h hx hs hp hq =>
    subst hq
    obtain ⟨b, c, hid, _, e⟩ : VA1 C.P σ ρ S w (.itr id) (a.eval x) := evalO_ok hf hx
    obtain ⟨b', c', ob, g1, g2, g3, g4⟩ := hr.raw id _ hs
    rw [hid] at g1; injection g1 with g1; injection g1 with g1; injection g1 with g1 _; subst g1
    obtain ⟨sb, rfl, hsb⟩ := g3
    have hsb' : sb = ⟨s.toArray⟩ := by subst hsb; cases sb; simp
    have hsz : sb.size = s.length := by rw [← hsb]; exact Array.length_toList.symm
    have hp' : p < sb.size := by rw [hsz]; exact hp
    unfold Oper.wp
    rw [run_next_more h e g2 hp', Oper.upon_value]
    obtain ⟨r1, e1⟩ := hr.setRaw (r' := .iter s (p + (Utf8.decode sb p).2)) (ob := .stringIter sb (p + (Utf8.decode sb p).2)) hs hid rfl (Nat.le_refl _) ⟨sb, rfl, hsb⟩
    rw [hsb'] at r1 e1 ⊢
    refine hN _ _ _ _ r1 e1 ⟨_, rfl, rfl, fun j v hj => ?_⟩
    match j with
    | 0 => simp at hj; subst hj; exact ⟨_, rfl, VE.bool _⟩
    | 1 => simp at hj; subst hj; exact ⟨_, rfl, VE.int _ _⟩
    | 2 => simp at hj; subst hj; exact ⟨_, rfl, VE.int _ _⟩
    | j + 3 => simp at hj
  | over x id s p h hx hs hp =>
    obtain ⟨b, c, hid, _, e⟩ : VA1 C.P σ ρ S w (.itr id) (a.eval x) := evalO_ok hf hx
    obtain ⟨b', c', ob, g1, g2, g3, g4⟩ := hr.raw id _ hs
    rw [hid] at g1; injection g1 with g1; injection g1 with g1; injection g1 with g1 _; subst g1
    obtain ⟨sb, rfl, hsb⟩ := g3
    have hsz : sb.size = s.length := by rw [← hsb]; exact Array.length_toList.symm
    have hp' : ¬ p < sb.size := by rw [hsz]; exact hp
    unfold Oper.wp
    rw [run_next_over h e g2 hp', Oper.upon_value]
    refine hN _ _ _ _ hr (Ext.refl _ _ _ _) ⟨_, rfl, rfl, fun j v hj => ?_⟩
    match j with
    | 0 => simp at hj; subst hj; exact ⟨_, rfl, VE.bool _⟩
    | j + 1 => simp at hj

theorem Pans.wp (hp : PrimOk C.P C.H) (hrun : RunOk C.P run) {x : E} {σ' : Heap} {N : Act → World → Prop} {Q : Exit → Act → World → Prop} (h : Pans C.P C.H run o fr σ x σ') (hr : Rel C.P σ ρ S w) (hf : FR C.P σ ρ S w fr a.tmps)
    (hQ : ∀ (cv : Value) (ρ' : Gr) (S' : Cells) (w' : World), Rel C.P σ' ρ' S' w' → Ext σ ρ S w σ' ρ' S' w' → VE C.P w' S' x cv → Q (.panic [{ v := cv, recovered := false }]) a w') : o.wp C.P a w N Q := by
  cases h with
  | panic x t v h hx =>
    have hv : VE C.P w S (.ifc t v) (a.eval x) := evalO_ok hf hx
    unfold Oper.wp
    generalize he : a.eval x = cv at hv
    cases hv with
    | ifc _ _ u hu =>
      rw [run_panic h he, Oper.upon_panic]
      exact hQ _ ρ S w hr (Ext.refl _ _ _ _) (.ifc t v u hu)
  | call c f as x σ' h hc ho =>
    obtain ⟨cargs, h1, h2, h3⟩ := callOf_ok (w := w) hf h hc
    obtain ⟨hen, hcall⟩ := CallOut_ok hp hrun hr h1 h2 ho
    unfold Oper.wp
    rw [h3 hen, Oper.upon_enter]
    refine Calls.mono hcall ?_
    rintro e w' ⟨ρ', S', h4, h5, cv, rfl, h6⟩
    exact hQ cv ρ' S' w' h4 h5 h6

theorem denGo_ok (hp : PrimOk C.P C.H) (hrun : RunOk C.P run) {k : Nat} {Kn : Fr → Heap → T} {Kp : E → Heap → T} {N : Act → World → Prop} {Q : Exit → Act → World → Prop} (hops : C.H.arrF C.fid = true → ops = [])
    (h : (denGo C ops o fr σ k Kn Kp).go run loop lr lo = some r) (hr : Rel C.P σ ρ S w) (hf : FR C.P σ ρ S w fr a.tmps)
    (hN : ∀ (fr' : Fr) (σ' : Heap) (ρ' : Gr) (S' : Cells) (w' : World) (a' : Act), a'.defers = a.defers → Rel C.P σ' ρ' S' w' → Ext σ ρ S w σ' ρ' S' w' → FR C.P σ' ρ' S' w' fr' a'.tmps → (Kn fr' σ').go run loop lr lo = some r → N a' w')
    (hQ : ∀ (x : E) (σ' : Heap) (ρ' : Gr) (S' : Cells) (w' : World) (cv : Value), Rel C.P σ' ρ' S' w' → Ext σ ρ S w σ' ρ' S' w' → VE C.P w' S' x cv → (Kp x σ').go run loop lr lo = some r → Q (.panic [{ v := cv, recovered := false }]) a w') :
    o.wp C.P a w N Q := by
  rcases denGo_inv hops h with ⟨v, σ', hd, hk⟩ | ⟨x, σ', hd, hk⟩
  · exact hd.wp hp hrun hr hf fun cv ρ' S' w' h1 h2 h3 => hN _ σ' ρ' S' w' _ (put_defers _ _ _) h1 h2 ((hf.mono h2).put o.dst h3) hk
  · exact hd.wp hp hrun hr hf fun cv ρ' S' w' h1 h2 h3 => hQ x σ' ρ' S' w' cv h1 h2 h3 hk

theorem FR.get {P : Program} (hf : FR P σ ρ S w fr a.tmps) {t : Nat} {v : AV} (h : fr[t]? = some v) : ∃ cv, a.tmps[t]? = some cv ∧ VA3 P σ ρ S w v cv := hf.2 t v h

theorem FR.bool {P : Program} (hf : FR P σ ρ S w fr a.tmps) {t : Nat} {b : Bool} (h : fr[t]? = some (.e (.bool b))) : a.tmps[t]? = some (.bool b) := by
  obtain ⟨cv, h1, h2⟩ := hf.get h
  have : VE P w S (.bool b) cv := h2
  cases this
  exact h1

/-- A slot that holds a boolean may be written out. -/
theorem FR.lit {P : Program} (hf : FR P σ ρ S w fr a.tmps) {t : Nat} {b b' : Bool} (h : fr[t]? = some (.e (.bool b))) (he : b = b') : FR P σ ρ S w (fr.set t (.e (.bool b'))) a.tmps := by
  subst he
  refine ⟨by simpa using hf.1, fun u v hu => ?_⟩
  rw [List.getElem?_set] at hu
  split at hu
  · rename_i e
    subst e
    split at hu
    · injection hu with hu; subst hu
      exact hf.get h
    · cases hu
  · exact hf.2 u v hu

theorem yielded_bool {arr : Array Oper} {j dj : Nat} {b : Bool} (h : dstOf arr.toList j = some dj) (hb : a.tmps[dj]? = some (.bool b)) : yielded arr a.tmps j = some b := by
  unfold dstOf at h
  unfold yielded
  have : (arr[j]?).bind (·.dst) = some dj := by simpa using h
  simp only [this, Option.bind_some, hb]

theorem yielded_undef {arr : Array Oper} {j dj : Nat} (h : dstOf arr.toList j = some dj) (hb : a.tmps[dj]? = some undef) : yielded arr a.tmps j = none := by
  unfold dstOf at h
  unfold yielded
  have : (arr[j]?).bind (·.dst) = some dj := by simpa using h
  simp only [this, Option.bind_some, hb, undef]

/-- Slots of which nothing is said any more. -/
theorem FR.forget {P : Program} (hf : FR P σ ρ S w fr a.tmps) (d : Option Nat) (cv : Value) : FR P σ ρ S w (Go.Den.put fr d .undef) (a.put d cv).tmps := hf.put d VA3_undef

theorem put_len (fr : Fr) (d : Option Nat) (v : AV) : (put fr d v).length = fr.length := by cases d <;> simp [put]
theorem put_ne {fr : Fr} {d : Option Nat} {v : AV} {u : Nat} (h : d ≠ some u) : (put fr d v)[u]? = fr[u]? := by
  cases d with
  | none => rfl
  | some d => simp only [put]; rw [List.getElem?_set_ne]; rintro rfl; exact h rfl
theorem actput_ne {d : Option Nat} {v : Value} {u : Nat} (h : d ≠ some u) : (a.put d v).tmps[u]? = a.tmps[u]? := by
  cases d with
  | none => rfl
  | some d => simp only [Act.put]; rw [Array.getElem?_setIfInBounds_ne]; rintro rfl; exact h rfl

theorem foldl_put_ne : ∀ (g : List Oper) (fr : Fr) (u : Nat), (∀ q ∈ g, q.dst ≠ some u) → (g.foldl (fun a q => put a q.dst .undef) fr)[u]? = fr[u]?
  | [], _, _, _ => rfl
  | q :: g, fr, u, h => by
    simp only [List.foldl_cons]
    rw [foldl_put_ne g _ u fun q' hq => h q' (by simp [hq]), put_ne (h q (by simp))]

theorem evalGroup_ne {P : Program} {ops : List Oper} : ∀ (g : List Oper) (fr fr1 : Fr) (σ : Heap) (u : Nat), (∀ q ∈ g, q.dst ≠ some u) → evalGroup P ops g fr σ = some fr1 → fr1[u]? = fr[u]?
  | [], fr, fr1, _, _, _, h => by injection h with h; rw [h]
  | q :: g, fr, fr1, σ, u, hq, h => by
    unfold evalGroup at h
    split at h
    · rw [evalGroup_ne g _ fr1 σ u (fun q' hq' => hq q' (by simp [hq'])) h, put_ne (hq q (by simp))]
    · cases h

/-- The operations of a guard, where they are wanted: then what comes behind. -/
theorem group_wanted {P : Program} {arr : Array Oper} {Q : Exit → Act → World → Prop} {j dj : Nat} {b : Bool} (hdj : dstOf arr.toList j = some dj) :
    ∀ (g : List Oper) (fr fr0 fr1 : Fr) (ρ : Gr) (S : Cells) (w : World) (a : Act) (tail : List Oper), evalGroup P arr.toList g fr σ = some fr1 → (∀ q ∈ g, q.guard = some (j, b) ∧ q.dst ≠ some dj) →
      Rel P σ ρ S w → FR P σ ρ S w fr a.tmps → FR P σ ρ S w fr0 a.tmps → fr[dj]? = some (.e (.bool b)) → a.defers = D →
      (∀ (ρ' : Gr) (S' : Cells) (w' : World) (a' : Act), Rel P σ ρ' S' w' → Ext σ ρ S w σ ρ' S' w' → FR P σ ρ' S' w' fr1 a'.tmps → FR P σ ρ' S' w' (g.foldl (fun a q => put a q.dst .undef) fr0) a'.tmps →
        a'.defers = D → wpList P arr Q tail a' w') → wpList P arr Q (g ++ tail) a w
  | [], fr, fr0, fr1, ρ, S, w, a, tail, h, _, hr, hf, hf0, _, hd, k => by
    injection h with h; subst h
    exact k ρ S w a hr (Ext.refl _ _ _ _) hf hf0 hd
  | q :: g, fr, fr0, fr1, ρ, S, w, a, tail, h, hg, hr, hf, hf0, hb, hd, k => by
    unfold evalGroup at h
    split at h
    · rename_i v he
      refine wpList_step fun N hN => ?_
      have hw : Region.wanted q (yielded arr a.tmps) = true := by
        unfold Region.wanted
        rw [(hg q (by simp)).1]
        simp [yielded_bool hdj (hf.bool hb)]
      rw [if_pos hw]
      refine OpOk.wp (evalStill_ok hr hf he) fun cv w' ρ' S' h1 h2 h3 => hN _ _ ?_
      refine group_wanted hdj g _ (put fr0 q.dst .undef) fr1 ρ' S' w' _ tail h (fun q' hq' => hg q' (by simp [hq'])) h1 ((hf.mono h2).put q.dst h3) ((hf0.mono h2).forget q.dst cv) ?_ (by rw [put_defers]; exact hd) ?_
      · rw [put_ne (hg q (by simp)).2]; exact hb
      · intro ρ2 S2 w2 a2 k1 k2 k3 k4 k5
        exact k ρ2 S2 w2 a2 k1 (h2.trans k2) k3 k4 k5
    · cases h

/-- The operations of a guard, where they are not wanted. -/
theorem group_skipped {P : Program} {arr : Array Oper} {Q : Exit → Act → World → Prop} {j dj : Nat} {b w0 : Bool} (hdj : dstOf arr.toList j = some dj) (hne : b ≠ w0) :
    ∀ (g : List Oper) (fr : Fr) (ρ : Gr) (S : Cells) (w : World) (a : Act) (tail : List Oper), (∀ q ∈ g, q.guard = some (j, w0) ∧ q.dst ≠ some dj) →
      FR P σ ρ S w fr a.tmps → fr[dj]? = some (.e (.bool b)) → a.defers = D →
      (∀ (a' : Act), FR P σ ρ S w (g.foldl (fun a q => put a q.dst .undef) fr) a'.tmps → a'.defers = D → wpList P arr Q tail a' w) → wpList P arr Q (g ++ tail) a w
  | [], fr, ρ, S, w, a, tail, _, hf, _, hd, k => k a hf hd
  | q :: g, fr, ρ, S, w, a, tail, hg, hf, hb, hd, k => by
    have hw : Region.wanted q (yielded arr a.tmps) = false := by
      unfold Region.wanted
      rw [(hg q (by simp)).1]
      simp only [yielded_bool hdj (hf.bool hb)]
      simpa using hne
    refine wpList_skip hw ?_
    refine group_skipped hdj hne g _ ρ S w _ tail (fun q' hq' => hg q' (by simp [hq'])) (hf.forget q.dst _) ?_ (by rw [put_defers]; exact hd) k
    rw [put_ne (hg q (by simp)).2]; exact hb

theorem groupTo_spec {dj : Nat} : ∀ {l g : List Oper} {p : Oper} {r : List Oper}, groupTo dj l = some (g, p, r) → l = g ++ p :: r
  | [], _, _, _, h => by cases h
  | o :: l, g, p, r, h => by
    unfold groupTo at h
    split at h
    · split at h
      · injection h with h; injection h with h1 h2; injection h2 with h2 h3; subst h1; subst h2; subst h3; rfl
      · obtain ⟨⟨g', p', r'⟩, h1, h2⟩ := Option.map_eq_some_iff.1 h
        injection h2 with h2 h3; injection h3 with h3 h4; subst h2; subst h3; subst h4
        rw [groupTo_spec h1]; rfl
    · obtain ⟨⟨g', p', r'⟩, h1, h2⟩ := Option.map_eq_some_iff.1 h
      injection h2 with h2 h3; injection h3 with h3 h4; subst h2; subst h3; subst h4
      rw [groupTo_spec h1]; rfl

theorem fused_spec {ops : List Oper} {dj j : Nat} {w0 : Bool} {l g r : List Oper} {x y : Operand} {d : Option Nat} (h : fused ops dj j w0 l = some (g, x, y, d, r)) :
    ∃ p : Oper, l = g ++ p :: r ∧ p.op = .pick (.tmp dj) x y ∧ p.guard = none ∧ p.dst = d ∧ (∀ q ∈ g, q.guard = some (j, w0) ∧ q.dst ≠ some dj) ∧ aside g (cond w0 y x) = true := by
  unfold fused at h
  split at h
  · rename_i g' p r' hg
    split at h
    · rename_i c x' y' hop hgd
      split at h
      · rename_i hc
        injection h with h; injection h with h1 h; injection h with h2 h; injection h with h3 h; injection h with h4 h5
        subst h1; subst h2; subst h3; subst h4; subst h5
        obtain ⟨h1, h2, _, h4⟩ := hc
        subst h1
        refine ⟨p, groupTo_spec hg, hop, hgd, rfl, fun q hq => ?_, h4⟩
        have := List.all_eq_true.1 h2 q hq
        simp only [Bool.and_eq_true, beq_iff_eq, bne_iff_ne] at this
        exact ⟨this.1.2, this.2⟩
      · cases h
    · cases h
  · cases h

theorem aside_spec {g : List Oper} {x : Operand} (h : aside g x = true) {fr fr' : Fr} (he : ∀ u, (∀ q ∈ g, q.dst ≠ some u) → fr'[u]? = fr[u]?) : evalO fr' x = evalO fr x := by
  by_cases hx : ∃ u, x = .tmp u
  case neg =>
    cases x with
    | tmp u => exact absurd ⟨u, rfl⟩ hx
    | const v => cases v <;> first | rfl | (rename_i p; cases p <;> rfl)
    | _ => rfl
  obtain ⟨u, rfl⟩ := hx
  simp only [evalO]
  refine he u fun q hq => ?_
  have := List.all_eq_true.1 (show (g.all fun q => q.dst != some u) = true from h) q hq
  simpa using this

end
end Go.Den

/- Regions whose operations come in their order. -/
namespace Go.Den
open Go

section
variable {R : Type} {run : RunF} {loop : Code → Fr → Heap → Option Out} {lr : Res → Heap → Option R} {lo : Out → Option R} {r : R}
variable {C : Ctx} {D : List Deferred} {ops : List Oper} {σ : Heap} {ρ : Gr} {S : Cells} {w : World} {fr : Fr} {a : Act} {o : Oper}
theorem denOps_ok (hp : PrimOk C.P C.H) (hrun : RunOk C.P run) {arr : Array Oper} {Q : Exit → Act → World → Prop} : ∀ (n : Nat) (l : List Oper) (fr : Fr) (σ : Heap) (K : Fr → Heap → T) (Kp : E → Fr → Heap → T) (r : R),
    (denOps C arr.toList n l fr σ K Kp).go run loop lr lo = some r → ∀ (ρ : Gr) (S : Cells) (w : World) (a : Act), Rel C.P σ ρ S w → FR C.P σ ρ S w fr a.tmps → a.defers = D →
    (∀ (fr' : Fr) (σ' : Heap) (ρ' : Gr) (S' : Cells) (w' : World) (a' : Act), a'.defers = D → Rel C.P σ' ρ' S' w' → Ext σ ρ S w σ' ρ' S' w' → FR C.P σ' ρ' S' w' fr' a'.tmps → (K fr' σ').go run loop lr lo = some r → Q .normal a' w') →
    (∀ (x : E) (fr' : Fr) (σ' : Heap) (ρ' : Gr) (S' : Cells) (w' : World) (a' : Act) (cv : Value), a'.defers = D → Rel C.P σ' ρ' S' w' → Ext σ ρ S w σ' ρ' S' w' → FR C.P σ' ρ' S' w' fr' a'.tmps →
      VE C.P w' S' x cv → (Kp x fr' σ').go run loop lr lo = some r → Q (.panic [{ v := cv, recovered := false }]) a' w') →
    wpList C.P arr Q l a w := by
  intro n
  induction n with
  | zero => intro l fr σ K Kp r h; cases h
  | succ n ih =>
    intro l fr σ K Kp r h ρ S w a hr hf hd hK hKp
    cases l with
    | nil => exact hK fr σ ρ S w a hd hr (Ext.refl _ _ _ _) hf h
    | cons o rest =>
      -- what comes behind, from any state
      have hrest : ∀ (fr' : Fr) (σ' : Heap) (ρ' : Gr) (S' : Cells) (w' : World) (a' : Act) (l' : List Oper), a'.defers = D → Rel C.P σ' ρ' S' w' → Ext σ ρ S w σ' ρ' S' w' → FR C.P σ' ρ' S' w' fr' a'.tmps →
          (denOps C arr.toList n l' fr' σ' K Kp).go run loop lr lo = some r → wpList C.P arr Q l' a' w' := by
        intro fr' σ' ρ' S' w' a' l' h1 h2 h3 h4 h5
        refine ih l' fr' σ' K Kp r h5 ρ' S' w' a' h2 h4 h1 ?_ ?_
        · intro fr2 σ2 ρ2 S2 w2 a2 k1 k2 k3 k4 k5
          exact hK fr2 σ2 ρ2 S2 w2 a2 k1 k2 (h3.trans k3) k4 k5
        · intro x fr2 σ2 ρ2 S2 w2 a2 cv k1 k2 k3 k4 k5 k6
          exact hKp x fr2 σ2 ρ2 S2 w2 a2 cv k1 k2 (h3.trans k3) k4 k5 k6
      have hgo : ∀ (fr' : Fr), FR C.P σ ρ S w fr' a.tmps → (denGo C (C.sp arr.toList) o fr' (room C.P (C.sp arr.toList) o σ) σ.length (fun f s => denOps C arr.toList n rest f s K Kp) (fun x s => Kp x fr s)).go run loop lr lo = some r → o.wp C.P a w (wpList C.P arr Q rest) Q := by
        intro fr' hf' h'
        obtain ⟨r1, e1⟩ := hr.more (needs C.P (C.sp arr.toList) o)
        refine denGo_ok hp hrun sp_nil h' r1 (hf'.mono e1) ?_ ?_
        · intro fr2 σ2 ρ2 S2 w2 a2 k1 k2 k3 k4 k5
          exact hrest fr2 σ2 ρ2 S2 w2 a2 rest (k1.trans hd) k2 (e1.trans k3) k4 k5
        · intro x σ2 ρ2 S2 w2 cv k2 k3 k5 k6
          exact hKp x fr σ2 ρ2 S2 w2 a cv hd k2 (e1.trans k3) (hf.mono (e1.trans k3)) k5 k6
      change (match o.guard with
        | none => denGo C (C.sp arr.toList) o fr (room C.P (C.sp arr.toList) o σ) σ.length (fun f s => denOps C arr.toList n rest f s K Kp) (fun x s => Kp x fr s)
        | some (j, w0) =>
          match dstOf arr.toList j with
          | none => T.fail
          | some dj =>
            match fr[dj]? with
            | some (.e (.bool b)) =>
              match fused arr.toList dj j w0 (o :: rest) with
              | some (g, x, y, d, r) =>
                match evalGroup C.P arr.toList g fr σ with
                | some fr1 =>
                  match evalO fr1 x, evalO fr1 y with
                  | some (.e (.bool bx)), some (.e (.bool by')) => denOps C arr.toList n r (put (g.foldl (fun (a : Fr) (q : Oper) => put a q.dst .undef) fr) d (.e (.bool (cond b bx by')))) σ K Kp
                  | _, _ => .fail
                | none => .fail
              | none => .br (b == w0) (denGo C (C.sp arr.toList) o (fr.set dj (.e (.bool w0))) (room C.P (C.sp arr.toList) o σ) σ.length (fun f s => denOps C arr.toList n rest f s K Kp) (fun x s => Kp x fr s)) (denOps C arr.toList n rest (put (fr.set dj (.e (.bool (!w0)))) o.dst (.tup [])) σ K Kp)
            | some (.tup []) => denOps C arr.toList n rest (put fr o.dst (.tup [])) σ K Kp
            | _ => .fail).go run loop lr lo = some r at h
      split at h
      · rename_i hg
        refine wpList_plain hg fun N hN => ?_
        exact Oper.wp_mono hN (hgo fr hf h)
      · rename_i j w0 hg
        split at h
        · cases h
        · rename_i dj hdj
          split at h
          · rename_i b hb
            have hbt := hf.bool hb
            split at h
            · -- the operations of the guard at once
              rename_i g x y d rr hfu
              obtain ⟨p, hl, hpop, hpg, hpd, hgall, has⟩ := fused_spec hfu
              rw [hl]
              split at h
              · rename_i fr1 hev
                split at h
                · rename_i bx by' hx hy
                  by_cases hbw : b = w0
                  · subst hbw
                    refine group_wanted hdj g fr fr fr1 ρ S w a (p :: rr) hev hgall hr hf hf hb hd ?_
                    intro ρ' S' w' a' k1 k2 k3 k4 k5
                    refine wpList_plain hpg fun N hN => ?_
                    have hb1 : fr1[dj]? = some (.e (.bool b)) := by rw [evalGroup_ne g fr fr1 σ dj (fun q hq => (hgall q hq).2) hev]; exact hb
                    have ho : OpOk C.P σ ρ' S' w' a' p (.e (.bool (cond b bx by'))) σ := by
                      have := op_pick k1 k3 hpop (x := x) (y := y) (b := b) (c := .tmp dj) (by exact hb1) hx hy
                      cases b <;> exact this
                    refine OpOk.wp ho fun cv w2 ρ2 S2 m1 m2 m3 => hN _ _ ?_
                    refine hrest _ σ ρ2 S2 w2 _ rr (by rw [put_defers]; exact k5) m1 (k2.trans m2) ?_ h
                    rw [← hpd]
                    exact (k4.mono m2).put p.dst m3
                  · refine group_skipped hdj hbw g fr ρ S w a (p :: rr) hgall hf hb hd ?_
                    intro a' k1 k2
                    refine wpList_plain hpg fun N hN => ?_
                    have hb1 : (g.foldl (fun a q => put a q.dst .undef) fr)[dj]? = some (.e (.bool b)) := by rw [foldl_put_ne g fr dj fun q hq => (hgall q hq).2]; exact hb
                    have hsame : evalO (g.foldl (fun a q => put a q.dst .undef) fr) (cond w0 y x) = evalO fr1 (cond w0 y x) :=
                      aside_spec has fun u hu => by rw [foldl_put_ne g fr u hu, evalGroup_ne g fr fr1 σ u hu hev]
                    have hev' : VA3 C.P σ ρ S w (.e (.bool (cond b bx by'))) (cond b (a'.eval x) (a'.eval y)) := by
                      cases b <;> cases w0 <;> first | exact absurd rfl hbw | skip
                      · rw [show (cond true y x) = y from rfl, hy] at hsame; exact evalO_ok k1 hsame
                      · rw [show (cond false y x) = x from rfl, hx] at hsame; exact evalO_ok k1 hsame
                    have ho : OpOk C.P σ ρ S w a' p (.e (.bool (cond b bx by'))) σ := by
                      refine OpOk.pure hr (run_pick hpop ?_) hev'
                      exact eval_tmp (FR.bool k1 hb1)
                    refine OpOk.wp ho fun cv w2 ρ2 S2 m1 m2 m3 => hN _ _ ?_
                    refine hrest _ σ ρ2 S2 w2 _ rr (by rw [put_defers]; exact k2) m1 m2 ?_ h
                    rw [← hpd]
                    exact (k1.mono m2).put p.dst m3
                · cases h
              · cases h
            · -- one by one
              rcases go_br h with ⟨hbw, h⟩ | ⟨hbw, h⟩
              · have hbe : b = w0 := by simpa using hbw
                have hw : Region.wanted o (yielded arr a.tmps) = true := by
                  unfold Region.wanted
                  rw [hg]
                  simp [yielded_bool hdj hbt, hbe]
                refine wpList_step fun N hN => ?_
                rw [if_pos hw]
                exact Oper.wp_mono hN (hgo _ (hf.lit hb hbe) h)
              · have hbe : b ≠ w0 := by simpa using hbw
                have hw : Region.wanted o (yielded arr a.tmps) = false := by
                  unfold Region.wanted
                  rw [hg]
                  simpa [yielded_bool hdj hbt] using hbe
                refine wpList_skip hw ?_
                refine hrest _ σ ρ S w _ rest (by rw [put_defers]; exact hd) hr (Ext.refl _ _ _ _) ?_ h
                exact (hf.lit hb (by cases b <;> cases w0 <;> simp at hbe ⊢)).put o.dst VA3_skip
          · rename_i hb
            obtain ⟨cv, h1, h2⟩ := hf.get hb
            rw [VA3_skip_inv h2] at h1
            have hw : Region.wanted o (yielded arr a.tmps) = false := by
              unfold Region.wanted
              rw [hg]
              simp [yielded_undef hdj h1]
            refine wpList_skip hw ?_
            exact hrest _ σ ρ S w _ rest (by rw [put_defers]; exact hd) hr (Ext.refl _ _ _ _) (hf.put o.dst VA3_skip) h
          · cases h
end
end Go.Den

/- What an operation reads and turns of the objects: elsewhere they may be anything; and two operations that have nothing in common may change places. -/
namespace Go.Den
open Go

/-! ### Updates -/

/-- An update of objects, and objects made at the end. -/
def patch (pat : Nat → Option Ob) (e : List Ob) (σ : Heap) : Heap := (σ.zipIdx.map fun p => (pat p.2).getD p.1) ++ e

section
variable {pat pat' : Nat → Option Ob} {e : List Ob} {σ τ : Heap} {i : Nat}
theorem patch_len : (patch pat e σ).length = σ.length + e.length := by simp [patch]
theorem patch_lt (h : i < σ.length) : (patch pat e σ)[i]? = (σ[i]?).map fun o => (pat i).getD o := by
  unfold patch
  rw [List.getElem?_append_left (by simpa using h), zipIdx_map_get]
theorem patch_ge (h : σ.length ≤ i) : (patch pat e σ)[i]? = e[i - σ.length]? := by
  unfold patch
  rw [List.getElem?_append_right (by simpa using h)]
  simp

/-- No update. -/
def nopat : Nat → Option Ob := fun _ => none
theorem patch_nop : patch nopat [] σ = σ := by
  apply List.ext_getElem?
  intro i
  rcases Nat.lt_or_ge i σ.length with h | h
  · rw [patch_lt h]; cases σ[i]? <;> rfl
  · rw [patch_ge h, List.getElem?_eq_none h]; simp

def single (k : Nat) (o : Ob) : Nat → Option Ob := fun i => if i = k then some o else none
theorem set_patch {k : Nat} {o : Ob} : σ.set k o = patch (single k o) [] σ := by
  apply List.ext_getElem?
  intro i
  rcases Nat.lt_or_ge i σ.length with h | h
  · rw [patch_lt h, List.getElem?_set]
    unfold single
    split
    · rename_i e; subst e; simp [h]
    · rename_i e; rw [if_neg (fun e' => e e'.symm)]; cases σ[i]? <;> rfl
  · rw [patch_ge h, List.getElem?_eq_none (by simpa using h)]; simp

def over (p2 p1 : Nat → Option Ob) : Nat → Option Ob := fun i => match p2 i with | some o => some o | none => p1 i
theorem patch_comp {p1 p2 : Nat → Option Ob} : patch p2 [] (patch p1 [] σ) = patch (over p2 p1) [] σ := by
  apply List.ext_getElem?
  intro i
  rcases Nat.lt_or_ge i σ.length with h | h
  · rw [patch_lt (by simpa [patch_len] using h), patch_lt h, patch_lt h, Option.map_map]
    unfold over
    cases σ[i]? with
    | none => rfl
    | some o => simp only [Option.map_some, Function.comp]; cases p2 i <;> rfl
  · rw [patch_ge (by simpa [patch_len] using h), patch_ge h]; simp
end

/-- A step on objects that reads 'rd', turns 'wr', and asks for the number of objects where 'dep' holds. -/
def Local (rd wr : List Nat) (dep : Bool) (σ σ' : Heap) (D : Heap → Heap → Prop) : Prop :=
  ∃ (pat : Nat → Option Ob) (e : List Ob), (∀ i, pat i ≠ none → i ∈ wr) ∧ (e ≠ [] → dep = true) ∧ σ' = patch pat e σ ∧
    ∀ τ : Heap, (∀ i, i ∈ rd ∨ i ∈ wr → τ[i]? = σ[i]?) → (dep = true → τ.length = σ.length) → D τ (patch pat e τ)

theorem Local.still {rd wr : List Nat} {dep : Bool} {σ : Heap} {D : Heap → Heap → Prop} (h : ∀ τ : Heap, (∀ i, i ∈ rd ∨ i ∈ wr → τ[i]? = σ[i]?) → D τ τ) : Local rd wr dep σ σ D :=
  ⟨nopat, [], fun i hi => absurd rfl hi, fun h => absurd rfl h, patch_nop.symm, fun τ ht _ => by rw [patch_nop]; exact h τ ht⟩

theorem Local.mono {rd wr : List Nat} {dep : Bool} {σ σ' : Heap} {D D' : Heap → Heap → Prop} (h : Local rd wr dep σ σ' D) (hd : ∀ τ τ', (∀ i, i ∈ rd ∨ i ∈ wr → τ[i]? = σ[i]?) → D τ τ' → D' τ τ') : Local rd wr dep σ σ' D' :=
  let ⟨pat, e, h1, h2, h3, h4⟩ := h
  ⟨pat, e, h1, h2, h3, fun τ ht hl => hd τ _ ht (h4 τ ht hl)⟩

theorem Local.set {id : Nat} {ob : Ob} {dep : Bool} {σ : Heap} {D : Heap → Heap → Prop} (h : ∀ τ : Heap, τ[id]? = σ[id]? → D τ (τ.set id ob)) : Local [] [id] dep σ (σ.set id ob) D := by
  refine ⟨single id ob, [], fun i hi => ?_, fun h => absurd rfl h, set_patch, fun τ ht _ => ?_⟩
  · unfold single at hi
    split at hi
    · rename_i e; simp [e]
    · exact absurd rfl hi
  · rw [← set_patch]
    exact h τ (ht id (.inr (by simp)))

theorem fillAt_local {σ σ' : Heap} {k : Nat} {ob : Ob} (h : fillAt σ k ob = some σ') : σ' = patch (single k ob) [] σ ∧ ∀ τ : Heap, τ[k]? = σ[k]? → fillAt τ k ob = some (patch (single k ob) [] τ) := by
  obtain ⟨h1, h2⟩ := fillAt_spec h
  refine ⟨by rw [h2, set_patch], fun τ ht => ?_⟩
  unfold fillAt
  rw [ht, h1]
  simp only [set_patch]

theorem nilsOf_cons (v : AV) (cs : List AV) : nilsOf (v :: cs) = nilsOf cs + (match v with | .nils _ => 1 | _ => 0) := by
  unfold nilsOf
  rw [List.countP_cons]
  cases v <;> simp

theorem promote_local : ∀ (cs : List AV) {k : Nat} {σ σ' : Heap} {cs' : List AV}, promote cs k σ = some (cs', σ') →
    ∃ pat, (∀ i, pat i ≠ none → i ∈ List.range' k (nilsOf cs)) ∧ σ' = patch pat [] σ ∧ ∀ τ : Heap, (∀ i ∈ List.range' k (nilsOf cs), τ[i]? = σ[i]?) → promote cs k τ = some (cs', patch pat [] τ)
  | [], k, σ, σ', cs', h => by
    injection h with h; injection h with h1 h2; subst h1; subst h2
    exact ⟨nopat, fun i hi => absurd rfl hi, patch_nop.symm, fun τ _ => by rw [patch_nop]; rfl⟩
  | v :: cs, k, σ, σ', cs', h => by
    by_cases hv : ∃ t, v = .nils t
    · obtain ⟨t, rfl⟩ := hv
      have hn : nilsOf (.nils t :: cs) = nilsOf cs + 1 := nilsOf_cons _ _
      simp only [promote] at h
      split at h
      · rename_i σ1 hfill
        obtain ⟨⟨q1, q2⟩, hp, h⟩ := Option.map_eq_some_iff.1 h
        injection h with h1 h2; subst h1; subst h2
        obtain ⟨f1, f2⟩ := fillAt_local hfill
        obtain ⟨pat, p1, p2, p3⟩ := promote_local cs hp
        refine ⟨over pat (single k (.vec t 0)), fun i hi => ?_, by simp only [p2, f1, patch_comp], fun τ ht => ?_⟩
        · rw [hn, List.mem_range'_1]
          unfold over single at hi
          cases hpi : pat i with
          | some o => have := List.mem_range'_1.1 (p1 i (by rw [hpi]; simp)); omega
          | none =>
            rw [hpi] at hi
            simp only at hi
            split at hi
            · omega
            · exact absurd rfl hi
        · have hk := ht k (by rw [hn, List.mem_range'_1]; omega)
          simp only [promote, f2 τ hk]
          rw [p3 (patch (single k (.vec t 0)) [] τ) (fun i hi => ?_)]
          · simp only [Option.map_some, patch_comp]
          · have hi' := List.mem_range'_1.1 hi
            have hti := ht i (by rw [hn, List.mem_range'_1]; omega)
            rw [f1]
            rcases Nat.lt_or_ge i τ.length with hl | hl
            · have hl' : i < σ.length := by
                rcases Nat.lt_or_ge i σ.length with h | h
                · exact h
                · rw [List.getElem?_eq_none h, List.getElem?_eq_none_iff] at hti; omega
              rw [patch_lt hl, patch_lt hl', hti]
            · have hl' : σ.length ≤ i := by
                rw [List.getElem?_eq_none hl] at hti
                exact List.getElem?_eq_none_iff.1 hti.symm
              rw [patch_ge hl, patch_ge hl']; simp
      · cases h
    · have hpo : ∀ τ : Heap, promote (v :: cs) k τ = (promote cs k τ).map fun q => (v :: q.1, q.2) := fun τ => by
        cases v <;> first | rfl | exact absurd ⟨_, rfl⟩ hv
      rw [hpo] at h
      obtain ⟨⟨q1, q2⟩, hp, h⟩ := Option.map_eq_some_iff.1 h
      injection h with h1 h2; subst h1; subst h2
      obtain ⟨pat, p1, p2, p3⟩ := promote_local cs hp
      have hn : nilsOf (v :: cs) = nilsOf cs := by
        rw [nilsOf_cons]
        cases v <;> first | rfl | exact absurd ⟨_, rfl⟩ hv
      refine ⟨pat, fun i hi => by rw [hn]; exact p1 i hi, p2, fun τ ht => ?_⟩
      rw [hn] at ht
      rw [hpo, p3 τ ht]; rfl

section
variable {P : Program} {H : Hints} {ops : List Oper} {fr : Fr} {σ σ' : Heap} {k : Nat} {o : Oper} {v : AV}

theorem patch_get_other {pat : Nat → Option Ob} {e : List Ob} {i : Nat} (hp : pat i = none) (h : i < σ.length ∨ e = []) : (patch pat e σ)[i]? = σ[i]? := by
  rcases Nat.lt_or_ge i σ.length with hl | hl
  · rw [patch_lt hl, hp]; cases σ[i]? <;> rfl
  · rcases h with h | h
    · omega
    · subst h; rw [patch_ge hl, List.getElem?_eq_none hl]; simp

theorem evalT_eq {t : TypeId} {x : Operand} {u : AV} (h : evalO fr x = some u) : evalT P t fr x = some u := by
  unfold evalT
  split
  · cases h
  · cases h
  · exact h
theorem evalT_of {t : TypeId} {x : Operand} {u : AV} (hs : evalT P t fr x = some u) (h1 : ∀ t, u ≠ .nils t) (h2 : ∀ cs, u ≠ .agg cs) : evalO fr x = some u := by
  unfold evalT at hs
  split at hs
  · split at hs
    · split at hs
      · injection hs with hs; exact absurd hs.symm (h1 _)
      · cases hs
    · cases hs
  · split at hs
    · split at hs
      · injection hs with hs; exact absurd hs.symm (h2 _)
      · cases hs
    · cases hs
  · exact hs
theorem evalT_mv {t : TypeId} {x : Operand} {id n off len : Nat} {et : TypeId} (hs : evalT P t fr x = some (.mv id et n off len)) : evalO fr x = some (.mv id et n off len) :=
  evalT_of hs (by simp) (by simp)

theorem foot_nil {ops : List Oper} {args : Array Operand} {ats : Array TypeId} {t : TypeId} {x y : Operand} {s : AV} (hop : o.op = .call { callee := .builtin .append, args := args, argTypes := ats }) (hp : evalPure P ops fr o = none) (hargs : args.toList = [x, y])
    (hs : evalT P t fr x = some s) (hn : (∃ e, s = .nils e) ∨ ∃ e, s = .nilc e) : ∃ rd, footOf P H.own ops fr σ k o = ⟨rd, [k], false, false⟩ := by
  rcases hn with ⟨e, rfl⟩ | ⟨e, rfl⟩
  · have h1 : ∀ id et xs, evalO fr x ≠ some (.own id et xs) := fun id et xs hx => by rw [evalT_eq hx] at hs; cases hs
    have h2 : ∀ id et n off len, evalO fr x ≠ some (.mv id et n off len) := fun id et n off len hx => by rw [evalT_eq hx] at hs; cases hs
    have h3 : ∀ et, evalO fr x ≠ some (.nilc et) := fun et hx => by rw [evalT_eq hx] at hs; cases hs
    refine ⟨[], ?_⟩
    simp only [footOf, hop, hp, hargs]
  · have hx : evalO fr x = some (.nilc e) := evalT_of hs (by simp) (by simp)
    exact ⟨rdsOf fr [y], by simp only [footOf, hop, hp, hargs, hx]⟩

theorem evalHeap_local (h : evalHeap P ops fr σ k o = some (true, v, σ')) (hp : evalPure P ops fr o = none) : Local (footOf P H.own ops fr σ k o).rd (footOf P H.own ops fr σ k o).wr false σ σ' fun τ τ' => evalHeap P ops fr τ k o = some (true, v, τ') := by
  unfold evalHeap at h
  split at h
  · -- box
    rename_i t x hop
    split at h
    · rename_i u n hu hn
      split at h
      · rename_i hc
        split at h
        · rename_i cs σ1 hpr
          obtain ⟨σ2, hfill, h⟩ := Option.map_eq_some_iff.1 h
          injection h with _ h; injection h with h1 h2; subst h1; subst h2
          obtain ⟨pat, p1, p2, p3⟩ := promote_local _ hpr
          obtain ⟨f1, f2⟩ := fillAt_local hfill
          have hf : footOf P H.own ops fr σ k o = ⟨[], List.range' k (1 + nilsOf u.cells), false, false⟩ := by simp only [footOf, hop, hu]
          rw [hf]
          have hpk : pat k = none := by
            cases hpk : pat k with
            | none => rfl
            | some q => have := List.mem_range'_1.1 (p1 k (by rw [hpk]; simp)); omega
          refine ⟨over (single k (.box cs)) pat, [], fun i hi => ?_, fun h => absurd rfl h, by rw [f1, p2, patch_comp], fun τ ht _ => ?_⟩
          · rw [List.mem_range'_1]
            unfold over single at hi
            split at hi
            · rename_i hs; split at hs
              · omega
              · cases hs
            · have := List.mem_range'_1.1 (p1 i hi); omega
          · have e1 := p3 τ fun i hi => ht i (.inr (List.mem_range'_1.2 (by have := List.mem_range'_1.1 hi; omega)))
            have e2 := f2 (patch pat [] τ) (by
              rw [p2, patch_get_other hpk (.inr rfl), patch_get_other hpk (.inr rfl)]
              exact ht k (.inr (List.mem_range'_1.2 (by omega))))
            unfold evalHeap
            simp only [hop, hu, hn, if_pos hc, e1, e2, Option.map_some, patch_comp]
        · cases h
      · cases h
    · cases h
  · -- alloc
    rename_i t hop
    split at h
    · rename_i u hu
      split at h
      · rename_i cs σ1 hpr
        obtain ⟨σ2, hfill, h⟩ := Option.map_eq_some_iff.1 h
        injection h with _ h; injection h with h1 h2; subst h1; subst h2
        obtain ⟨pat, p1, p2, p3⟩ := promote_local _ hpr
        obtain ⟨f1, f2⟩ := fillAt_local hfill
        have hf : footOf P H.own ops fr σ k o = ⟨[], List.range' k (1 + nilsOf u.cells), false, false⟩ := by simp only [footOf, hop, hu]
        rw [hf]
        have hpk : pat k = none := by
          cases hpk : pat k with
          | none => rfl
          | some q => have := List.mem_range'_1.1 (p1 k (by rw [hpk]; simp)); omega
        refine ⟨over (single k (.box (selfed P t k cs))) pat, [], fun i hi => ?_, fun h => absurd rfl h, by rw [f1, p2, patch_comp], fun τ ht _ => ?_⟩
        · rw [List.mem_range'_1]
          unfold over single at hi
          split at hi
          · rename_i hs; split at hs
            · omega
            · cases hs
          · have := List.mem_range'_1.1 (p1 i hi); omega
        · have e1 := p3 τ fun i hi => ht i (.inr (List.mem_range'_1.2 (by have := List.mem_range'_1.1 hi; omega)))
          have e2 := f2 (patch pat [] τ) (by
            rw [p2, patch_get_other hpk (.inr rfl), patch_get_other hpk (.inr rfl)]
            exact ht k (.inr (List.mem_range'_1.2 (by omega))))
          unfold evalHeap
          simp only [hop, hu, e1, e2, Option.map_some, patch_comp]
      · cases h
    · cases h
  · -- buildSlice
    rename_i t len parts hop
    split at h
    · cases h
    · rename_i hsp
      split at h
      · rename_i et xs hq
        obtain ⟨σ1, hfill, h⟩ := Option.map_eq_some_iff.1 h
        injection h with _ h; injection h with h1 h2; subst h1; subst h2
        obtain ⟨f1, f2⟩ := fillAt_local hfill
        have hf : footOf P H.own ops fr σ k o = ⟨[], [k], false, false⟩ := by simp only [footOf, hop, if_neg hsp]
        rw [hf]
        refine ⟨single k (.vec et xs.length), [], fun i hi => ?_, fun h => absurd rfl h, f1, fun τ ht _ => ?_⟩
        · unfold single at hi; split at hi
          · rename_i e; simp [e]
          · exact absurd rfl hi
        · unfold evalHeap
          simp only [hop, if_neg hsp, hq, f2 τ (ht k (.inr (by simp))), Option.map_some]
      · cases h
  · -- load
    rename_i t x hop
    split at h
    · rename_i id off hx
      split at h
      · rename_i cs n hb hn
        have hf : footOf P H.own ops fr σ k o = ⟨[id], [], false, false⟩ := by simp only [footOf, hop, hx]
        rw [hf]
        have key : ∀ τ : Heap, τ[id]? = σ[id]? → evalHeap P ops fr τ k o = (if off + n ≤ cs.length then if isAggB P t then some (true, .agg ((cs.drop off).take n), τ) else if n = 1 then (cs[off]?).map fun v => (true, v, τ) else none else none) := fun τ ht => by
          unfold evalHeap
          simp only [hop, hx, ht, hb, hn]
        split at h
        · rename_i hl
          split at h
          · rename_i ha
            injection h with h; injection h with _ h; injection h with h1 h2; subst h1; subst h2
            exact Local.still fun τ ht => by rw [key τ (ht id (.inl (by simp))), if_pos hl, if_pos ha]
          · rename_i ha
            split at h
            · rename_i h1n
              obtain ⟨u, hu, h⟩ := Option.map_eq_some_iff.1 h
              injection h with _ h; injection h with h1 h2; subst h1; subst h2
              exact Local.still fun τ ht => by rw [key τ (ht id (.inl (by simp))), if_pos hl, if_neg ha, if_pos h1n, hu]; rfl
            · cases h
        · cases h
      · cases h
    · rename_i id n i j hx
      split at h
      · rename_i et xs ov hb
        have hf : footOf P H.own ops fr σ k o = ⟨[id], [], false, false⟩ := by simp only [footOf, hop, hx]
        rw [hf]
        obtain ⟨u, hu, h⟩ := Option.map_eq_some_iff.1 h
        injection h with h0 h; injection h with h1 h2; subst h1; subst h2
        exact Local.still fun τ ht => by
          unfold evalHeap
          simp only [hop, hx, ht id (.inl (by simp)), hb, hu, Option.map_some, h0]
      · cases h
    · cases h
  · -- store
    rename_i t x y hop
    split at h
    · rename_i id off u n hx hy hn
      split at h
      · rename_i cs hb
        split at h
        · rename_i hc
          obtain ⟨⟨pc, σ1⟩, hpr, h⟩ := Option.map_eq_some_iff.1 h
          injection h with _ h; injection h with h1 h2; subst h1; subst h2
          obtain ⟨pat, p1, p2, p3⟩ := promote_local _ hpr
          have hf : footOf P H.own ops fr σ k o = ⟨[], id :: List.range' k (nilsOf u.cells), false, false⟩ := by simp only [footOf, hop, hx, hy]
          rw [hf]
          refine ⟨over (single id (.box (splice cs off pc))) pat, [], fun i hi => ?_, fun h => absurd rfl h, by simp only [set_patch, p2, patch_comp], fun τ ht _ => ?_⟩
          · unfold over single at hi
            split at hi
            · rename_i hs; split at hs
              · rename_i e; simp [e]
              · cases hs
            · exact List.mem_cons_of_mem _ (p1 i hi)
          · have e1 := p3 τ fun i hi => ht i (.inr (List.mem_cons_of_mem _ hi))
            have e2 := ht id (.inr (by simp))
            unfold evalHeap
            simp only [hop, hx, hy, hn, e2, hb, if_pos hc, e1, Option.map_some, set_patch, patch_comp]
        · cases h
      · cases h
    · rename_i id n i j u m hx hy hn
      split at h
      · rename_i et xs ov hb
        split at h
        · rename_i l hfit
          split at h
          · rename_i hc
            injection h with h; injection h with h0 h; injection h with h1 h2; subst h1; subst h2
            have hf : footOf P H.own ops fr σ k o = ⟨[], [id], false, false⟩ := by simp only [footOf, hop, hx, hy]
            rw [hf]
            exact Local.set fun τ ht => by
              unfold evalHeap
              simp only [hop, hx, hy, hn, ht, hb, hfit, if_pos hc, h0]
          · cases h
        · cases h
      · cases h
    · cases h
  · -- makeSlice
    rename_i t x y hop
    split at h
    · rename_i et ht
      split at h
      · rename_i i fs kn kc c hi hfs hx hy
        split at h
        · rename_i hc
          obtain ⟨σ1, hfill, h⟩ := Option.map_eq_some_iff.1 h
          injection h with h0 h; injection h with h1 h2; subst h1; subst h2
          obtain ⟨f1, f2⟩ := fillAt_local hfill
          have hf : footOf P H.own ops fr σ k o = ⟨[], [k], false, false⟩ := by simp only [footOf, hop]
          rw [hf]
          refine ⟨single k (.vec et 0), [], fun i hi => ?_, fun h => absurd rfl h, f1, fun τ ht' _ => ?_⟩
          · unfold single at hi; split at hi
            · rename_i e; simp [e]
            · exact absurd rfl hi
          · unfold evalHeap
            simp only [hop, ht, hi, hfs, hx, hy, if_pos hc, f2 τ (ht' k (.inr (by simp))), Option.map_some, h0]
        · cases h
      · cases h
    · cases h
  · -- range
    rename_i t x hop
    split at h
    · rename_i s ht hx
      obtain ⟨σ1, hfill, h⟩ := Option.map_eq_some_iff.1 h
      injection h with _ h; injection h with h1 h2; subst h1; subst h2
      obtain ⟨f1, f2⟩ := fillAt_local hfill
      have hf : footOf P H.own ops fr σ k o = ⟨[], [k], false, false⟩ := by simp only [footOf, hop]
      rw [hf]
      refine ⟨single k (.raw (.iter s 0)), [], fun i hi => ?_, fun h => absurd rfl h, f1, fun τ ht' _ => ?_⟩
      · unfold single at hi; split at hi
        · rename_i e; simp [e]
        · exact absurd rfl hi
      · unfold evalHeap
        simp only [hop, ht, hx, f2 τ (ht' k (.inr (by simp))), Option.map_some]
    · cases h
  · -- append
    rename_i args ats hop
    split at h
    · rename_i t tx x y hats hargs
      split at h
      · rename_i et ht
        split at h
        · rename_i i fs s ys hi hfs hs hys
          split at h
          · rename_i hc
            split at h
            · rename_i et'
              split at h
              · rename_i he
                obtain ⟨σ1, hfill, h⟩ := Option.map_eq_some_iff.1 h
                injection h with h0 h; injection h with h1 h2; subst h1; subst h2
                obtain ⟨f1, f2⟩ := fillAt_local hfill
                obtain ⟨rd, hf⟩ := foot_nil (H := H) (σ := σ) (k := k) hop hp hargs hs (by first | exact .inl ⟨_, rfl⟩ | exact .inr ⟨_, rfl⟩)
                rw [hf]
                refine ⟨single k (.vec et ys.length), [], fun i hi => ?_, fun h => absurd rfl h, f1, fun τ ht' _ => ?_⟩
                · unfold single at hi; split at hi
                  · rename_i e; simp [e]
                  · exact absurd rfl hi
                · unfold evalHeap
                  simp only [hop, hats, hargs, ht, hi, hfs, hs, hys, if_pos hc, if_pos he, f2 τ (ht' k (.inr (by simp))), Option.map_some, h0]
              · cases h
            · rename_i et'
              split at h
              · rename_i he
                obtain ⟨σ1, hfill, h⟩ := Option.map_eq_some_iff.1 h
                injection h with h0 h; injection h with h1 h2; subst h1; subst h2
                obtain ⟨f1, f2⟩ := fillAt_local hfill
                obtain ⟨rd, hf⟩ := foot_nil (H := H) (σ := σ) (k := k) hop hp hargs hs (by first | exact .inl ⟨_, rfl⟩ | exact .inr ⟨_, rfl⟩)
                rw [hf]
                refine ⟨single k (.vec et ys.length), [], fun i hi => ?_, fun h => absurd rfl h, f1, fun τ ht' _ => ?_⟩
                · unfold single at hi; split at hi
                  · rename_i e; simp [e]
                  · exact absurd rfl hi
                · unfold evalHeap
                  simp only [hop, hats, hargs, ht, hi, hfs, hs, hys, if_pos hc, if_pos he, f2 τ (ht' k (.inr (by simp))), Option.map_some, h0]
              · cases h
            · rename_i id et' xs
              split at h
              · rename_i et'' n hv
                split at h
                · rename_i he
                  injection h with h; injection h with h0 h; injection h with h1 h2; subst h1; subst h2
                  have hx : evalO fr x = some (.own id et' xs) := evalT_of hs (by simp) (by simp)
                  have hf : footOf P H.own ops fr σ k o = ⟨[], [id], false, false⟩ := by simp only [footOf, hop, hp, hargs, hx]
                  rw [hf]
                  refine ⟨single id (.vec et (xs ++ ys).length), [], fun i hi => ?_, fun h => absurd rfl h, set_patch, fun τ ht' _ => ?_⟩
                  · unfold single at hi; split at hi
                    · rename_i e; simp [e]
                    · exact absurd rfl hi
                  · have e2 := ht' id (.inr (by simp))
                    unfold evalHeap
                    simp only [hop, hats, hargs, ht, hi, hfs, hs, hys, if_pos hc, e2, hv, if_pos he, set_patch, h0]
                · cases h
              · cases h
            · rename_i id et' n off len
              split at h
              · rename_i et'' xs ov hv
                split at h
                · rename_i he
                  injection h with h; injection h with h0 h; injection h with h1 h2; subst h1; subst h2
                  have hx := evalT_mv hs
                  have hf : footOf P H.own ops fr σ k o = ⟨rdsOf fr [y], [id], false, false⟩ := by simp only [footOf, hop, hp, hargs, hx]
                  rw [hf]
                  refine ⟨single id (.raw (.arr et (xs ++ ys) ov)), [], fun i hi => ?_, fun h => absurd rfl h, set_patch, fun τ ht' _ => ?_⟩
                  · unfold single at hi; split at hi
                    · rename_i e; simp [e]
                    · exact absurd rfl hi
                  · have e2 := ht' id (.inr (by simp))
                    unfold evalHeap
                    simp only [hop, hats, hargs, ht, hi, hfs, hs, hys, if_pos hc, e2, hv, if_pos he, set_patch, h0]
                · cases h
              · cases h
            · cases h
          · cases h
        · cases h
      · cases h
    · cases h
  · cases h

theorem evalArr_local (h : evalArr P fr σ k o = some (true, v, σ')) : Local (footOf P H.own [] fr σ k o).rd (footOf P H.own [] fr σ k o).wr false σ σ' fun τ τ' => evalArr P fr τ k o = some (true, v, τ') := by
  unfold evalArr at h
  split at h
  · -- buildSlice
    rename_i t len parts hop
    split at h
    · rename_i et xs ov hq
      obtain ⟨σ1, hfill, h⟩ := Option.map_eq_some_iff.1 h
      injection h with _ h; injection h with h1 h2; subst h1; subst h2
      obtain ⟨f1, f2⟩ := fillAt_local hfill
      have hsp : ¬ spreads o.dst [] = true := by simp [spreads]
      have hf : footOf P H.own [] fr σ k o = ⟨[], [k], false, false⟩ := by simp only [footOf, hop, if_neg hsp]
      rw [hf]
      refine ⟨single k (.raw (.arr et xs ov)), [], fun i hi => ?_, fun h => absurd rfl h, f1, fun τ ht _ => ?_⟩
      · unfold single at hi; split at hi
        · rename_i e; simp [e]
        · exact absurd rfl hi
      · unfold evalArr
        simp only [hop, hq, f2 τ (ht k (.inr (by simp))), Option.map_some]
    · cases h
  · -- makeSlice
    rename_i t x y hop
    split at h
    · rename_i et ht
      split at h
      · rename_i i fs z kn kc c hi hfs hz hx hy
        split at h
        · rename_i hc
          obtain ⟨σ1, hfill, h⟩ := Option.map_eq_some_iff.1 h
          injection h with h0 h; injection h with h1 h2; subst h1; subst h2
          obtain ⟨f1, f2⟩ := fillAt_local hfill
          have hf : footOf P H.own [] fr σ k o = ⟨[], [k], false, false⟩ := by simp only [footOf, hop]
          rw [hf]
          refine ⟨_, [], fun i hi => ?_, fun h => absurd rfl h, f1, fun τ ht' _ => ?_⟩
          · unfold single at hi; split at hi
            · rename_i e; simp [e]
            · exact absurd rfl hi
          · unfold evalArr
            simp only [hop, ht, hi, hfs, hz, hx, hy, if_pos hc, f2 τ (ht' k (.inr (by simp))), Option.map_some, h0]
        · cases h
      · rename_i i fs z kn n kc c hn0 hi hfs hz hx hy
        split at h
        · rename_i hc
          obtain ⟨σ1, hfill, h⟩ := Option.map_eq_some_iff.1 h
          injection h with h0 h; injection h with h1 h2; subst h1; subst h2
          obtain ⟨f1, f2⟩ := fillAt_local hfill
          have hf : footOf P H.own [] fr σ k o = ⟨[], [k], false, false⟩ := by simp only [footOf, hop]
          rw [hf]
          refine ⟨_, [], fun i hi => ?_, fun h => absurd rfl h, f1, fun τ ht' _ => ?_⟩
          · unfold single at hi; split at hi
            · rename_i e; simp [e]
            · exact absurd rfl hi
          · unfold evalArr
            simp only [hop, ht, hi, hfs, hz, hx, hy, if_pos hc, f2 τ (ht' k (.inr (by simp))), Option.map_some, h0]
        · cases h
      · cases h
    · cases h
  · -- append
    rename_i args ats hop
    have hp : evalPure P [] fr o = none := by unfold evalPure; rw [hop]
    split at h
    · rename_i t tx x y hats hargs
      split at h
      · rename_i et ht
        split at h
        · rename_i i fs s v hi hfs hs hv
          split at h
          · rename_i hc
            split at h
            · rename_i id et' n off len id2 et2 n2 off2 len2
              split at h
              · rename_i et'' xs ov et3 xs2 ov2 hb hb2
                split at h
                · rename_i he
                  injection h with h; injection h with h0 h; injection h with h1 h2; subst h1; subst h2
                  have hx := evalT_mv hs
                  have hy := evalT_mv hv
                  have hf : footOf P H.own [] fr σ k o = ⟨rdsOf fr [y], [id], false, false⟩ := by simp only [footOf, hop, hp, hargs, hx]
                  have hrd : rdsOf fr [y] = [id2] := by simp [rdsOf, hy]
                  rw [hf, hrd]
                  refine ⟨_, [], fun i hi => ?_, fun h => absurd rfl h, set_patch, fun τ ht' _ => ?_⟩
                  · unfold single at hi; split at hi
                    · rename_i e; simp [e]
                    · exact absurd rfl hi
                  · have e2 := ht' id (.inr (by simp))
                    have e3 := ht' id2 (.inl (by simp))
                    unfold evalArr
                    simp only [hop, hats, hargs, ht, hi, hfs, hs, hv, if_pos hc, e2, e3, hb, hb2, if_pos he, set_patch, h0]
                · cases h
              · cases h
            · rename_i et' id2 et2 n2 off2 len2
              split at h
              · rename_i et3 xs2 ov2 hb2
                split at h
                · rename_i he
                  obtain ⟨σ1, hfill, h⟩ := Option.map_eq_some_iff.1 h
                  injection h with h0 h; injection h with h1 h2; subst h1; subst h2
                  obtain ⟨f1, f2⟩ := fillAt_local hfill
                  have hx : evalO fr x = some (.nilc et') := evalT_of hs (by simp) (by simp)
                  have hy := evalT_mv hv
                  have hf : footOf P H.own [] fr σ k o = ⟨rdsOf fr [y], [k], false, false⟩ := by simp only [footOf, hop, hp, hargs, hx]
                  have hrd : rdsOf fr [y] = [id2] := by simp [rdsOf, hy]
                  rw [hf, hrd]
                  refine ⟨_, [], fun i hi => ?_, fun h => absurd rfl h, f1, fun τ ht' _ => ?_⟩
                  · unfold single at hi; split at hi
                    · rename_i e; simp [e]
                    · exact absurd rfl hi
                  · have e3 := ht' id2 (.inl (by simp))
                    unfold evalArr
                    simp only [hop, hats, hargs, ht, hi, hfs, hs, hv, if_pos hc, e3, hb2, if_pos he, f2 τ (ht' k (.inr (by simp))), Option.map_some, h0]
                · cases h
              · cases h
            · rename_i et' v' hnm hnm2
              split at h
              · rename_i ys hys
                split at h
                · rename_i he
                  obtain ⟨σ1, hfill, h⟩ := Option.map_eq_some_iff.1 h
                  injection h with h0 h; injection h with h1 h2; subst h1; subst h2
                  obtain ⟨f1, f2⟩ := fillAt_local hfill
                  obtain ⟨rd, hf⟩ := foot_nil (H := H) (σ := σ) (k := k) hop hp hargs hs (by first | exact .inl ⟨_, rfl⟩ | exact .inr ⟨_, rfl⟩)
                  rw [hf]
                  refine ⟨_, [], fun i hi => ?_, fun h => absurd rfl h, f1, fun τ ht' _ => ?_⟩
                  · unfold single at hi; split at hi
                    · rename_i e; simp [e]
                    · exact absurd rfl hi
                  · unfold evalArr
                    simp only [hop, hats, hargs, ht, hi, hfs, hs, hv, hys, if_pos hc, if_pos he, f2 τ (ht' k (.inr (by simp))), Option.map_some, h0]
                · cases h
              · cases h
            · rename_i et' v' hnm
              split at h
              · rename_i ys hys
                split at h
                · rename_i he
                  obtain ⟨σ1, hfill, h⟩ := Option.map_eq_some_iff.1 h
                  injection h with h0 h; injection h with h1 h2; subst h1; subst h2
                  obtain ⟨f1, f2⟩ := fillAt_local hfill
                  obtain ⟨rd, hf⟩ := foot_nil (H := H) (σ := σ) (k := k) hop hp hargs hs (by first | exact .inl ⟨_, rfl⟩ | exact .inr ⟨_, rfl⟩)
                  rw [hf]
                  refine ⟨_, [], fun i hi => ?_, fun h => absurd rfl h, f1, fun τ ht' _ => ?_⟩
                  · unfold single at hi; split at hi
                    · rename_i e; simp [e]
                    · exact absurd rfl hi
                  · unfold evalArr
                    simp only [hop, hats, hargs, ht, hi, hfs, hs, hv, hys, if_pos hc, if_pos he, f2 τ (ht' k (.inr (by simp))), Option.map_some, h0]
                · cases h
              · cases h
            · cases h
          · cases h
        · cases h
      · cases h
    · cases h
  · cases h
end

theorem closure_local {σ τ : Heap} : ∀ (n : Nat) (ids : List Nat), (∀ i ∈ closure σ n ids, τ[i]? = σ[i]?) → closure τ n ids = closure σ n ids
  | 0, _, _ => rfl
  | n + 1, ids, h => by
    unfold closure at h ⊢
    have hsame : ids.flatMap (idsAt τ) = ids.flatMap (idsAt σ) := by
      have : ∀ l : List Nat, (∀ i ∈ l, i ∈ ids) → l.flatMap (idsAt τ) = l.flatMap (idsAt σ) := by
        intro l
        induction l with
        | nil => intro _; rfl
        | cons a l ih =>
          intro hl
          simp only [List.flatMap_cons]
          have e : τ[a]? = σ[a]? := by
            refine h a ?_
            obtain ⟨t, ht⟩ := addNew_prefix (ids.flatMap (idsAt σ)) ids
            exact closure_mem _ _ _ _ (by rw [ht]; simp [hl a (by simp)])
          rw [ih fun i hi => hl i (by simp [hi])]
          unfold idsAt
          rw [e]
      exact this ids fun _ h => h
    rw [hsame]
    exact closure_local n _ h

theorem mapM_congr {α β : Type} {f g : α → Option β} : ∀ {l : List α}, (∀ x ∈ l, f x = g x) → l.mapM f = l.mapM g
  | [], _ => rfl
  | x :: l, h => by rw [List.mapM_cons, List.mapM_cons, h x (by simp), mapM_congr fun y hy => h y (by simp [hy])]

theorem subHeap_local {σ τ : Heap} {ids : List Nat} (h : ∀ i ∈ ids, τ[i]? = σ[i]?) : subHeap τ ids = subHeap σ ids := by
  unfold subHeap
  exact mapM_congr fun i hi => by rw [h i hi]

/-- What comes back of a call, as an update. -/
def backPat (ids : List Nat) (h : Heap) (n : Nat) : Nat → Option Ob := fun i => if ids.contains i then some ((Heap.ob h (idx ids i)).ren (renum ids n)) else none
theorem backTo_patch {ids : List Nat} {h σ : Heap} : backTo ids h σ = patch (backPat ids h σ.length) ((h.drop ids.length).map (Ob.ren (renum ids σ.length))) σ := by
  unfold backTo patch
  congr 1
  apply List.map_congr_left
  rintro ⟨o, i⟩ _
  unfold backPat
  simp only
  split <;> rfl

section
variable {P : Program} {H : Hints} {run : RunF} {ops : List Oper} {fr : Fr} {σ σ' : Heap} {k : Nat} {o : Oper} {v : AV}

theorem CallOut_local {f : FuncId} {as : List AV} (h : CallOut H run f as σ (.ret v σ')) :
    Local [] (closure σ 6 (addNew [] ((as.map (AV.handed (H.own f))).flatMap AV.ids2))) true σ σ' fun τ τ' => CallOut H run f as τ (.ret v τ') := by
  obtain ⟨ids, σc, q, h', hids, hs, hrun, hlen, hout⟩ := h
  rcases hout with ⟨u, v', rfl, hw, hout⟩ | ⟨x, _, hout⟩
  case inr => cases hout
  injection hout with h1 h2
  subst h1; subst h2
  rw [← hids]
  refine ⟨backPat ids h' σ.length, _, fun i hi => ?_, fun _ => rfl, backTo_patch, fun τ ht hl => ?_⟩
  · unfold backPat at hi
    split at hi
    · rename_i hc; simpa using hc
    · exact absurd rfl hi
  · have hl := hl rfl
    have ht' : ∀ i ∈ ids, τ[i]? = σ[i]? := fun i hi => ht i (.inr hi)
    have e1 : ids = closure τ 6 (addNew [] ((as.map (AV.handed (H.own f))).flatMap AV.ids2)) := by
      rw [closure_local 6 _ (fun i hi => ht' i (by rw [hids]; exact hi))]; exact hids
    refine ⟨ids, σc, .ret u, h', e1, by rw [subHeap_local ht']; exact hs, hrun, hlen, .inl ⟨u, v', rfl, hw, ?_⟩⟩
    rw [hl, backTo_patch, hl]

theorem Pans_local {x : E} (h : Pans P H run o fr σ x σ') : ∃ wr, Local [] wr true σ σ' fun τ τ' => Pans P H run o fr τ x τ' := by
  cases h with
  | panic y t u h hx => exact ⟨[], Local.still fun τ _ => .panic y t u h hx⟩
  | call c f as x σ' h hc ho =>
    obtain ⟨ids, σc, q, h', hids, hs, hrun, hlen, hout⟩ := ho
    rcases hout with ⟨u, v', _, hw, hout⟩ | ⟨x', rfl, hout⟩
    case inl => cases hout
    injection hout with h1 h2
    subst h1; subst h2
    refine ⟨ids, backPat ids h' σ.length, _, fun i hi => ?_, fun _ => rfl, backTo_patch, fun τ ht hl => ?_⟩
    · unfold backPat at hi
      split at hi
      · rename_i hc; simpa using hc
      · exact absurd rfl hi
    · have hl := hl rfl
      have ht' : ∀ i ∈ ids, τ[i]? = σ[i]? := fun i hi => ht i (.inr hi)
      have e1 : ids = closure τ 6 (addNew [] ((as.map (AV.handed (H.own f))).flatMap AV.ids2)) := by
        rw [closure_local 6 _ (fun i hi => ht' i (by rw [hids]; exact hi))]; exact hids
      refine .call c f as x _ h hc ⟨ids, σc, .pan x, h', e1, by rw [subHeap_local ht']; exact hs, hrun, hlen, .inr ⟨x, rfl, ?_⟩⟩
      rw [← hl, ← backTo_patch]

theorem footOf_op (hb : ∀ c, o.op = .call c → ∃ b, c.callee = .builtin b) (τ : Heap) : footOf P H.own ops fr τ k o = footOf P H.own ops fr σ k o := by
  unfold footOf
  split
  · rename_i c hop
    obtain ⟨b, hb⟩ := hb c hop
    simp only [hb]
  all_goals rfl

theorem footOf_call {c : Call} {f : FuncId} {as : List AV} (h : o.op = .call c) (hc : callOf P fr c = some (f, as)) :
    footOf P H.own ops fr σ k o = ⟨[], closure σ 6 (addNew [] ((as.map (AV.handed (H.own f))).flatMap AV.ids2)), false, true⟩ := by
  obtain ⟨ce, args, ats⟩ := c
  cases ce with
  | builtin b =>
    exfalso
    unfold callOf at hc
    split at hc
    · split at hc
      · cases hc
      · cases hc
    · cases hc
  | value f => simp only [footOf, h, hc]
  | invoke r m => simp only [footOf, h, hc]

theorem Does.local (h : Does P H run ops o fr σ k v σ') : Local (footOf P H.own ops fr σ k o).rd (footOf P H.own ops fr σ k o).wr (footOf P H.own ops fr σ k o).dep σ σ' fun τ τ' =>
    Does P H run ops o fr τ k v τ' ∧ footOf P H.own ops fr τ k o = footOf P H.own ops fr σ k o := by
  cases h with
  | op v σ' h hb =>
    unfold evalOp at h
    split at h
    · rename_i b v' hp
      injection h with h; injection h with h0 h; injection h with h1 h2; subst h0; subst h1; subst h2
      exact Local.still fun τ _ => ⟨.op _ _ (by unfold evalOp; rw [hp]) hb, footOf_op hb τ⟩
    · rename_i hp
      obtain ⟨pat, e, h1, h2, h3, h4⟩ := evalHeap_local h hp
      exact ⟨pat, e, h1, fun he => (by have := h2 he; cases this), h3, fun τ ht _ => ⟨.op _ _ (by unfold evalOp; rw [hp]; exact h4 τ ht (fun h => by cases h)) hb, footOf_op hb τ⟩⟩
  | arr v σ' h hb h0 =>
    subst h0
    obtain ⟨pat, e, h1, h2, h3, h4⟩ := evalArr_local (H := H) h
    exact ⟨pat, e, h1, fun he => (by have := h2 he; cases this), h3, fun τ ht _ => ⟨.arr _ _ (h4 τ ht (fun h => by cases h)) hb rfl, footOf_op hb τ⟩⟩
  | none et h hb => exact Local.still fun τ _ => ⟨.none et h hb, footOf_op hb τ⟩
  | call c f as v σ' h hc ho =>
    have hf : ∀ τ : Heap, footOf P H.own ops fr τ k o = ⟨[], closure τ 6 (addNew [] ((as.map (AV.handed (H.own f))).flatMap AV.ids2)), false, true⟩ := fun τ => footOf_call h hc
    have hl := CallOut_local ho
    simp only [hf]
    generalize hcl : closure σ 6 (addNew [] ((as.map (AV.handed (H.own f))).flatMap AV.ids2)) = cl at hl ⊢
    refine hl.mono fun τ τ' ht hd => ⟨.call c f as v τ' h hc hd, ?_⟩
    have := closure_local (σ := σ) (τ := τ) 6 (addNew [] ((as.map (AV.handed (H.own f))).flatMap AV.ids2)) fun i hi => ht i (.inr (by rw [hcl] at hi; exact hi))
    rw [this, hcl]
  | more x id s p q h hx hs hp hq =>
    have hf : ∀ τ : Heap, footOf P H.own ops fr τ k o = ⟨[], [id], false, false⟩ := fun τ => by simp only [footOf, h, hx]
    rw [hf σ]
    exact Local.set fun τ ht => ⟨.more x id s p q h hx (ht.trans hs) hp hq, hf τ⟩
  | over x id s p h hx hs hp =>
    have hf : ∀ τ : Heap, footOf P H.own ops fr τ k o = ⟨[], [id], false, false⟩ := fun τ => by simp only [footOf, h, hx]
    rw [hf σ]
    exact Local.still fun τ ht => ⟨.over x id s p h hx ((ht id (.inr (by simp))).trans hs) hp, hf τ⟩
end
end Go.Den

