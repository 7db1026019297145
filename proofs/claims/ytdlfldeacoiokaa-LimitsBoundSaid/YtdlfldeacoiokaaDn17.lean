/- Regions whose operations come in their order. -/
import Derived.Test.YtdlfldeacoiokaaDn16
namespace Go.Den
open Go

section
variable {P : Program} {σ σ' : Heap} {ρ : Gr} {S : Cells} {w : World} {fr : Fr} {a : Act} {o : Oper}

theorem run_callFunc {f : FuncId} {args : Array Value} (hf : Enters P f) : (callFunc f args).run P w = .ok (.enter f args) w := by
  obtain ⟨fn, h1, h2, h3⟩ := hf
  have h2' : fn.name ≠ "runtime.NumGoroutine" := by simpa using h2
  have h3' : fn.body ≠ none := by intro e; rw [e] at h3; cases h3
  simp [callFunc, h1, h2', h3']

theorem run_enter {ev : Operand → Value} {c : Call} {x : Operand} {f : FuncId} {cap : Array Value} (h : o.op = .call c) (hc : c.callee = .value x) (he : ev x = .func (.func f) #[] cap)
    (hf : Enters P f) : (execOp ev o).run P w = .ok (.enter f (c.args.map ev ++ cap)) w := by
  simp only [execOp, h, resolve, hc, he, Deferred.ofValue, Sem.run_bind, Sem.run_pure, Result.andThen_ok, invoke]
  rw [run_callFunc hf]
  simp

theorem run_method {t : TypeId} {i : TypeInfo} {m : Method} {d : TypeDesc} {f : FuncId} {v : Value} {name : String} (hi : P.info? t = some i) (hm : i.methods.find? (·.name == name) = some m) (hd : P.underlying t = some d)
    (hp : ∀ e, d ≠ .pointer e) (hf : m.func = some (f, false)) (hpath : m.path.isEmpty = true) (n : Nat) : (method (n + 1) t v name).run P w = .ok (f, v) w := by
  have hp0 : m.path = #[] := by simpa using hpath
  have hp1 : m.path.toList = [] := by rw [hp0]
  simp only [method, typeInfo, Sem.run_bind, run_program, Result.andThen_ok, hi, Sem.run_pure, hm, hp1, follow, hf, receiverAt, run_underlying hd]
  cases d <;> first | exact absurd rfl (hp _) | rfl

theorem run_invoke {ev : Operand → Value} {c : Call} {x : Operand} {name : String} {t : TypeId} {v : Value} {f : FuncId} (h : o.op = .call c) (hc : c.callee = .invoke x name) (he : ev x = .iface t v)
    (hm : methodOf P t name = some f) (hf : Enters P f) : (execOp ev o).run P w = .ok (.enter f (#[v] ++ c.args.map ev)) w := by
  unfold methodOf at hm
  split at hm
  · rename_i i hi
    split at hm
    · rename_i m hmm
      split at hm
      · cases hm
      · rename_i d f' hnp hd hfun
        split at hm
        · rename_i hpath
          injection hm with hm; subst hm
          have hrm := run_method (w := w) (v := v) hi hmm hd (fun e he => hnp e he) hfun hpath (P.types.size + (Made.depth - 1))
          have e : P.types.size + (Made.depth - 1) + 1 = P.types.size + Made.depth := rfl
          rw [e] at hrm
          simp only [execOp, h, resolve, hc, he, Sem.run_bind, Sem.run_pure, Result.andThen_ok, invoke]
          have e1 : (#[Value.iface t v] ++ Array.map ev c.args)[0]? = some (.iface t v) := by rw [Array.getElem?_append_left (by simp)]; rfl
          have e2 : (#[Value.iface t v] ++ Array.map ev c.args).extract 1 (#[Value.iface t v] ++ Array.map ev c.args).size = Array.map ev c.args := by
            apply Array.ext'
            simp
            exact List.take_of_length_le (by simp)
          simp only [e1, callMethod, e2, Sem.run_bind, run_program, Result.andThen_ok, hrm]
          exact run_callFunc hf
        · cases hm
      · cases hm
    · cases hm
  · cases hm

theorem run_panic {ev : Operand → Value} {x : Operand} {t : TypeId} {v : Value} (h : o.op = .panic x) (e : ev x = .iface t v) :
    (execOp ev o).run P w = .halt (.panic (.iface t v)) w := by
  simp [execOp, h, go_sem, Instr.panic, e]

theorem eval_func (a : Act) (f : FuncId) : a.eval (.func f) = .func (.func f) #[] #[] := by simp [Act.eval]

theorem run_next_more {ev : Operand → Value} {x : Operand} {b : Nat} {s : ByteArray} {pos : Nat} (h : o.op = .next x true) (e : ev x = .pointer (some ⟨b, 0, none⟩)) (hh : w.heap[b]? = some (.stringIter s pos)) (hp : pos < s.size) :
    (execOp ev o).run P w = .ok (.value (.tuple #[.bool true, goInt pos, .int .i32 (Utf8.decode s pos).1])) { w with heap := w.heap.setIfInBounds b (.stringIter s (pos + (Utf8.decode s pos).2)) } := by
  simp [execOp, h, Instr.next, e, getObj, setObj, Sem.run, hh, hp]
theorem run_next_over {ev : Operand → Value} {x : Operand} {b : Nat} {s : ByteArray} {pos : Nat} (h : o.op = .next x true) (e : ev x = .pointer (some ⟨b, 0, none⟩)) (hh : w.heap[b]? = some (.stringIter s pos)) (hp : ¬ pos < s.size) :
    (execOp ev o).run P w = .ok (.value (.tuple #[.bool false])) w := by
  simp [execOp, h, Instr.next, e, getObj, Sem.run, hh, hp]

theorem VA3_undef {cv : Value} : VA3 P σ ρ S w .undef cv := trivial
theorem VA3_skip : VA3 P σ ρ S w (.tup []) undef := ⟨#[], rfl, rfl, by simp⟩
theorem VA3_skip_inv {cv : Value} (h : VA3 P σ ρ S w (.tup []) cv) : cv = undef := by
  obtain ⟨arr, h1, h2, _⟩ := h
  rw [h1]; unfold undef
  rw [show arr = #[] from Array.eq_empty_of_size_eq_zero h2]

/-- The arguments of a call. -/
theorem args_ok (hf : FR P σ ρ S w fr a.tmps) {args : Array Operand} {ats : Array TypeId} {as : List AV} (hs : args.size = ats.size)
    (h : ((args.toList.zip ats.toList).mapM fun (x, t) => evalT P t fr x) = some as) :
    (args.map a.eval).size = as.length ∧ ∀ (j : Nat) (v : AV), as[j]? = some v → ∃ cv, (args.map a.eval)[j]? = some cv ∧ VA3 P σ ρ S w v cv := by
  obtain ⟨h1, h2⟩ := mapM_some_get h
  refine ⟨by rw [h1]; simp [hs], fun j v hj => ?_⟩
  obtain ⟨⟨x, t⟩, h3, h4⟩ := mapM_some_back h j v hj
  rw [List.getElem?_zip_eq_some] at h3
  refine ⟨a.eval x, ?_, evalT_ok hf h4⟩
  rw [Array.getElem?_map]
  have : args[j]? = some x := by simpa using h3.1
  rw [this]; rfl

theorem put_defers (a : Act) (d : Option Tmp) (v : Value) : (a.put d v).defers = a.defers := by cases d <;> rfl

/-- Room for new objects. -/
theorem Rel.more (hr : Rel P σ ρ S w) (n : Nat) : Rel P (σ ++ List.replicate n .hole) (ρ ++ List.replicate n none) S w ∧ Ext σ ρ S w (σ ++ List.replicate n .hole) (ρ ++ List.replicate n none) S w := by
  have hs : ∀ {i : Nat} {q : Ob}, σ[i]? = some q → (σ ++ List.replicate n .hole)[i]? = some q := fun {i q} h => by
    rw [List.getElem?_append_left (List.getElem?_eq_some_iff.1 h).1]; exact h
  have hg : ∀ {i : Nat} {q : Ob}, σ[i]? = some q → (ρ ++ List.replicate n none)[i]? = ρ[i]? := fun {i q} h => by
    rw [List.getElem?_append_left (by rw [hr.len]; exact (List.getElem?_eq_some_iff.1 h).1)]
  have hb : ∀ {i b c : Nat}, (ρ ++ List.replicate n none)[i]? = some (some (b, c)) → ρ[i]? = some (some (b, c)) := fun {i b c} h => by
    rcases Nat.lt_or_ge i ρ.length with hi | hi
    · rwa [List.getElem?_append_left hi] at h
    · rw [List.getElem?_append_right hi, List.getElem?_replicate] at h
      split at h <;> simp at h
  have hbs : ∀ {i : Nat} {q : Ob}, (σ ++ List.replicate n .hole)[i]? = some q → σ[i]? = some q ∨ (q = .hole ∧ σ.length ≤ i) := fun {i q} h => by
    rcases Nat.lt_or_ge i σ.length with hi | hi
    · rw [List.getElem?_append_left hi] at h; exact .inl h
    · rw [List.getElem?_append_right hi, List.getElem?_replicate] at h
      split at h
      · injection h with h; exact .inr ⟨h.symm, hi⟩
      · cases h
  have he : Ext σ ρ S w (σ ++ List.replicate n .hole) (ρ ++ List.replicate n none) S w :=
    ⟨fun _ _ h => ⟨h, rfl⟩, fun i cs h => ⟨⟨cs, hs h⟩, hg h⟩, fun i t m h => .inl ⟨m, Nat.le_refl _, hs h, fun _ => hg h⟩, fun i r h => ⟨⟨r, hs h⟩, hg h⟩, fun i h => hs h, fun _ _ _ => rfl,
      fun i _ c h => .inr ⟨i, c, hb h⟩, fun _ _ h => .inl h, Nat.le_refl _, rfl, rfl, rfl⟩
  refine ⟨⟨by simp [hr.len], ?_, ?_, ?_, ?_, fun i b c h => hr.lt i b c (hb h), fun i j b c c' h h' => hr.inj i j b c c' (hb h) (hb h'), hr.cells, hr.glob.mono he⟩, he⟩
  · intro i cs h
    rcases hbs h with h | ⟨h, _⟩
    · obtain ⟨b, c, arr, T, h1, h2, h3, h4, h5⟩ := hr.box i cs h
      exact ⟨b, c, arr, T, (hg h).trans h1, h2, h3, fun j v hj => let ⟨h6, x, h7, h8⟩ := h4 j v hj; ⟨h6, x, h7, h8.mono he⟩, h5⟩
    · cases h
  · intro i et m b c h h'
    rcases hbs h with h | ⟨h, _⟩
    · exact hr.vec i et m b c h (hb h')
    · cases h
  · intro i r h
    rcases hbs h with h | ⟨h, _⟩
    · obtain ⟨b, c, ob, h1, h2⟩ := hr.raw i r h
      exact ⟨b, c, ob, (hg h).trans h1, h2⟩
    · cases h
  · intro i h
    rcases hbs h with h' | ⟨_, hi⟩
    · exact (hg h').trans (hr.hole i h')
    · have hlt := (List.getElem?_eq_some_iff.1 h).1
      simp at hlt
      rw [List.getElem?_append_right (by rw [hr.len]; exact hi), List.getElem?_replicate, if_pos (by rw [hr.len]; omega)]

/-- A string's iterator moves on. -/
theorem Rel.setRaw (hr : Rel P σ ρ S w) {id b c : Nat} {r r' : Raw} {ob : Obj} (hb : σ[id]? = some (.raw r)) (hid : ρ[id]? = some (some (b, c))) (hok : RawOk r' ob) :
    Rel P (σ.set id (.raw r')) ρ S { w with heap := w.heap.setIfInBounds b ob } ∧ Ext σ ρ S w (σ.set id (.raw r')) ρ S { w with heap := w.heap.setIfInBounds b ob } := by
  have hidl : id < σ.length := (List.getElem?_eq_some_iff.1 hb).1
  have hbl := hr.lt _ _ _ hid
  have hnS : ∀ o, ¬ S b o := by
    obtain ⟨b', c', _, h1, _, _, h4⟩ := hr.raw id r hb
    rw [hid] at h1; injection h1 with h1; injection h1 with h1; injection h1 with h1 _
    subst h1; exact h4
  have hoth : ∀ k, k ≠ b → ({ w with heap := w.heap.setIfInBounds b ob } : World).heap[k]? = w.heap[k]? := fun k hk => Array.getElem?_setIfInBounds_ne (fun e => hk e.symm)
  have hself : ({ w with heap := w.heap.setIfInBounds b ob } : World).heap[b]? = some ob := by simp [hbl]
  have hcellS : ∀ b' o', S b' o' → ({ w with heap := w.heap.setIfInBounds b ob } : World).cell? ⟨b', o', none⟩ = w.cell? ⟨b', o', none⟩ := fun b' o' h =>
    cell_of_heap (hoth b' (by rintro rfl; exact hnS _ h))
  have hkeep : ∀ {i : Nat} {q : Ob}, σ[i]? = some q → (∀ r, q ≠ .raw r) → (σ.set id (.raw r'))[i]? = some q := fun {i q} h hq => by
    rw [List.getElem?_set_ne (by rintro rfl; rw [hb] at h; injection h with h; exact hq r h.symm)]; exact h
  have he : Ext σ ρ S w (σ.set id (.raw r')) ρ S { w with heap := w.heap.setIfInBounds b ob } := by
    refine ⟨fun b' o' h => ⟨h, hcellS b' o' h⟩, fun i ds h => ⟨⟨ds, hkeep h (by simp)⟩, rfl⟩, fun i t m h => .inl ⟨m, Nat.le_refl _, hkeep h (by simp), fun _ => rfl⟩, fun i q h => ⟨?_, rfl⟩, fun i h => hkeep h (by simp),
      fun k hk hn => hoth k (by rintro rfl; exact hn id c hid), fun i _ c h => .inr ⟨i, c, h⟩, fun _ _ h => .inl h, by simp, rfl, rfl, rfl⟩
    by_cases e : i = id
    · subst e; exact ⟨r', by simp [hidl]⟩
    · exact ⟨q, by rw [List.getElem?_set_ne (fun e' => e e'.symm)]; exact h⟩
  refine ⟨⟨by simp [hr.len], ?_, ?_, ?_, ?_, fun i b' c' h => by have := hr.lt i b' c' h; simpa using this, hr.inj, ?_, hr.glob.mono he⟩, he⟩
  · intro i ds h
    rcases set_cases h with ⟨_, h, _⟩ | ⟨hne, h⟩
    · cases h
    · obtain ⟨b', c', arr0, T0, h1, h2, h3, h4, h5⟩ := hr.box i ds h
      have hbb : b' ≠ b := by rintro rfl; exact hne (hr.inj _ _ _ _ _ h1 hid)
      exact ⟨b', c', arr0, T0, h1, (hoth b' hbb).trans h2, h3, fun j v hj => let ⟨h6, x, h7, h8⟩ := h4 j v hj; ⟨h6, x, h7, h8.mono he⟩, h5⟩
  · intro i et n b' c' h h'
    rcases set_cases h with ⟨_, h, _⟩ | ⟨hne, h⟩
    · cases h
    · obtain ⟨arr0, T0, fs, h1, h2⟩ := hr.vec i et n b' c' h h'
      have hbb : b' ≠ b := by rintro rfl; exact hne (hr.inj _ _ _ _ _ h' hid)
      exact ⟨arr0, T0, fs, (hoth b' hbb).trans h1, h2⟩
  · intro i q h
    rcases set_cases h with ⟨rfl, h, _⟩ | ⟨hne, h⟩
    · injection h with h; subst h
      exact ⟨b, c, ob, hid, hself, hok, hnS⟩
    · obtain ⟨b', c', o', h1, h2, h3, h4⟩ := hr.raw i q h
      have hbb : b' ≠ b := by rintro rfl; exact hne (hr.inj _ _ _ _ _ h1 hid)
      exact ⟨b', c', o', h1, (hoth b' hbb).trans h2, h3, h4⟩
  · intro i h
    rcases set_cases h with ⟨_, h, _⟩ | ⟨_, h⟩
    · cases h
    · exact hr.hole i h
  · intro b' o' h
    obtain ⟨v, hv⟩ := hr.cells b' o' h
    exact ⟨v, by rw [hcellS b' o' h]; exact hv⟩

/-- What a call enters. -/
theorem callOf_ok (hf : FR P σ ρ S w fr a.tmps) {c : Call} {f : FuncId} {as : List AV} (ho : o.op = .call c) (h : callOf P fr c = some (f, as)) :
    ∃ cargs : Array Value, cargs.size = as.length ∧ (∀ (j : Nat) (v : AV), as[j]? = some v → ∃ cv, cargs[j]? = some cv ∧ VA3 P σ ρ S w v cv) ∧ (Enters P f → (execOp a.eval o).run P w = .ok (.enter f cargs) w) := by
  unfold callOf at h
  split at h
  · rename_i hs
    split at h
    · rename_i as0 has
      obtain ⟨h1, h2⟩ := args_ok hf hs has
      have hplain : ∀ (x : Operand) (f' : FuncId), c.callee = .value x → a.eval x = .func (.func f') #[] #[] → f' = f → as0 = as →
          ∃ cargs : Array Value, cargs.size = as.length ∧ (∀ (j : Nat) (v : AV), as[j]? = some v → ∃ cv, cargs[j]? = some cv ∧ VA3 P σ ρ S w v cv) ∧ (Enters P f → (execOp a.eval o).run P w = .ok (.enter f cargs) w) := by
        rintro x f' hc hx rfl rfl
        exact ⟨_, h1, h2, fun hen => by rw [run_enter ho hc hx hen]; simp⟩
      split at h
      · rename_i f' hc
        injection h with h; injection h with h3 h4
        exact hplain _ _ hc (eval_func a f') h3 h4
      · rename_i u hc
        split at h
        · rename_i f' hu
          injection h with h; injection h with h3 h4
          have hx : VA1 P σ ρ S w (.fn f') (a.eval (.tmp u)) := evalO_ok hf (x := .tmp u) hu
          exact hplain _ _ hc hx h3 h4
        · rename_i f' ps hu
          injection h with h; injection h with h3 h4
          subst h3; subst h4
          obtain ⟨cap, hx, hcs, hcap⟩ : VA1 P σ ρ S w (.clo f' ps) (a.eval (.tmp u)) := evalO_ok hf (x := .tmp u) hu
          refine ⟨c.args.map a.eval ++ cap, by simp [hcs]; simpa using h1, fun j v hj => ?_, fun hen => run_enter ho hc hx hen⟩
          rcases Nat.lt_or_ge j as0.length with hl | hl
          · rw [List.getElem?_append_left hl] at hj
            obtain ⟨cv, h5, h6⟩ := h2 j v hj
            exact ⟨cv, by rw [Array.getElem?_append_left (by rw [h1]; exact hl)]; exact h5, h6⟩
          · rw [List.getElem?_append_right hl, List.getElem?_map] at hj
            obtain ⟨p, hp, rfl⟩ := Option.map_eq_some_iff.1 hj
            obtain ⟨b, c', h5, h6, h7⟩ := hcap _ p hp
            refine ⟨_, ?_, ⟨b, c', h5, h6, rfl⟩⟩
            rw [Array.getElem?_append_right (by rw [h1]; exact hl), h1]
            exact h7
        · cases h
      · rename_i u name hc
        split at h
        · rename_i t x hu
          split at h
          · rename_i f' v hm hun
            injection h with h; injection h with h3 h4
            subst h3; subst h4
            have hx : VE P w S (.ifc t x) (a.eval (.tmp u)) := evalO_ok hf (x := .tmp u) hu
            generalize hcv : a.eval (.tmp u) = cv at hx
            cases hx with
            | ifc _ _ vv hv =>
              refine ⟨#[vv] ++ c.args.map a.eval, by (have h1' : c.args.size = as0.length := by simpa using h1); simp; omega, fun j q hj => ?_, fun hen => run_invoke ho hc hcv hm hen⟩
              cases j with
              | zero =>
                simp at hj; subst hj
                exact ⟨vv, by rw [Array.getElem?_append_left (by simp)]; rfl, (unfold1_ok hun hv).to3⟩
              | succ j =>
                obtain ⟨cv, h5, h6⟩ := h2 j q (by simpa using hj)
                refine ⟨cv, ?_, h6⟩
                rw [Array.getElem?_append_right (by simp)]
                simpa using h5
          · cases h
        · cases h
      · cases h
    · cases h
  · cases h

end

section
variable {R : Type} {run : RunF} {loop : Code → Fr → Heap → Option Out} {lr : Res → Heap → Option R} {lo : Out → Option R} {r : R}
variable {C : Ctx} {D : List Deferred} {ops : List Oper} {σ : Heap} {ρ : Gr} {S : Cells} {w : World} {fr : Fr} {a : Act} {o : Oper}

theorem OpOk.wp {P : Program} {v : AV} {σ' : Heap} {N : Act → World → Prop} {Q : Exit → Act → World → Prop} (h : OpOk P σ ρ S w a o v σ')
    (hN : ∀ cv w' ρ' S', Rel P σ' ρ' S' w' → Ext σ ρ S w σ' ρ' S' w' → VA3 P σ' ρ' S' w' v cv → N (a.put o.dst cv) w') : o.wp P a w N Q := by
  obtain ⟨n, cv, w', ρ', S', h1, h2, h3, h4, h5⟩ := h
  unfold Oper.wp
  rw [h1]
  rcases h2 with h2 | ⟨h2, h2'⟩
  · rw [h2, Oper.upon_value]; exact hN cv w' ρ' S' h3 h4 h5
  · rw [h2, Oper.upon_skip, ← h2']; exact hN cv w' ρ' S' h3 h4 h5

/-- What one operation does. -/
inductive Does (P : Program) (H : Hints) (run : RunF) (ops : List Oper) (o : Oper) (fr : Fr) (σ : Heap) (k : Nat) : AV → Heap → Prop
  | op (v : AV) (σ' : Heap) (h : evalOp P ops fr σ k o = some (true, v, σ')) (hb : ∀ c, o.op = .call c → ∃ b, c.callee = .builtin b) : Does P H run ops o fr σ k v σ'
  | call (c : Call) (f : FuncId) (as : List AV) (v : AV) (σ' : Heap) (h : o.op = .call c) (hc : callOf P fr c = some (f, as)) (ho : CallOut H run f as σ (.ret v σ')) : Does P H run ops o fr σ k v σ'
  | more (x : Operand) (id : Nat) (s : List UInt8) (p : Nat) (q : Nat × Nat) (h : o.op = .next x true) (hx : evalO fr x = some (.itr id)) (hs : σ[id]? = some (.raw (.iter s p))) (hp : p < s.length) (hq : Utf8.decode ⟨s.toArray⟩ p = q) :
      Does P H run ops o fr σ k (.tup [.e (.bool true), .e (.int .i64 p), .e (.int .i32 q.1)]) (σ.set id (.raw (.iter s (p + q.2))))
  | over (x : Operand) (id : Nat) (s : List UInt8) (p : Nat) (h : o.op = .next x true) (hx : evalO fr x = some (.itr id)) (hs : σ[id]? = some (.raw (.iter s p))) (hp : ¬ p < s.length) :
      Does P H run ops o fr σ k (.tup [.e (.bool false)]) σ

/-- How one operation panics. -/
inductive Pans (P : Program) (H : Hints) (run : RunF) (o : Oper) (fr : Fr) (σ : Heap) : E → Heap → Prop
  | panic (x : Operand) (t : TypeId) (v : E) (h : o.op = .panic x) (hx : evalO fr x = some (.e (.ifc t v))) : Pans P H run o fr σ (.ifc t v) σ
  | call (c : Call) (f : FuncId) (as : List AV) (x : E) (σ' : Heap) (h : o.op = .call c) (hc : callOf P fr c = some (f, as)) (ho : CallOut H run f as σ (.pan x σ')) : Pans P H run o fr σ x σ'

theorem denGo_inv {k : Nat} {Kn : Fr → Heap → T} {Kp : E → Heap → T} (h : (denGo C ops o fr σ k Kn Kp).go run loop lr lo = some r) :
    (∃ v σ', Does C.P C.H run ops o fr σ k v σ' ∧ (Kn (put fr o.dst v) σ').go run loop lr lo = some r) ∨ ∃ x σ', Pans C.P C.H run o fr σ x σ' ∧ (Kp x σ').go run loop lr lo = some r := by
  unfold denGo at h
  split at h
  · rename_i x hop
    split at h
    · rename_i t v hx
      exact .inr ⟨_, _, .panic x t v hop hx, h⟩
    · cases h
  · rename_i x hop
    split at h
    · rename_i id hx
      split at h
      · rename_i s p hs
        rcases go_br h with ⟨hp, h⟩ | ⟨hp, h⟩
        · exact .inl ⟨_, _, .more x id s p _ hop hx hs (of_decide_eq_true hp) rfl, h⟩
        · exact .inl ⟨_, _, .over x id s p hop hx hs (of_decide_eq_false hp), h⟩
      · cases h
    · cases h
  · rename_i b args ats hop
    split at h
    · rename_i ok v σ' he
      obtain ⟨rfl, h⟩ := go_must h
      exact .inl ⟨_, _, .op v σ' he (fun c hc => by rw [hop] at hc; injection hc with hc; subst hc; exact ⟨b, rfl⟩), h⟩
    · cases h
  · rename_i c _ hop
    split at h
    · rename_i f as hc
      obtain ⟨out, hout, h⟩ := callT_inv h
      cases out with
      | ret v σ' => exact .inl ⟨_, _, .call c f as v σ' hop hc hout, h⟩
      | pan x σ' => exact .inr ⟨_, _, .call c f as x σ' hop hc hout, h⟩
    · cases h
  · rename_i hnc
    split at h
    · rename_i ok v σ' he
      obtain ⟨rfl, h⟩ := go_must h
      exact .inl ⟨_, _, .op v σ' he (fun c hc => absurd hc (hnc c)), h⟩
    · cases h

theorem Does.wp (hp : PrimOk C.P C.H) (hrun : RunOk C.P run) {k : Nat} {v : AV} {σ' : Heap} {N : Act → World → Prop} {Q : Exit → Act → World → Prop} (h : Does C.P C.H run ops o fr σ k v σ') (hr : Rel C.P σ ρ S w) (hf : FR C.P σ ρ S w fr a.tmps)
    (hN : ∀ (cv : Value) (ρ' : Gr) (S' : Cells) (w' : World), Rel C.P σ' ρ' S' w' → Ext σ ρ S w σ' ρ' S' w' → VA3 C.P σ' ρ' S' w' v cv → N (a.put o.dst cv) w') : o.wp C.P a w N Q := by
  cases h with
  | op v σ' h hb => exact OpOk.wp (evalOp_ok hr hf h) fun cv w' ρ' S' h1 h2 h3 => hN cv ρ' S' w' h1 h2 h3
  | call c f as v σ' h hc ho =>
    obtain ⟨cargs, h1, h2, h3⟩ := callOf_ok (w := w) hf h hc
    obtain ⟨hen, hcall⟩ := CallOut_ok hp hrun hr h1 h2 ho
    unfold Oper.wp
    rw [h3 hen, Oper.upon_enter]
    refine Calls.mono hcall ?_
    rintro e w' ⟨ρ', S', h4, h5, cv, rfl, h6⟩
    exact hN cv ρ' S' w' h4 h5 h6
  | more x id s p q h hx hs hp hq =>
    subst hq
    obtain ⟨b, c, hid, _, e⟩ : VA1 C.P σ ρ S w (.itr id) (a.eval x) := evalO_ok hf hx
    obtain ⟨b', c', ob, g1, g2, g3, g4⟩ := hr.raw id _ hs
    rw [hid] at g1; injection g1 with g1; injection g1 with g1; injection g1 with g1 _; subst g1
    obtain ⟨sb, rfl, hsb⟩ := g3
    have hsb' : sb = ⟨s.toArray⟩ := by subst hsb; cases sb; simp
    have hsz : sb.size = s.length := by rw [← hsb]; exact Array.length_toList.symm
    have hp' : p < sb.size := by rw [hsz]; exact hp
    unfold Oper.wp
    rw [run_next_more h e g2 hp', Oper.upon_value]
    obtain ⟨r1, e1⟩ := hr.setRaw (r' := .iter s (p + (Utf8.decode sb p).2)) (ob := .stringIter sb (p + (Utf8.decode sb p).2)) hs hid ⟨sb, rfl, hsb⟩
    rw [hsb'] at r1 e1 ⊢
    refine hN _ _ _ _ r1 e1 ⟨_, rfl, rfl, fun j v hj => ?_⟩
    match j with
    | 0 => simp at hj; subst hj; exact ⟨_, rfl, VE.bool _⟩
    | 1 => simp at hj; subst hj; exact ⟨_, rfl, VE.int _ _⟩
    | 2 => simp at hj; subst hj; exact ⟨_, rfl, VE.int _ _⟩
    | j + 3 => simp at hj
  | over x id s p h hx hs hp =>
    obtain ⟨b, c, hid, _, e⟩ : VA1 C.P σ ρ S w (.itr id) (a.eval x) := evalO_ok hf hx
    obtain ⟨b', c', ob, g1, g2, g3, g4⟩ := hr.raw id _ hs
    rw [hid] at g1; injection g1 with g1; injection g1 with g1; injection g1 with g1 _; subst g1
    obtain ⟨sb, rfl, hsb⟩ := g3
    have hsz : sb.size = s.length := by rw [← hsb]; exact Array.length_toList.symm
    have hp' : ¬ p < sb.size := by rw [hsz]; exact hp
    unfold Oper.wp
    rw [run_next_over h e g2 hp', Oper.upon_value]
    refine hN _ _ _ _ hr (Ext.refl _ _ _ _) ⟨_, rfl, rfl, fun j v hj => ?_⟩
    match j with
    | 0 => simp at hj; subst hj; exact ⟨_, rfl, VE.bool _⟩
    | j + 1 => simp at hj

theorem Pans.wp (hp : PrimOk C.P C.H) (hrun : RunOk C.P run) {x : E} {σ' : Heap} {N : Act → World → Prop} {Q : Exit → Act → World → Prop} (h : Pans C.P C.H run o fr σ x σ') (hr : Rel C.P σ ρ S w) (hf : FR C.P σ ρ S w fr a.tmps)
    (hQ : ∀ (cv : Value) (ρ' : Gr) (S' : Cells) (w' : World), Rel C.P σ' ρ' S' w' → Ext σ ρ S w σ' ρ' S' w' → VE C.P w' S' x cv → Q (.panic [{ v := cv, recovered := false }]) a w') : o.wp C.P a w N Q := by
  cases h with
  | panic x t v h hx =>
    have hv : VE C.P w S (.ifc t v) (a.eval x) := evalO_ok hf hx
    unfold Oper.wp
    generalize he : a.eval x = cv at hv
    cases hv with
    | ifc _ _ u hu =>
      rw [run_panic h he, Oper.upon_panic]
      exact hQ _ ρ S w hr (Ext.refl _ _ _ _) (.ifc t v u hu)
  | call c f as x σ' h hc ho =>
    obtain ⟨cargs, h1, h2, h3⟩ := callOf_ok (w := w) hf h hc
    obtain ⟨hen, hcall⟩ := CallOut_ok hp hrun hr h1 h2 ho
    unfold Oper.wp
    rw [h3 hen, Oper.upon_enter]
    refine Calls.mono hcall ?_
    rintro e w' ⟨ρ', S', h4, h5, cv, rfl, h6⟩
    exact hQ cv ρ' S' w' h4 h5 h6

theorem denGo_ok (hp : PrimOk C.P C.H) (hrun : RunOk C.P run) {k : Nat} {Kn : Fr → Heap → T} {Kp : E → Heap → T} {N : Act → World → Prop} {Q : Exit → Act → World → Prop}
    (h : (denGo C ops o fr σ k Kn Kp).go run loop lr lo = some r) (hr : Rel C.P σ ρ S w) (hf : FR C.P σ ρ S w fr a.tmps)
    (hN : ∀ (fr' : Fr) (σ' : Heap) (ρ' : Gr) (S' : Cells) (w' : World) (a' : Act), a'.defers = a.defers → Rel C.P σ' ρ' S' w' → Ext σ ρ S w σ' ρ' S' w' → FR C.P σ' ρ' S' w' fr' a'.tmps → (Kn fr' σ').go run loop lr lo = some r → N a' w')
    (hQ : ∀ (x : E) (σ' : Heap) (ρ' : Gr) (S' : Cells) (w' : World) (cv : Value), Rel C.P σ' ρ' S' w' → Ext σ ρ S w σ' ρ' S' w' → VE C.P w' S' x cv → (Kp x σ').go run loop lr lo = some r → Q (.panic [{ v := cv, recovered := false }]) a w') :
    o.wp C.P a w N Q := by
  rcases denGo_inv h with ⟨v, σ', hd, hk⟩ | ⟨x, σ', hd, hk⟩
  · exact hd.wp hp hrun hr hf fun cv ρ' S' w' h1 h2 h3 => hN _ σ' ρ' S' w' _ (put_defers _ _ _) h1 h2 ((hf.mono h2).put o.dst h3) hk
  · exact hd.wp hp hrun hr hf fun cv ρ' S' w' h1 h2 h3 => hQ x σ' ρ' S' w' cv h1 h2 h3 hk

theorem FR.get {P : Program} (hf : FR P σ ρ S w fr a.tmps) {t : Nat} {v : AV} (h : fr[t]? = some v) : ∃ cv, a.tmps[t]? = some cv ∧ VA3 P σ ρ S w v cv := hf.2 t v h

theorem FR.bool {P : Program} (hf : FR P σ ρ S w fr a.tmps) {t : Nat} {b : Bool} (h : fr[t]? = some (.e (.bool b))) : a.tmps[t]? = some (.bool b) := by
  obtain ⟨cv, h1, h2⟩ := hf.get h
  have : VE P w S (.bool b) cv := h2
  cases this
  exact h1

/-- A slot that holds a boolean may be written out. -/
theorem FR.lit {P : Program} (hf : FR P σ ρ S w fr a.tmps) {t : Nat} {b b' : Bool} (h : fr[t]? = some (.e (.bool b))) (he : b = b') : FR P σ ρ S w (fr.set t (.e (.bool b'))) a.tmps := by
  subst he
  refine ⟨by simpa using hf.1, fun u v hu => ?_⟩
  rw [List.getElem?_set] at hu
  split at hu
  · rename_i e
    subst e
    split at hu
    · injection hu with hu; subst hu
      exact hf.get h
    · cases hu
  · exact hf.2 u v hu

theorem yielded_bool {arr : Array Oper} {j dj : Nat} {b : Bool} (h : dstOf arr.toList j = some dj) (hb : a.tmps[dj]? = some (.bool b)) : yielded arr a.tmps j = some b := by
  unfold dstOf at h
  unfold yielded
  have : (arr[j]?).bind (·.dst) = some dj := by simpa using h
  simp only [this, Option.bind_some, hb]

theorem yielded_undef {arr : Array Oper} {j dj : Nat} (h : dstOf arr.toList j = some dj) (hb : a.tmps[dj]? = some undef) : yielded arr a.tmps j = none := by
  unfold dstOf at h
  unfold yielded
  have : (arr[j]?).bind (·.dst) = some dj := by simpa using h
  simp only [this, Option.bind_some, hb, undef]

/-- Slots of which nothing is said any more. -/
theorem FR.forget {P : Program} (hf : FR P σ ρ S w fr a.tmps) (d : Option Nat) (cv : Value) : FR P σ ρ S w (Go.Den.put fr d .undef) (a.put d cv).tmps := hf.put d VA3_undef

theorem put_len (fr : Fr) (d : Option Nat) (v : AV) : (put fr d v).length = fr.length := by cases d <;> simp [put]
theorem put_ne {fr : Fr} {d : Option Nat} {v : AV} {u : Nat} (h : d ≠ some u) : (put fr d v)[u]? = fr[u]? := by
  cases d with
  | none => rfl
  | some d => simp only [put]; rw [List.getElem?_set_ne]; rintro rfl; exact h rfl
theorem actput_ne {d : Option Nat} {v : Value} {u : Nat} (h : d ≠ some u) : (a.put d v).tmps[u]? = a.tmps[u]? := by
  cases d with
  | none => rfl
  | some d => simp only [Act.put]; rw [Array.getElem?_setIfInBounds_ne]; rintro rfl; exact h rfl

theorem foldl_put_ne : ∀ (g : List Oper) (fr : Fr) (u : Nat), (∀ q ∈ g, q.dst ≠ some u) → (g.foldl (fun a q => put a q.dst .undef) fr)[u]? = fr[u]?
  | [], _, _, _ => rfl
  | q :: g, fr, u, h => by
    simp only [List.foldl_cons]
    rw [foldl_put_ne g _ u fun q' hq => h q' (by simp [hq]), put_ne (h q (by simp))]

theorem evalGroup_ne {P : Program} {ops : List Oper} : ∀ (g : List Oper) (fr fr1 : Fr) (σ : Heap) (u : Nat), (∀ q ∈ g, q.dst ≠ some u) → evalGroup P ops g fr σ = some fr1 → fr1[u]? = fr[u]?
  | [], fr, fr1, _, _, _, h => by injection h with h; rw [h]
  | q :: g, fr, fr1, σ, u, hq, h => by
    unfold evalGroup at h
    split at h
    · rw [evalGroup_ne g _ fr1 σ u (fun q' hq' => hq q' (by simp [hq'])) h, put_ne (hq q (by simp))]
    · cases h

/-- The operations of a guard, where they are wanted: then what comes behind. -/
theorem group_wanted {P : Program} {arr : Array Oper} {Q : Exit → Act → World → Prop} {j dj : Nat} {b : Bool} (hdj : dstOf arr.toList j = some dj) :
    ∀ (g : List Oper) (fr fr0 fr1 : Fr) (ρ : Gr) (S : Cells) (w : World) (a : Act) (tail : List Oper), evalGroup P arr.toList g fr σ = some fr1 → (∀ q ∈ g, q.guard = some (j, b) ∧ q.dst ≠ some dj) →
      Rel P σ ρ S w → FR P σ ρ S w fr a.tmps → FR P σ ρ S w fr0 a.tmps → fr[dj]? = some (.e (.bool b)) → a.defers = D →
      (∀ (ρ' : Gr) (S' : Cells) (w' : World) (a' : Act), Rel P σ ρ' S' w' → Ext σ ρ S w σ ρ' S' w' → FR P σ ρ' S' w' fr1 a'.tmps → FR P σ ρ' S' w' (g.foldl (fun a q => put a q.dst .undef) fr0) a'.tmps →
        a'.defers = D → wpList P arr Q tail a' w') → wpList P arr Q (g ++ tail) a w
  | [], fr, fr0, fr1, ρ, S, w, a, tail, h, _, hr, hf, hf0, _, hd, k => by
    injection h with h; subst h
    exact k ρ S w a hr (Ext.refl _ _ _ _) hf hf0 hd
  | q :: g, fr, fr0, fr1, ρ, S, w, a, tail, h, hg, hr, hf, hf0, hb, hd, k => by
    unfold evalGroup at h
    split at h
    · rename_i v he
      refine wpList_step fun N hN => ?_
      have hw : Region.wanted q (yielded arr a.tmps) = true := by
        unfold Region.wanted
        rw [(hg q (by simp)).1]
        simp [yielded_bool hdj (hf.bool hb)]
      rw [if_pos hw]
      refine OpOk.wp (evalStill_ok hr hf he) fun cv w' ρ' S' h1 h2 h3 => hN _ _ ?_
      refine group_wanted hdj g _ (put fr0 q.dst .undef) fr1 ρ' S' w' _ tail h (fun q' hq' => hg q' (by simp [hq'])) h1 ((hf.mono h2).put q.dst h3) ((hf0.mono h2).forget q.dst cv) ?_ (by rw [put_defers]; exact hd) ?_
      · rw [put_ne (hg q (by simp)).2]; exact hb
      · intro ρ2 S2 w2 a2 k1 k2 k3 k4 k5
        exact k ρ2 S2 w2 a2 k1 (h2.trans k2) k3 k4 k5
    · cases h

/-- The operations of a guard, where they are not wanted. -/
theorem group_skipped {P : Program} {arr : Array Oper} {Q : Exit → Act → World → Prop} {j dj : Nat} {b w0 : Bool} (hdj : dstOf arr.toList j = some dj) (hne : b ≠ w0) :
    ∀ (g : List Oper) (fr : Fr) (ρ : Gr) (S : Cells) (w : World) (a : Act) (tail : List Oper), (∀ q ∈ g, q.guard = some (j, w0) ∧ q.dst ≠ some dj) →
      FR P σ ρ S w fr a.tmps → fr[dj]? = some (.e (.bool b)) → a.defers = D →
      (∀ (a' : Act), FR P σ ρ S w (g.foldl (fun a q => put a q.dst .undef) fr) a'.tmps → a'.defers = D → wpList P arr Q tail a' w) → wpList P arr Q (g ++ tail) a w
  | [], fr, ρ, S, w, a, tail, _, hf, _, hd, k => k a hf hd
  | q :: g, fr, ρ, S, w, a, tail, hg, hf, hb, hd, k => by
    have hw : Region.wanted q (yielded arr a.tmps) = false := by
      unfold Region.wanted
      rw [(hg q (by simp)).1]
      simp only [yielded_bool hdj (hf.bool hb)]
      simpa using hne
    refine wpList_skip hw ?_
    refine group_skipped hdj hne g _ ρ S w _ tail (fun q' hq' => hg q' (by simp [hq'])) (hf.forget q.dst _) ?_ (by rw [put_defers]; exact hd) k
    rw [put_ne (hg q (by simp)).2]; exact hb

theorem groupTo_spec {dj : Nat} : ∀ {l g : List Oper} {p : Oper} {r : List Oper}, groupTo dj l = some (g, p, r) → l = g ++ p :: r
  | [], _, _, _, h => by cases h
  | o :: l, g, p, r, h => by
    unfold groupTo at h
    split at h
    · split at h
      · injection h with h; injection h with h1 h2; injection h2 with h2 h3; subst h1; subst h2; subst h3; rfl
      · obtain ⟨⟨g', p', r'⟩, h1, h2⟩ := Option.map_eq_some_iff.1 h
        injection h2 with h2 h3; injection h3 with h3 h4; subst h2; subst h3; subst h4
        rw [groupTo_spec h1]; rfl
    · obtain ⟨⟨g', p', r'⟩, h1, h2⟩ := Option.map_eq_some_iff.1 h
      injection h2 with h2 h3; injection h3 with h3 h4; subst h2; subst h3; subst h4
      rw [groupTo_spec h1]; rfl

theorem fused_spec {ops : List Oper} {dj j : Nat} {w0 : Bool} {l g r : List Oper} {x y : Operand} {d : Option Nat} (h : fused ops dj j w0 l = some (g, x, y, d, r)) :
    ∃ p : Oper, l = g ++ p :: r ∧ p.op = .pick (.tmp dj) x y ∧ p.guard = none ∧ p.dst = d ∧ (∀ q ∈ g, q.guard = some (j, w0) ∧ q.dst ≠ some dj) ∧ aside g (cond w0 y x) = true := by
  unfold fused at h
  split at h
  · rename_i g' p r' hg
    split at h
    · rename_i c x' y' hop hgd
      split at h
      · rename_i hc
        injection h with h; injection h with h1 h; injection h with h2 h; injection h with h3 h; injection h with h4 h5
        subst h1; subst h2; subst h3; subst h4; subst h5
        obtain ⟨h1, h2, _, h4⟩ := hc
        subst h1
        refine ⟨p, groupTo_spec hg, hop, hgd, rfl, fun q hq => ?_, h4⟩
        have := List.all_eq_true.1 h2 q hq
        simp only [Bool.and_eq_true, beq_iff_eq, bne_iff_ne] at this
        exact ⟨this.1.2, this.2⟩
      · cases h
    · cases h
  · cases h

theorem aside_spec {g : List Oper} {x : Operand} (h : aside g x = true) {fr fr' : Fr} (he : ∀ u, (∀ q ∈ g, q.dst ≠ some u) → fr'[u]? = fr[u]?) : evalO fr' x = evalO fr x := by
  by_cases hx : ∃ u, x = .tmp u
  case neg =>
    cases x with
    | tmp u => exact absurd ⟨u, rfl⟩ hx
    | const v => cases v <;> first | rfl | (rename_i p; cases p <;> rfl)
    | _ => rfl
  obtain ⟨u, rfl⟩ := hx
  simp only [evalO]
  refine he u fun q hq => ?_
  have := List.all_eq_true.1 (show (g.all fun q => q.dst != some u) = true from h) q hq
  simpa using this

end
end Go.Den
