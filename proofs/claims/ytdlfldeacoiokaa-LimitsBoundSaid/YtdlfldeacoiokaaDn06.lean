/- Each operation that the interpreter carries out is carried out so by the model: variables in memory. -/
import Derived.Test.YtdlfldeacoiokaaDn05
namespace Go.Den
open Go

section
variable {P : Program} {σ : Heap} {ρ : Gr} {S : Cells} {w : World} {fr : Fr} {a : Act} {o : Oper}

theorem cell_lt {b o' : Nat} {v : Value} (h : w.cell? ⟨b, o', none⟩ = some v) : b < w.heap.size := World.block_lt_of_cell? w ⟨b, o', none⟩ h

theorem alloc_heap_old (ob : Obj) {k : Nat} (h : k < w.heap.size) : (w.alloc ob).heap[k]? = w.heap[k]? := heap_alloc_old w ob h
theorem cell_of_heap {w w' : World} {b o' : Nat} (h : w'.heap[b]? = w.heap[b]?) : w'.cell? ⟨b, o', none⟩ = w.cell? ⟨b, o', none⟩ := World.cell?_of_block (a := ⟨b, o', none⟩) h

theorem heap_lt {ob : Obj} {k : Nat} (h : w.heap[k]? = some ob) : k < w.heap.size := (Array.getElem?_eq_some_iff.1 h).1

theorem Rel.rho_lt (hr : Rel P σ ρ S w) {id b c : Nat} (h : ρ[id]? = some (some (b, c))) : b < w.heap.size := hr.lt id b c h

/-- A new block, at a place that was kept free. -/
theorem Ext.fillNew (hr : Rel P σ ρ S w) {id c : Nat} {ob : Ob} (hh : σ[id]? = some .hole) (o : Obj) :
    Ext σ ρ S w (σ.set id ob) (ρ.set id (some (w.heap.size, c))) S (w.alloc o) := by
  have hold : ∀ b, b < w.heap.size → (w.alloc o).heap[b]? = w.heap[b]? := fun b hb => alloc_heap_old _ hb
  have hne : ∀ {i : Nat} {q : Ob}, σ[i]? = some q → q ≠ .hole → id ≠ i := fun {i q} h hq => by rintro rfl; rw [hh] at h; injection h with h; exact hq h.symm
  have hs : ∀ {i : Nat} {q : Ob}, σ[i]? = some q → q ≠ .hole → (σ.set id ob)[i]? = some q := fun {i q} h hq => by rw [List.getElem?_set_ne (hne h hq)]; exact h
  have hg : ∀ {i : Nat} {q : Ob}, σ[i]? = some q → q ≠ .hole → (ρ.set id (some (w.heap.size, c)))[i]? = ρ[i]? := fun {i q} h hq => by rw [List.getElem?_set_ne (hne h hq)]
  refine ⟨fun b o' h => ⟨h, ?_⟩, fun i cs h => ⟨⟨cs, hs h (by simp)⟩, hg h (by simp)⟩, fun i t m h => .inl ⟨m, Nat.le_refl _, hs h (by simp), fun _ => hg h (by simp)⟩,
    fun i r h => ⟨⟨r, hs h (by simp)⟩, hg h (by simp)⟩, fun i h => hs h (by simp), fun b hb _ => hold b hb, ?_, fun _ _ h => .inl h, by simp, rfl, rfl, rfl⟩
  · obtain ⟨v, hv⟩ := hr.cells b o' h
    exact cell_of_heap (hold b (cell_lt hv))
  · intro i b c' h
    rcases set_cases h with ⟨_, h, _⟩ | ⟨_, h⟩
    · injection h with h; injection h with h1 h2; exact .inl (by omega)
    · exact .inr ⟨i, c', h⟩

/-- What lay there lies there; and the new object. -/
theorem Rel.fillNew (hr : Rel P σ ρ S w) {id c : Nat} {ob : Ob} (hh : σ[id]? = some .hole) (o : Obj) (hv : ∀ et n, ob ≠ .vec et n) (hhole : ob ≠ .hole)
    (hb : ∀ cs, ob = .box cs → ∃ arr T, o = .cells arr T (0, 0) ∧ arr.size = cs.length ∧ ∀ (j : Nat) (v : AV), cs[j]? = some v → v.one = true ∧ ∃ x, arr[j]? = some x ∧ VA1 P σ ρ S w v x)
    (hraw : ∀ r, ob = .raw r → RawOk r o) :
    Rel P (σ.set id ob) (ρ.set id (some (w.heap.size, c))) S (w.alloc o) ∧ Ext σ ρ S w (σ.set id ob) (ρ.set id (some (w.heap.size, c))) S (w.alloc o) := by
  have he := Ext.fillNew hr (c := c) (ob := ob) hh o
  have hold : ∀ b, b < w.heap.size → (w.alloc o).heap[b]? = w.heap[b]? := fun b hb => alloc_heap_old _ hb
  have hidl : id < ρ.length := by rw [hr.len]; exact (List.getElem?_eq_some_iff.1 hh).1
  have hself : (ρ.set id (some (w.heap.size, c)))[id]? = some (some (w.heap.size, c)) := by rw [List.getElem?_set, if_pos rfl, if_pos hidl]
  have hnoS : ∀ o', ¬ S w.heap.size o' := fun o' hS => by
    obtain ⟨v, hv⟩ := hr.cells _ _ hS
    have := cell_lt hv
    omega
  refine ⟨⟨by simp [hr.len], ?_, ?_, ?_, ?_, ?_, ?_, ?_, hr.glob.mono he⟩, he⟩
  · intro i cs h
    rcases set_cases h with ⟨rfl, h, _⟩ | ⟨hne, h⟩
    · obtain ⟨arr, T, rfl, h1, h2⟩ := hb cs h.symm
      exact ⟨w.heap.size, c, arr, T, hself, heap_alloc_new w _, h1, fun j v hj => let ⟨h6, x, h7, h8⟩ := h2 j v hj; ⟨h6, x, h7, h8.mono he⟩, hnoS⟩
    · obtain ⟨b, c', arr', T', h1, h2, h3, h4, h5⟩ := hr.box i cs h
      exact ⟨b, c', arr', T', by rw [List.getElem?_set_ne (fun e => hne e.symm)]; exact h1, (hold b (heap_lt h2)).trans h2, h3, fun j v hj => let ⟨h6, x, h7, h8⟩ := h4 j v hj; ⟨h6, x, h7, h8.mono he⟩, h5⟩
  · intro i et n b c' h h'
    rcases set_cases h with ⟨rfl, h, _⟩ | ⟨hne, h⟩
    · exact absurd h.symm (hv et n)
    · rw [List.getElem?_set_ne (fun e => hne e.symm)] at h'
      obtain ⟨arr', T', fs, h1, h2⟩ := hr.vec i et n b c' h h'
      exact ⟨arr', T', fs, (hold b (heap_lt h1)).trans h1, h2⟩
  · intro i r h
    rcases set_cases h with ⟨rfl, h, _⟩ | ⟨hne, h⟩
    · exact ⟨w.heap.size, c, o, hself, heap_alloc_new w _, hraw r h.symm, hnoS⟩
    · obtain ⟨b, c', o', h1, h2, h3, h4⟩ := hr.raw i r h
      exact ⟨b, c', o', by rw [List.getElem?_set_ne (fun e => hne e.symm)]; exact h1, (hold b (heap_lt h2)).trans h2, h3, h4⟩
  · intro i h
    rcases set_cases h with ⟨rfl, h, _⟩ | ⟨hne, h⟩
    · exact absurd h.symm hhole
    · rw [List.getElem?_set_ne (fun e => hne e.symm)]; exact hr.hole i h
  · intro i b c' h
    rcases set_cases h with ⟨_, h, _⟩ | ⟨_, h⟩
    · injection h with h; injection h with h1 h2; subst h1; simp
    · have := hr.lt i b c' h; simp; omega
  · intro i j b c1 c2 h h'
    rcases set_cases h with ⟨h0, h, _⟩ | ⟨_, h⟩ <;> rcases set_cases h' with ⟨h0', h', _⟩ | ⟨_, h'⟩
    · omega
    · injection h with h; injection h with h1 h2
      have := hr.lt j b c2 h'
      omega
    · injection h' with h'; injection h' with h1 h2
      have := hr.lt i b c1 h
      omega
    · exact hr.inj i j b c1 c2 h h'
  · intro b o' h
    obtain ⟨v, hv⟩ := hr.cells b o' h
    exact ⟨v, by rw [cell_of_heap (hold b (cell_lt hv))]; exact hv⟩

theorem VA3_one {v : AV} {cv : Value} (h1 : v.one = true) (hv : VA3 P σ ρ S w v cv) : VA1 P σ ρ S w v cv := by
  cases v <;> first | exact hv | (simp [AV.one] at h1)

/-- Nil slices that are laid in variables. -/
theorem promote_ok : ∀ (cs : List AV) {k : Nat} {σ σ' : Heap} {cs' : List AV}, promote cs k σ = some (cs', σ') → Rel P σ ρ S w → ∀ {arr : List Value}, arr.length = cs.length →
    (∀ (j : Nat) (v : AV), cs[j]? = some v → v.one = true ∧ ∃ x, arr[j]? = some x ∧ VA1 P σ ρ S w v x) →
    cs'.length = cs.length ∧ Rel P σ' ρ S w ∧ Ext σ ρ S w σ' ρ S w ∧ (∀ (j : Nat) (v : AV), cs'[j]? = some v → v.one = true ∧ ∃ x, arr[j]? = some x ∧ VA1 P σ' ρ S w v x) := by
  intro cs
  induction cs with
  | nil =>
    intro k σ σ' cs' h hr arr hl hc
    injection h with h; injection h with h1 h2; subst h1; subst h2
    exact ⟨rfl, hr, Ext.refl _ _ _ _, by simp⟩
  | cons v cs ih =>
    intro k σ σ' cs' h hr arr hl hc
    cases arr with
    | nil => simp at hl
    | cons cv arr =>
      obtain ⟨h1, x, hx, hv⟩ := hc 0 v rfl
      injection hx with hx; subst hx
      have hrest : ∀ {k' : Nat} {σ1 : Heap} {u : AV}, (promote cs k' σ1).map (fun q => (u :: q.1, q.2)) = some (cs', σ') → Rel P σ1 ρ S w → Ext σ ρ S w σ1 ρ S w → u.one = true → VA1 P σ1 ρ S w u cv →
          cs'.length = (v :: cs).length ∧ Rel P σ' ρ S w ∧ Ext σ ρ S w σ' ρ S w ∧ (∀ (j : Nat) (v : AV), cs'[j]? = some v → v.one = true ∧ ∃ x, (cv :: arr)[j]? = some x ∧ VA1 P σ' ρ S w v x) := by
        intro k' σ1 u h hr1 he1 hu1 hu
        obtain ⟨⟨cs1, σ2⟩, hp, h⟩ := Option.map_eq_some_iff.1 h
        injection h with h2 h3; subst h2; subst h3
        obtain ⟨l2, r2, e2, c2⟩ := ih hp hr1 (arr := arr) (by simpa using hl) (fun j u hj => by
          obtain ⟨h3, y, hy, h4⟩ := hc (j + 1) u (by simpa using hj)
          exact ⟨h3, y, by simpa using hy, h4.mono he1⟩)
        refine ⟨by simp [l2], r2, he1.trans e2, fun j u' hj => ?_⟩
        cases j with
        | zero => simp at hj; subst hj; exact ⟨hu1, cv, rfl, hu.mono e2⟩
        | succ j =>
          obtain ⟨h5, y, hy, h6⟩ := c2 j u' (by simpa using hj)
          exact ⟨h5, y, by simpa using hy, h6⟩
      unfold promote at h
      split at h
      · rename_i heq; cases heq
      · rename_i t vs heq
        injection heq with e1 e2; subst e1; subst e2
        split at h
        · rename_i σ1 hfill
          obtain ⟨hh, rfl⟩ := fillAt_spec hfill
          obtain ⟨r1, x1⟩ := hr.fillVec hh t 0
          obtain ⟨hcv, fs, hfs⟩ : cv = .slice none 0 0 ∧ ∃ fs, flat P depth t = some fs := hv
          refine hrest h r1 x1 rfl ⟨by rw [hcv]; exact VE.nilSlice hfs _ _, .inl ⟨0, by simp [(List.getElem?_eq_some_iff.1 hh).1], Nat.le_refl _, fun _ => .inl ⟨hr.hole _ hh, hcv, rfl⟩⟩⟩
        · cases h
      · rename_i v' vs _ heq
        injection heq with e1 e2; subst e1; subst e2
        exact hrest h hr (Ext.refl _ _ _ _) h1 hv

/-- The cells of a value. -/
theorem cells_ok {v : AV} {cv : Value} (hv : VA3 P σ ρ S w v cv) (h1 : v.cells.all AV.one = true) :
    cv.cells.size = v.cells.length ∧ ∀ (j : Nat) (u : AV), v.cells[j]? = some u → u.one = true ∧ ∃ x, cv.cells[j]? = some x ∧ VA1 P σ ρ S w u x := by
  by_cases hh : ∃ cs, v = .agg cs
  · obtain ⟨cs, rfl⟩ := hh
    obtain ⟨arr, e, h2, h3⟩ : ∃ arr : Array Value, cv = .agg arr ∧ arr.size = cs.length ∧ ∀ (j : Nat) (v : AV), cs[j]? = some v → v.one = true ∧ ∃ x, arr[j]? = some x ∧ VA1 P σ ρ S w v x := hv
    subst e
    exact ⟨h2, h3⟩
  · have hc : v.cells = [v] := by cases v <;> first | rfl | exact absurd ⟨_, rfl⟩ hh
    rw [hc] at h1 ⊢
    have h1' : v.one = true := by simpa using h1
    have hv1 : VA1 P σ ρ S w v cv := by
      cases v <;> first | exact hv | (simp [AV.one] at h1')
    have hcv : cv.cells = #[cv] := by
      cases v with
      | e x =>
        have hx : VE P w S x cv := hv
        cases hx <;> first | rfl | (simp [AV.one] at h1')
      | nils t => obtain ⟨h, _⟩ := hv1; subst h; rfl
      | own id et xs => obtain ⟨A, c, fs, b, o', f, h, _⟩ := VE_sl_inv hv1.1; subst h; rfl
      | ptr id off => obtain ⟨b, c, _, _, h⟩ := hv1; subst h; rfl
      | nilp => have h : cv = .pointer none := hv1; subst h; rfl
      | pin et y off => obtain ⟨b, o', fs, f, h, _⟩ := hv1; subst h; rfl
      | fn f => have h : cv = .func (.func f) #[] #[] := hv1; subst h; rfl
      | clo f ps => obtain ⟨cap, h, _⟩ := hv1; subst h; rfl
      | itr id => obtain ⟨b, c, _, _, h⟩ := hv1; subst h; rfl
      | nsp id => rcases hv1.2 with h | ⟨b, c, _, h⟩ <;> subst h <;> rfl
      | _ => simp [AV.one] at h1'
    rw [hcv]
    refine ⟨rfl, fun j u hj => ?_⟩
    cases j with
    | zero => simp at hj; subst hj; exact ⟨h1', cv, rfl, hv1⟩
    | succ j => simp at hj

section
variable {ev : Operand → Value} {x : Operand}
theorem run_box {t : TypeId} (h : o.op = .box t x) : (execOp ev o).run P w = .ok (.value (.pointer (some ⟨w.heap.size, 0, none⟩))) (w.alloc (.cells (ev x).cells t)) := by
  simp [execOp, h, go_sem, Instr.box, newVar, newRow]
theorem run_alloc {t : TypeId} {i : TypeInfo} {z : Value} (h : o.op = .alloc t) (hi : P.info? t = some i) (hz : i.zero = some z) : (execOp ev o).run P w = .ok (.value (.pointer (some ⟨w.heap.size, 0, none⟩))) (w.alloc (.cells z.cells t)) := by
  simp [execOp, h, go_sem, Instr.alloc, newVar, newRow, zeroValue, typeInfo, hi, hz]
end

theorem op_box_of (hr : Rel P σ ρ S w) {v : AV} {cv : Value} {k : Nat} {cs : List AV} {σ1 σ2 : Heap} (hv : VA3 P σ ρ S w v cv) (h1 : v.cells.all AV.one = true) (t : TypeId)
    (hp : promote v.cells (k + 1) σ = some (cs, σ1)) (hfill : fillAt σ1 k (.box cs) = some σ2)
    (hrun : (execOp a.eval o).run P w = .ok (.value (.pointer (some ⟨w.heap.size, 0, none⟩))) (w.alloc (.cells cv.cells t))) : OpOk P σ ρ S w a o (.ptr k 0) σ2 := by
  obtain ⟨c1, c2⟩ := cells_ok hv h1
  obtain ⟨l, r1, e1, c3⟩ := promote_ok v.cells hp hr (arr := cv.cells.toList) (by simpa using c1) (fun j u hj => by
    obtain ⟨h3, y, hy, h4⟩ := c2 j u hj
    exact ⟨h3, y, by simpa using hy, h4⟩)
  obtain ⟨hh, rfl⟩ := fillAt_spec hfill
  obtain ⟨r2, e2⟩ := r1.fillNew (c := 0) (ob := .box cs) hh (.cells cv.cells t) (by simp) (by simp) (fun cs' h => by
    injection h with h; subst h
    exact ⟨cv.cells, t, rfl, by rw [l]; exact c1, fun j u hj => by
      obtain ⟨h3, y, hy, h4⟩ := c3 j u hj
      exact ⟨h3, y, by simpa using hy, h4⟩⟩) (by simp)
  have hkl := (List.getElem?_eq_some_iff.1 hh).1
  refine ⟨_, _, _, _, _, hrun, .inl rfl, r2, e1.trans e2, w.heap.size, 0, ?_, ⟨cs, by simp [hkl]⟩, rfl⟩
  rw [List.getElem?_set, if_pos rfl, if_pos (by rw [r1.len]; exact hkl)]

theorem op_box (hr : Rel P σ ρ S w) (hf : FR P σ ρ S w fr a.tmps) {t : TypeId} {x : Operand} {v : AV} {k : Nat} {cs : List AV} {σ1 σ2 : Heap} (h : o.op = .box t x) (hx : evalT P t fr x = some v) (h1 : v.cells.all AV.one = true)
    (hp : promote v.cells (k + 1) σ = some (cs, σ1)) (hfill : fillAt σ1 k (.box cs) = some σ2) : OpOk P σ ρ S w a o (.ptr k 0) σ2 :=
  op_box_of hr (evalT_ok hf hx) h1 t hp hfill (run_box h)

/-- A string's iterator. -/
theorem run_range_str {ev : Operand → Value} {t : TypeId} {x : Operand} {s : ByteArray} (h : o.op = .range t x) (ht : P.underlying t = some .string) (e : ev x = .string s) :
    (execOp ev o).run P w = .ok (.value (.pointer (some ⟨w.heap.size, 0, none⟩))) (w.alloc (.stringIter s 0)) := by
  simp only [execOp, h, Instr.range, Sem.run_bind, run_underlying ht, Result.andThen_ok, e, Sem.run_pure]
  rfl

theorem op_range (hr : Rel P σ ρ S w) (hf : FR P σ ρ S w fr a.tmps) {t : TypeId} {x : Operand} {s : List UInt8} {k : Nat} {σ1 : Heap} (h : o.op = .range t x) (ht : P.underlying t = some .string) (hx : evalO fr x = some (.e (.str s)))
    (hfill : fillAt σ k (.raw (.iter s 0)) = some σ1) : OpOk P σ ρ S w a o (.itr k) σ1 := by
  obtain ⟨b, e, hb⟩ := VA3_str (evalO_ok hf hx)
  obtain ⟨hh, rfl⟩ := fillAt_spec hfill
  obtain ⟨r2, e2⟩ := hr.fillNew (c := 0) (ob := .raw (.iter s 0)) hh (.stringIter b 0) (by simp) (by simp) (by simp) (fun r hr' => by injection hr' with hr'; subst hr'; exact ⟨b, rfl, hb⟩)
  have hkl := (List.getElem?_eq_some_iff.1 hh).1
  refine ⟨_, _, _, _, _, run_range_str h ht e, .inl rfl, r2, e2, w.heap.size, 0, ?_, ⟨_, by rw [List.getElem?_set, if_pos rfl, if_pos hkl]⟩, rfl⟩
  rw [List.getElem?_set, if_pos rfl, if_pos (by rw [hr.len]; exact hkl)]

end
end Go.Den
