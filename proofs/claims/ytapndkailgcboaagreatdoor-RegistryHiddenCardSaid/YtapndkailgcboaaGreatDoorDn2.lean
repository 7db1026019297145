/- Dn2: texts Ze06 .. Ze13 in one. -/
import Derived.Test.YtapndkailgcboaaGreatDoorDn1
import Derived.Lib.AppendStr
import Derived.Deep.AppendSrc
import Derived.Deep.Upon
/- Each operation that the interpreter carries out is carried out so by the model: variables in memory. -/
namespace Go.Den
open Go

section
variable {P : Program} {σ : Heap} {ρ : Gr} {S : Cells} {w : World} {fr : Fr} {a : Act} {o : Oper}

theorem cell_lt {b o' : Nat} {v : Value} (h : w.cell? ⟨b, o', none⟩ = some v) : b < w.heap.size := World.block_lt_of_cell? w ⟨b, o', none⟩ h

theorem alloc_heap_old (ob : Obj) {k : Nat} (h : k < w.heap.size) : (w.alloc ob).heap[k]? = w.heap[k]? := heap_alloc_old w ob h
theorem cell_of_heap {w w' : World} {b o' : Nat} (h : w'.heap[b]? = w.heap[b]?) : w'.cell? ⟨b, o', none⟩ = w.cell? ⟨b, o', none⟩ := World.cell?_of_block (a := ⟨b, o', none⟩) h

theorem heap_lt {ob : Obj} {k : Nat} (h : w.heap[k]? = some ob) : k < w.heap.size := (Array.getElem?_eq_some_iff.1 h).1

theorem Rel.rho_lt (hr : Rel P σ ρ S w) {id b c : Nat} (h : ρ[id]? = some (some (b, c))) : b < w.heap.size := hr.lt id b c h

/-- A new block, at a place that was kept free. -/
theorem Ext.fillNew (hr : Rel P σ ρ S w) {id c : Nat} {ob : Ob} (hh : σ[id]? = some .hole) (o : Obj) :
    Ext σ ρ S w (σ.set id ob) (ρ.set id (some (w.heap.size, c))) S (w.alloc o) := by
  have hold : ∀ b, b < w.heap.size → (w.alloc o).heap[b]? = w.heap[b]? := fun b hb => alloc_heap_old _ hb
  have hne : ∀ {i : Nat} {q : Ob}, σ[i]? = some q → q ≠ .hole → id ≠ i := fun {i q} h hq => by rintro rfl; rw [hh] at h; injection h with h; exact hq h.symm
  have hs : ∀ {i : Nat} {q : Ob}, σ[i]? = some q → q ≠ .hole → (σ.set id ob)[i]? = some q := fun {i q} h hq => by rw [List.getElem?_set_ne (hne h hq)]; exact h
  have hg : ∀ {i : Nat} {q : Ob}, σ[i]? = some q → q ≠ .hole → (ρ.set id (some (w.heap.size, c)))[i]? = ρ[i]? := fun {i q} h hq => by rw [List.getElem?_set_ne (hne h hq)]
  refine ⟨fun b o' h => ⟨h, ?_⟩, fun i cs h => ⟨⟨cs, hs h (by simp)⟩, hg h (by simp)⟩, fun i t m h => .inl ⟨m, Nat.le_refl _, hs h (by simp), fun _ => hg h (by simp)⟩,
    fun i r h => .inl ⟨r, rfl, Nat.le_refl _, hs h (by simp), fun _ => hg h (by simp)⟩, fun i h => hs h (by simp), fun b hb _ => hold b hb, ?_, fun _ _ h => .inl h, by simp, rfl, rfl, rfl⟩
  · obtain ⟨v, hv⟩ := hr.cells b o' h
    exact cell_of_heap (hold b (cell_lt hv))
  · intro i b c' h
    rcases set_cases h with ⟨_, h, _⟩ | ⟨_, h⟩
    · injection h with h; injection h with h1 h2; exact .inl (by omega)
    · exact .inr ⟨i, c', h⟩

/-- What lay there lies there; and the new object. -/
theorem Rel.fillNew (hr : Rel P σ ρ S w) {id c : Nat} {ob : Ob} (hh : σ[id]? = some .hole) (o : Obj) (hv : ∀ et n, ob ≠ .vec et n) (hhole : ob ≠ .hole)
    (hb : ∀ cs, ob = .box cs → ∃ arr, o = .cells arr c (0, 0) ∧ arr.size = cs.length ∧ ∀ (j : Nat) (v : AV), cs[j]? = some v → v.one = true ∧ ∃ x, arr[j]? = some x ∧ (VA1 P σ ρ S w v x ∨ (v = .nsp id c ∧ x = .pointer none)))
    (hraw : ∀ r, ob = .raw r → RawOk P σ ρ S w c r o) :
    Rel P (σ.set id ob) (ρ.set id (some (w.heap.size, c))) S (w.alloc o) ∧ Ext σ ρ S w (σ.set id ob) (ρ.set id (some (w.heap.size, c))) S (w.alloc o) := by
  have he := Ext.fillNew hr (c := c) (ob := ob) hh o
  have hold : ∀ b, b < w.heap.size → (w.alloc o).heap[b]? = w.heap[b]? := fun b hb => alloc_heap_old _ hb
  have hidl : id < ρ.length := by rw [hr.len]; exact (List.getElem?_eq_some_iff.1 hh).1
  have hself : (ρ.set id (some (w.heap.size, c)))[id]? = some (some (w.heap.size, c)) := by rw [List.getElem?_set, if_pos rfl, if_pos hidl]
  have hnoS : ∀ o', ¬ S w.heap.size o' := fun o' hS => by
    obtain ⟨v, hv⟩ := hr.cells _ _ hS
    have := cell_lt hv
    omega
  refine ⟨⟨by simp [hr.len], ?_, ?_, ?_, ?_, ?_, ?_, ?_, hr.glob.mono he⟩, he⟩
  · intro i cs h
    rcases set_cases h with ⟨rfl, h, _⟩ | ⟨hne, h⟩
    · obtain ⟨arr, rfl, h1, h2⟩ := hb cs h.symm
      refine ⟨w.heap.size, c, arr, c, hself, heap_alloc_new w _, h1, fun j v hj => ?_, hnoS, rfl⟩
      obtain ⟨h6, x, h7, h8⟩ := h2 j v hj
      refine ⟨h6, x, h7, ?_⟩
      rcases h8 with h8 | ⟨rfl, rfl⟩
      · exact h8.mono he
      · exact ⟨⟨cs, by rw [← h]; simp [(List.getElem?_eq_some_iff.1 hh).1]⟩, w.heap.size, hself, .inl rfl⟩
    · obtain ⟨b, c', arr', T', h1, h2, h3, h4, h5⟩ := hr.box i cs h
      exact ⟨b, c', arr', T', by rw [List.getElem?_set_ne (fun e => hne e.symm)]; exact h1, (hold b (heap_lt h2)).trans h2, h3, fun j v hj => let ⟨h6, x, h7, h8⟩ := h4 j v hj; ⟨h6, x, h7, h8.mono he⟩, h5⟩
  · intro i et n b c' h h'
    rcases set_cases h with ⟨rfl, h, _⟩ | ⟨hne, h⟩
    · exact absurd h.symm (hv et n)
    · rw [List.getElem?_set_ne (fun e => hne e.symm)] at h'
      obtain ⟨arr', T', fs, h1, h2⟩ := hr.vec i et n b c' h h'
      exact ⟨arr', T', fs, (hold b (heap_lt h1)).trans h1, h2⟩
  · intro i r h
    rcases set_cases h with ⟨rfl, h, _⟩ | ⟨hne, h⟩
    · exact ⟨w.heap.size, c, o, hself, heap_alloc_new w _, (hraw r h.symm).mono he, hnoS⟩
    · obtain ⟨b, c', o', h1, h2, h3, h4⟩ := hr.raw i r h
      exact ⟨b, c', o', by rw [List.getElem?_set_ne (fun e => hne e.symm)]; exact h1, (hold b (heap_lt h2)).trans h2, h3.mono he, h4⟩
  · intro i h
    rcases set_cases h with ⟨rfl, h, _⟩ | ⟨hne, h⟩
    · exact absurd h.symm hhole
    · rw [List.getElem?_set_ne (fun e => hne e.symm)]; exact hr.hole i h
  · intro i b c' h
    rcases set_cases h with ⟨_, h, _⟩ | ⟨_, h⟩
    · injection h with h; injection h with h1 h2; subst h1; simp
    · have := hr.lt i b c' h; simp; omega
  · intro i j b c1 c2 h h'
    rcases set_cases h with ⟨h0, h, _⟩ | ⟨_, h⟩ <;> rcases set_cases h' with ⟨h0', h', _⟩ | ⟨_, h'⟩
    · omega
    · injection h with h; injection h with h1 h2
      have := hr.lt j b c2 h'
      omega
    · injection h' with h'; injection h' with h1 h2
      have := hr.lt i b c1 h
      omega
    · exact hr.inj i j b c1 c2 h h'
  · intro b o' h
    obtain ⟨v, hv⟩ := hr.cells b o' h
    exact ⟨v, by rw [cell_of_heap (hold b (cell_lt hv))]; exact hv⟩

theorem VA3_one {v : AV} {cv : Value} (h1 : v.one = true) (hv : VA3 P σ ρ S w v cv) : VA1 P σ ρ S w v cv := by
  cases v <;> first | exact hv | (simp [AV.one] at h1)

/-- Nil slices that are laid in variables. -/
theorem promote_ok : ∀ (cs : List AV) {k : Nat} {σ σ' : Heap} {cs' : List AV}, promote cs k σ = some (cs', σ') → Rel P σ ρ S w → ∀ {arr : List Value}, arr.length = cs.length →
    (∀ (j : Nat) (v : AV), cs[j]? = some v → v.one = true ∧ ∃ x, arr[j]? = some x ∧ VA1 P σ ρ S w v x) →
    cs'.length = cs.length ∧ Rel P σ' ρ S w ∧ Ext σ ρ S w σ' ρ S w ∧ (∀ (j : Nat) (v : AV), cs'[j]? = some v → v.one = true ∧ ∃ x, arr[j]? = some x ∧ VA1 P σ' ρ S w v x) := by
  intro cs
  induction cs with
  | nil =>
    intro k σ σ' cs' h hr arr hl hc
    injection h with h; injection h with h1 h2; subst h1; subst h2
    exact ⟨rfl, hr, Ext.refl _ _ _ _, by simp⟩
  | cons v cs ih =>
    intro k σ σ' cs' h hr arr hl hc
    cases arr with
    | nil => simp at hl
    | cons cv arr =>
      obtain ⟨h1, x, hx, hv⟩ := hc 0 v rfl
      injection hx with hx; subst hx
      have hrest : ∀ {k' : Nat} {σ1 : Heap} {u : AV}, (promote cs k' σ1).map (fun q => (u :: q.1, q.2)) = some (cs', σ') → Rel P σ1 ρ S w → Ext σ ρ S w σ1 ρ S w → u.one = true → VA1 P σ1 ρ S w u cv →
          cs'.length = (v :: cs).length ∧ Rel P σ' ρ S w ∧ Ext σ ρ S w σ' ρ S w ∧ (∀ (j : Nat) (v : AV), cs'[j]? = some v → v.one = true ∧ ∃ x, (cv :: arr)[j]? = some x ∧ VA1 P σ' ρ S w v x) := by
        intro k' σ1 u h hr1 he1 hu1 hu
        obtain ⟨⟨cs1, σ2⟩, hp, h⟩ := Option.map_eq_some_iff.1 h
        injection h with h2 h3; subst h2; subst h3
        obtain ⟨l2, r2, e2, c2⟩ := ih hp hr1 (arr := arr) (by simpa using hl) (fun j u hj => by
          obtain ⟨h3, y, hy, h4⟩ := hc (j + 1) u (by simpa using hj)
          exact ⟨h3, y, by simpa using hy, h4.mono he1⟩)
        refine ⟨by simp [l2], r2, he1.trans e2, fun j u' hj => ?_⟩
        cases j with
        | zero => simp at hj; subst hj; exact ⟨hu1, cv, rfl, hu.mono e2⟩
        | succ j =>
          obtain ⟨h5, y, hy, h6⟩ := c2 j u' (by simpa using hj)
          exact ⟨h5, y, by simpa using hy, h6⟩
      unfold promote at h
      split at h
      · rename_i heq; cases heq
      · rename_i t vs heq
        injection heq with e1 e2; subst e1; subst e2
        split at h
        · rename_i σ1 hfill
          obtain ⟨hh, rfl⟩ := fillAt_spec hfill
          obtain ⟨r1, x1⟩ := hr.fillVec hh t 0
          obtain ⟨hcv, fs, hfs⟩ : cv = .slice none 0 0 ∧ ∃ fs, flat P depth t = some fs := hv
          refine hrest h r1 x1 rfl ⟨by rw [hcv]; exact VE.nilSlice hfs _ _, .inl ⟨0, by simp [(List.getElem?_eq_some_iff.1 hh).1], Nat.le_refl _, fun _ => .inl ⟨hr.hole _ hh, hcv, rfl⟩⟩⟩
        · cases h
      · rename_i v' vs _ heq
        injection heq with e1 e2; subst e1; subst e2
        exact hrest h hr (Ext.refl _ _ _ _) h1 hv

/-- The cells of a value. -/
theorem cells_ok {v : AV} {cv : Value} (hv : VA3 P σ ρ S w v cv) (h1 : v.cells.all AV.one = true) :
    cv.cells.size = v.cells.length ∧ ∀ (j : Nat) (u : AV), v.cells[j]? = some u → u.one = true ∧ ∃ x, cv.cells[j]? = some x ∧ VA1 P σ ρ S w u x := by
  by_cases hh : ∃ cs, v = .agg cs
  · obtain ⟨cs, rfl⟩ := hh
    obtain ⟨arr, e, h2, h3⟩ : ∃ arr : Array Value, cv = .agg arr ∧ arr.size = cs.length ∧ ∀ (j : Nat) (v : AV), cs[j]? = some v → v.one = true ∧ ∃ x, arr[j]? = some x ∧ VA1 P σ ρ S w v x := hv
    subst e
    exact ⟨h2, h3⟩
  · have hc : v.cells = [v] := by cases v <;> first | rfl | exact absurd ⟨_, rfl⟩ hh
    rw [hc] at h1 ⊢
    have h1' : v.one = true := by simpa using h1
    have hv1 : VA1 P σ ρ S w v cv := by
      cases v <;> first | exact hv | (simp [AV.one] at h1')
    have hcv : cv.cells = #[cv] := by
      cases v with
      | e x =>
        have hx : VE P w S x cv := hv
        cases hx <;> first | rfl | (simp [AV.one] at h1')
      | nils t => obtain ⟨h, _⟩ := hv1; subst h; rfl
      | nilc t => obtain ⟨⟨A, h⟩, _⟩ := hv1; subst h; rfl
      | nil0 t => obtain ⟨⟨A, h⟩, _⟩ := hv1; subst h; rfl
      | sn t xs => obtain ⟨_, A, n, c, h⟩ := hv1; subst h; rfl
      | mv id t n off len => obtain ⟨b, o, c, fs, h, _⟩ := hv1; subst h; rfl
      | eptr id n i j => obtain ⟨b, o, h, _⟩ := hv1; subst h; rfl
      | mp id => obtain ⟨b, c, _, _, h⟩ := hv1; subst h; rfl
      | nilm => have h : cv = .map none := hv1; subst h; rfl
      | own id et xs => obtain ⟨A, c, fs, b, o', f, h, _⟩ := VE_sl_inv hv1.1; subst h; rfl
      | ptr id off => obtain ⟨b, c, _, _, h⟩ := hv1; subst h; rfl
      | nilp => have h : cv = .pointer none := hv1; subst h; rfl
      | pin et y off => obtain ⟨b, o', fs, f, h, _⟩ := hv1; subst h; rfl
      | fn f => have h : cv = .func (.func f) #[] #[] := hv1; subst h; rfl
      | clo f ps => obtain ⟨cap, h, _⟩ := hv1; subst h; rfl
      | itr id => obtain ⟨b, c, _, _, h⟩ := hv1; subst h; rfl
      | nsp id t => obtain ⟨_, b, _, h⟩ := hv1; rcases h with h | h <;> subst h <;> rfl
      | _ => simp [AV.one] at h1'
    rw [hcv]
    refine ⟨rfl, fun j u hj => ?_⟩
    cases j with
    | zero => simp at hj; subst hj; exact ⟨h1', cv, rfl, hv1⟩
    | succ j => simp at hj

section
variable {ev : Operand → Value} {x : Operand}
theorem run_box {t : TypeId} (h : o.op = .box t x) : (execOp ev o).run P w = .ok (.value (.pointer (some ⟨w.heap.size, 0, none⟩))) (w.alloc (.cells (ev x).cells t)) := by
  simp [execOp, h, go_sem, Instr.box, newVar, newRow]
theorem run_alloc {t : TypeId} {i : TypeInfo} {z : Value} (h : o.op = .alloc t) (hi : P.info? t = some i) (hz : i.zero = some z) : (execOp ev o).run P w = .ok (.value (.pointer (some ⟨w.heap.size, 0, none⟩))) (w.alloc (.cells z.cells t)) := by
  simp [execOp, h, go_sem, Instr.alloc, newVar, newRow, zeroValue, typeInfo, hi, hz]
end

theorem op_box_of (hr : Rel P σ ρ S w) {v : AV} {cv : Value} {k : Nat} {cs : List AV} {σ1 σ2 : Heap} (hv : VA3 P σ ρ S w v cv) (h1 : v.cells.all AV.one = true) (t : TypeId)
    (hp : promote v.cells (k + 1) σ = some (cs, σ1)) {cs2 : List AV} (hl2 : cs2.length = cs.length) (hsel : ∀ (j : Nat) (u : AV), cs2[j]? = some u → cs[j]? = some u ∨ (u = .nsp k t ∧ cs[j]? = some .nilp)) (hfill : fillAt σ1 k (.box cs2) = some σ2)
    (hrun : (execOp a.eval o).run P w = .ok (.value (.pointer (some ⟨w.heap.size, 0, none⟩))) (w.alloc (.cells cv.cells t))) : OpOk P σ ρ S w a o (.ptr k 0) σ2 := by
  obtain ⟨c1, c2⟩ := cells_ok hv h1
  obtain ⟨l, r1, e1, c3⟩ := promote_ok v.cells hp hr (arr := cv.cells.toList) (by simpa using c1) (fun j u hj => by
    obtain ⟨h3, y, hy, h4⟩ := c2 j u hj
    exact ⟨h3, y, by simpa using hy, h4⟩)
  obtain ⟨hh, rfl⟩ := fillAt_spec hfill
  obtain ⟨r2, e2⟩ := r1.fillNew (c := t) (ob := .box cs2) hh (.cells cv.cells t) (by simp) (by simp) (fun cs' h => by
    injection h with h; subst h
    refine ⟨cv.cells, rfl, by rw [hl2, l]; exact c1, fun j u hj => ?_⟩
    rcases hsel j u hj with hj2 | ⟨rfl, hj2⟩
    · obtain ⟨h3, y, hy, h4⟩ := c3 j u hj2
      exact ⟨h3, y, by simpa using hy, .inl h4⟩
    · obtain ⟨_, y, hy, h4⟩ := c3 j _ hj2
      exact ⟨rfl, y, by simpa using hy, .inr ⟨rfl, h4⟩⟩) (by simp)
  have hkl := (List.getElem?_eq_some_iff.1 hh).1
  refine ⟨_, _, _, _, _, hrun, .inl rfl, r2, e1.trans e2, w.heap.size, t, ?_, ⟨cs2, by simp [hkl]⟩, rfl⟩
  rw [List.getElem?_set, if_pos rfl, if_pos (by rw [r1.len]; exact hkl)]

theorem op_box (hr : Rel P σ ρ S w) (hf : FR P σ ρ S w fr a.tmps) {t : TypeId} {x : Operand} {v : AV} {k : Nat} {cs : List AV} {σ1 σ2 : Heap} (h : o.op = .box t x) (hx : evalT P t fr x = some v) (h1 : v.cells.all AV.one = true)
    (hp : promote v.cells (k + 1) σ = some (cs, σ1)) (hfill : fillAt σ1 k (.box cs) = some σ2) : OpOk P σ ρ S w a o (.ptr k 0) σ2 :=
  op_box_of hr (evalT_ok hf hx) h1 t hp rfl (fun _ _ h => .inl h) hfill (run_box h)

/-- A string's iterator. -/
theorem run_range_str {ev : Operand → Value} {t : TypeId} {x : Operand} {s : ByteArray} (h : o.op = .range t x) (ht : P.underlying t = some .string) (e : ev x = .string s) :
    (execOp ev o).run P w = .ok (.value (.pointer (some ⟨w.heap.size, 0, none⟩))) (w.alloc (.stringIter s 0)) := by
  simp only [execOp, h, Instr.range, Sem.run_bind, run_underlying ht, Result.andThen_ok, e, Sem.run_pure]
  rfl

theorem op_range (hr : Rel P σ ρ S w) (hf : FR P σ ρ S w fr a.tmps) {t : TypeId} {x : Operand} {s : List UInt8} {k : Nat} {σ1 : Heap} (h : o.op = .range t x) (ht : P.underlying t = some .string) (hx : evalO fr x = some (.e (.str s)))
    (hfill : fillAt σ k (.raw (.iter s 0)) = some σ1) : OpOk P σ ρ S w a o (.itr k) σ1 := by
  obtain ⟨b, e, hb⟩ := VA3_str (evalO_ok hf hx)
  obtain ⟨hh, rfl⟩ := fillAt_spec hfill
  obtain ⟨r2, e2⟩ := hr.fillNew (c := 0) (ob := .raw (.iter s 0)) hh (.stringIter b 0) (by simp) (by simp) (by simp) (fun r hr' => by injection hr' with hr'; subst hr'; exact ⟨b, rfl, hb⟩)
  have hkl := (List.getElem?_eq_some_iff.1 hh).1
  refine ⟨_, _, _, _, _, run_range_str h ht e, .inl rfl, r2, e2, w.heap.size, 0, ?_, ⟨_, by rw [List.getElem?_set, if_pos rfl, if_pos hkl], rfl⟩, rfl⟩
  rw [List.getElem?_set, if_pos rfl, if_pos (by rw [hr.len]; exact hkl)]

end
end Go.Den

/- Each operation that the interpreter carries out is carried out so by the model: reading and writing variables. -/
namespace Go.Den
open Go

section
variable {P : Program} {σ : Heap} {ρ : Gr} {S : Cells} {w : World} {fr : Fr} {a : Act} {o : Oper}

theorem zeroOf_ok {t : TypeId} {v : AV} (h : zeroOf P t = some v) : ∃ i z, P.info? t = some i ∧ i.zero = some z ∧ VA3 P σ ρ S w v z ∧ v.cells.all AV.one = true := by
  unfold zeroOf at h
  split at h
  · rename_i i ft hi hft
    split at h
    · rename_i z cs hz hcs
      obtain ⟨hl, hg⟩ := mapM_some_get hcs
      have hn : ∀ (j : Nat) (v : AV), cs[j]? = some v → ∀ et, v = .nils et → ∃ fs, flat P depth et = some fs := fun j v hj => by
        obtain ⟨ct, _, hct⟩ := mapM_some_back hcs j v hj
        exact zeroCell_nils hct
      split at h
      · split at h
        · rename_i arr
          split at h
          · rename_i hc
            injection h with h; subst h
            have hall : ∀ (j : Nat) (u : AV), cs[j]? = some u → ∃ x, arr[j]? = some x ∧ VA1 P σ ρ S w u x ∧ u.one = true := by
              intro j u hj
              have hlt : j < cs.length := (List.getElem?_eq_some_iff.1 hj).1
              have hx : arr.toList[j]? = some (arr.toList[j]'(by omega)) := List.getElem?_eq_getElem _
              have hp : (arr.toList.zip cs)[j]? = some (arr.toList[j]'(by omega), u) := by
                rw [List.getElem?_zip_eq_some]; exact ⟨hx, hj⟩
              have := List.all_eq_true.1 hc.2 _ (List.mem_of_getElem? hp)
              obtain ⟨h1, h2⟩ := isZero_ok (P := P) (σ := σ) (ρ := ρ) (S := S) (w := w) this (hn j u hj)
              exact ⟨_, by rw [← Array.getElem?_toList]; exact hx, h1, h2⟩
            refine ⟨i, _, hi, hz, ⟨arr, rfl, hc.1, fun j u hj => ?_⟩, ?_⟩
            · obtain ⟨x, hx, h1, h2⟩ := hall j u hj
              exact ⟨h2, x, hx, h1⟩
            · rw [List.all_eq_true]
              intro u hu
              obtain ⟨j, hj⟩ := List.getElem?_of_mem hu
              obtain ⟨x, hx, h1, h2⟩ := hall j u hj
              exact h2
          · cases h
        · cases h
      · split at h
        · rename_i c
          split at h
          · rename_i hc
            injection h with h; subst h
            obtain ⟨h1, h2⟩ := isZero_ok (P := P) (σ := σ) (ρ := ρ) (S := S) (w := w) hc (hn 0 _ rfl)
            refine ⟨i, z, hi, hz, h1.to3, ?_⟩
            have : AV.cells c = [c] := by cases c <;> first | rfl | (simp [AV.one] at h2)
            rw [this]; simp [h2]
          · cases h
        · cases h
    · cases h
  · cases h

theorem selfed_spec (P : Program) (t : TypeId) (k : Nat) (cs : List AV) : (selfed P t k cs).length = cs.length ∧ ∀ (j : Nat) (u : AV), (selfed P t k cs)[j]? = some u → cs[j]? = some u ∨ (u = .nsp k t ∧ cs[j]? = some .nilp) := by
  unfold selfed
  split
  · split
    · split
      · refine ⟨rfl, fun j u hj => ?_⟩
        cases j with
        | zero => injection hj with hj; exact .inr ⟨hj.symm, rfl⟩
        | succ j => exact .inl hj
      · exact ⟨rfl, fun j u h => .inl h⟩
    · exact ⟨rfl, fun j u h => .inl h⟩
  · exact ⟨rfl, fun j u h => .inl h⟩

theorem op_alloc (hr : Rel P σ ρ S w) {t : TypeId} {v : AV} {k : Nat} {cs : List AV} {σ1 σ2 : Heap} (h : o.op = .alloc t) (hx : zeroOf P t = some v)
    (hp : promote v.cells (k + 1) σ = some (cs, σ1)) (hfill : fillAt σ1 k (.box (selfed P t k cs)) = some σ2) : OpOk P σ ρ S w a o (.ptr k 0) σ2 := by
  obtain ⟨i, z, hi, hz, h1, h2⟩ := zeroOf_ok (σ := σ) (ρ := ρ) (S := S) (w := w) hx
  obtain ⟨s1, s2⟩ := selfed_spec P t k cs
  exact op_box_of hr h1 h2 t hp s1 s2 hfill (run_alloc h hi hz)

/-! ### Loads -/
theorem add_at (b off j : Nat) : (⟨b, off, none⟩ : Addr).add j = ⟨b, off + j, none⟩ := by
  unfold Addr.add; split <;> simp_all

section
variable {ev : Operand → Value} {x y : Operand}
theorem run_load_agg {t : TypeId} {b off : Nat} {vs : List Value} (h : o.op = .load t x) (e : ev x = .pointer (some ⟨b, off, none⟩)) (hs : sizeB P t = some vs.length) (ha : isAggB P t = true)
    (hc : ∀ (j : Nat) (v : Value), vs[j]? = some v → w.cell? ⟨b, off + j, none⟩ = some v) : (execOp ev o).run P w = .ok (.value (.agg vs.toArray)) w := by
  have h1 := run_isAgg (w := w) hs
  have h2 := run_sizeOf (w := w) hs
  have h3 := run_loadCells_list (P := P) w ⟨b, off, none⟩ vs (fun j v hj => by rw [add_at]; exact hc j v hj)
  simp only [execOp, h, Instr.loadAt, Instr.sureAddr, e, loadVar, Sem.run_bind, Sem.run_pure, Result.andThen_ok, h1, ha, if_true, h2, h3]
theorem run_load_one {t : TypeId} {b off : Nat} {v : Value} {n : Nat} (h : o.op = .load t x) (e : ev x = .pointer (some ⟨b, off, none⟩)) (hs : sizeB P t = some n) (ha : isAggB P t = false)
    (hc : w.cell? ⟨b, off, none⟩ = some v) : (execOp ev o).run P w = .ok (.value v) w := by
  have h1 := run_isAgg (w := w) hs
  simp only [execOp, h, Instr.loadAt, Instr.sureAddr, e, loadVar, Sem.run_bind, Sem.run_pure, Result.andThen_ok, h1, ha, Bool.false_eq_true, if_false, run_load, hc]
end

theorem box_cell (hr : Rel P σ ρ S w) {id b c : Nat} {cs : List AV} (hb : σ[id]? = some (.box cs)) (hid : ρ[id]? = some (some (b, c))) {j : Nat} {v : AV} (hj : cs[j]? = some v) :
    v.one = true ∧ ∃ x, w.cell? ⟨b, j, none⟩ = some x ∧ VA1 P σ ρ S w v x := by
  obtain ⟨b', c', arr, T, h1, h2, h3, h4, _⟩ := hr.box id cs hb
  rw [hid] at h1; injection h1 with h1; injection h1 with h1; injection h1 with h1 h1'
  subst h1
  obtain ⟨h5, x, h6, h7⟩ := h4 j v hj
  exact ⟨h5, x, by rw [cell_of_row w b j arr T (0, 0) h2]; exact h6, h7⟩

theorem map_range_get {α : Type} {f : Nat → α} {n j : Nat} {v : α} (h : ((List.range n).map f)[j]? = some v) : j < n ∧ f j = v := by
  have hj : j < n := by simpa using (List.getElem?_eq_some_iff.1 h).1
  rw [List.getElem?_map, List.getElem?_range hj] at h
  exact ⟨hj, by simpa using h⟩
theorem map_range_put {α : Type} (f : Nat → α) {n j : Nat} (h : j < n) : ((List.range n).map f)[j]? = some (f j) := by
  rw [List.getElem?_map, List.getElem?_range h]; rfl

theorem op_load_agg (hr : Rel P σ ρ S w) (hf : FR P σ ρ S w fr a.tmps) {t : TypeId} {x : Operand} {id off n : Nat} {cs : List AV} (h : o.op = .load t x) (hx : evalO fr x = some (.ptr id off))
    (hb : σ[id]? = some (.box cs)) (hs : sizeB P t = some n) (hl : off + n ≤ cs.length) (ha : isAggB P t = true) : OpOk P σ ρ S w a o (.agg ((cs.drop off).take n)) σ := by
  obtain ⟨b, c, hid, _, e⟩ : VA1 P σ ρ S w (.ptr id off) (a.eval x) := evalO_ok hf hx
  have hlen : ((cs.drop off).take n).length = n := by simp; omega
  have hg : ∀ (j : Nat) (v : AV), ((cs.drop off).take n)[j]? = some v → cs[off + j]? = some v := by
    intro j v hj
    rw [List.getElem?_take] at hj
    split at hj
    · rwa [List.getElem?_drop] at hj
    · cases hj
  have hcell : ∀ (j : Nat) (v : AV), ((cs.drop off).take n)[j]? = some v → v.one = true ∧ ∃ y, w.cell? ⟨b, off + j, none⟩ = some y ∧ VA1 P σ ρ S w v y := fun j v hj => box_cell hr hb hid (hg j v hj)
  refine OpOk.pure hr (run_load_agg (vs := (List.range n).map (fun j => (w.cell? ⟨b, off + j, none⟩).getD undef)) h e (by rw [hs]; simp) ha ?_) ⟨_, rfl, by rw [hlen]; simp, ?_⟩
  · intro j v hj
    obtain ⟨hj, rfl⟩ := map_range_get hj
    obtain ⟨_, y, hy, _⟩ := hcell j _ (List.getElem?_eq_getElem (by omega))
    rw [hy]; rfl
  · intro j v hj
    obtain ⟨h1, y, hy, h2⟩ := hcell j v hj
    have hjn : j < n := by rw [← hlen]; exact (List.getElem?_eq_some_iff.1 hj).1
    refine ⟨h1, y, ?_, h2⟩
    rw [List.getElem?_toArray, map_range_put _ hjn, hy]; rfl

theorem op_load_one (hr : Rel P σ ρ S w) (hf : FR P σ ρ S w fr a.tmps) {t : TypeId} {x : Operand} {id off n : Nat} {cs : List AV} {v : AV} (h : o.op = .load t x) (hx : evalO fr x = some (.ptr id off))
    (hb : σ[id]? = some (.box cs)) (hs : sizeB P t = some n) (ha : isAggB P t = false) (hv : cs[off]? = some v) : OpOk P σ ρ S w a o v σ := by
  obtain ⟨b, c, hid, _, e⟩ : VA1 P σ ρ S w (.ptr id off) (a.eval x) := evalO_ok hf hx
  obtain ⟨h1, y, hy, h2⟩ := box_cell hr hb hid hv
  exact OpOk.pure hr (run_load_one h e hs ha hy) h2.to3

/-- A datum of a type, by its parts, is itself. -/
theorem canon_ok {ct : TypeId} {x u : E} (h : canon P ct x = some u) (hk : okCell P ct x = true) : u = x := by
  unfold canon at h
  unfold okCell at hk
  split at h <;> rename_i hu <;> (try (cases h; done)) <;> (injection h with h; subst h) <;> rw [hu] at hk <;> cases x <;> simp at hk <;> simp [E.toInt, E.toBool, E.toStr, E.toList, hk]

theorem E.cell_of {y : E} {j : Nat} {x : E} (h : y.cells[j]? = some x) : y.cell j = x := by
  simp [E.cell, List.getD_eq_getElem?_getD, h]

theorem okCell_one {ct : TypeId} {x : E} (h : okCell P ct x = true) : (AV.e x).one = true := by
  unfold okCell at h
  split at h <;> first | rfl | (cases h; done)

theorem flat_one {t : TypeId} (ha : isAggB P t = false) {ft : List TypeId} {d : Nat} (h : flat P d t = some ft) : ft = [t] := by
  cases d with
  | zero => cases h
  | succ d =>
    unfold flat at h
    unfold isAggB at ha
    split at h <;> rename_i hu
    · rw [hu] at ha; cases ha
    · rw [hu] at ha; cases ha
    · injection h with h; exact h.symm
    · cases h

theorem op_load_pin (hr : Rel P σ ρ S w) (hf : FR P σ ρ S w fr a.tmps) {t : TypeId} {x : Operand} {et : TypeId} {y : E} {off : Nat} {v : AV} (h : o.op = .load t x) (hx : evalO fr x = some (.pin et y off))
    (hv : loadPin P t et y off = some v) (hs : (flat P depth t).map List.length = sizeB P t) : OpOk P σ ρ S w a o v σ := by
  obtain ⟨b, o', fs, f, e, hfs, hlen, hok, hc⟩ : VA1 P σ ρ S w (.pin et y off) (a.eval x) := evalO_ok hf hx
  unfold loadPin at hv
  rw [hfs] at hv
  split at hv
  · rename_i fe ft hfe hft
    injection hfe with hfe; subst hfe
    rw [hft] at hs
    split at hv
    · rename_i htake
      have htype : ∀ (j : Nat) (ct : TypeId), ft[j]? = some ct → fs[off + j]? = some ct := by
        intro j ct hj
        rw [← htake, List.getElem?_take] at hj
        split at hj
        · rwa [List.getElem?_drop] at hj
        · cases hj
      have hcell : ∀ (j : Nat) (ct : TypeId), ft[j]? = some ct → ∃ x, y.cells[off + j]? = some x ∧ y.cell (off + j) = x ∧ okCell P ct x = true ∧ w.cell? ⟨b, o' + off + j, none⟩ = some (f (off + j)) ∧ VE P w S x (f (off + j)) := by
        intro j ct hj
        have h1 := htype j ct hj
        have hlt : off + j < y.cells.length := by rw [hlen]; exact (List.getElem?_eq_some_iff.1 h1).1
        have hx := List.getElem?_eq_getElem hlt
        obtain ⟨_, h3, h4⟩ := hc _ _ hx
        exact ⟨_, hx, E.cell_of hx, hok _ _ _ h1 hx, by rw [Nat.add_assoc]; exact h3, h4⟩
      split at hv
      · rename_i ha
        obtain ⟨cs, hcs, hv⟩ := Option.map_eq_some_iff.1 hv
        subst hv
        obtain ⟨l1, l2⟩ := mapM_some_get hcs
        have hl : cs.length = ft.length := by simpa using l1
        have hgo : ∀ (j : Nat) (ct : TypeId), ft[j]? = some ct → ∃ x, cs[j]? = some (.e x) ∧ y.cells[off + j]? = some x ∧ okCell P ct x = true := by
          intro j ct hj
          obtain ⟨x, h1, h2, h3, _⟩ := hcell j ct hj
          obtain ⟨u, h5, h6⟩ := l2 j (ct, j) (by rw [List.getElem?_zipIdx, hj]; simp)
          obtain ⟨u', h7, h8⟩ := Option.map_eq_some_iff.1 h5
          subst h8
          simp only [h2] at h7
          have := canon_ok h7 h3
          subst this
          exact ⟨_, h6, h1, h3⟩
        refine OpOk.pure hr (run_load_agg (vs := (List.range ft.length).map (fun j => f (off + j))) h e (by rw [← hs]; simp) ha ?_) ⟨_, rfl, by simp [hl], ?_⟩
        · intro j v hj
          obtain ⟨hj', rfl⟩ := map_range_get hj
          obtain ⟨_, _, _, _, h4, _⟩ := hcell j _ (List.getElem?_eq_getElem hj')
          exact h4
        · intro j v hj
          have hjn : j < ft.length := by rw [← hl]; exact (List.getElem?_eq_some_iff.1 hj).1
          obtain ⟨x, h1, h2, h3⟩ := hgo j _ (List.getElem?_eq_getElem hjn)
          rw [hj] at h1; injection h1 with h1; subst h1
          refine ⟨okCell_one h3, f (off + j), ?_, ?_⟩
          · rw [List.getElem?_toArray, map_range_put _ hjn]
          · exact (hc _ _ h2).2.2
      · rename_i ha
        have ha : isAggB P t = false := by simpa using ha
        split at hv
        · rename_i ct
          obtain ⟨u, h7, h8⟩ := Option.map_eq_some_iff.1 hv
          subst h8
          obtain ⟨x, h1, h2, h3, h4, h5⟩ := hcell 0 ct rfl
          simp only [Nat.add_zero] at h2 h4 h5
          rw [h2] at h7
          have := canon_ok h7 h3
          subst this
          exact OpOk.pure hr (run_load_one h e hs.symm ha h4) h5
        · cases hv
    · cases hv
  · cases hv
end
end Go.Den

/- Each operation that the interpreter carries out is carried out so by the model: stores, addresses of parts. -/
namespace Go.Den
open Go

section
variable {P : Program} {σ : Heap} {ρ : Gr} {S : Cells} {w : World} {fr : Fr} {a : Act} {o : Oper}


/-- A variable is written. -/
theorem Rel.setBox (hr : Rel P σ ρ S w) {id b c : Nat} {cs cs' : List AV} {arr arr' : Array Value} {T : TypeId} (hb : σ[id]? = some (.box cs)) (hid : ρ[id]? = some (some (b, c)))
    (hh : w.heap[b]? = some (.cells arr T (0, 0))) (hs : arr'.size = cs'.length)
    (hc : ∀ (j : Nat) (v : AV), cs'[j]? = some v → v.one = true ∧ ∃ x, arr'[j]? = some x ∧ VA1 P σ ρ S w v x) :
    Rel P (σ.set id (.box cs')) ρ S (w.setRow b arr') ∧ Ext σ ρ S w (σ.set id (.box cs')) ρ S (w.setRow b arr') := by
  have hTS : (∀ o, ¬ S b o) ∧ T = c := by
    obtain ⟨b', c', arr0, T0, h1, h2, _, _, h5, h6⟩ := hr.box id cs hb
    rw [hid] at h1; injection h1 with h1; injection h1 with h1; injection h1 with h1 h1'
    subst h1; subst h1'
    rw [hh] at h2; injection h2 with h2; injection h2 with _ h2 _
    exact ⟨h5, h2 ▸ h6⟩
  have hnS : ∀ o, ¬ S b o := hTS.1
  have hidlt : id < σ.length := (List.getElem?_eq_some_iff.1 hb).1
  have hoth : ∀ k, k ≠ b → (w.setRow b arr').heap[k]? = w.heap[k]? := fun k hk => setRow_other w b k arr' hk
  have hcellS : ∀ b' o', S b' o' → (w.setRow b arr').cell? ⟨b', o', none⟩ = w.cell? ⟨b', o', none⟩ := fun b' o' h =>
    cell_of_heap (hoth b' (by rintro rfl; exact hnS _ h))
  have hset : ∀ (i : Nat) (ob : Ob), (σ.set id (.box cs'))[i]? = some ob → (i = id ∧ ob = .box cs') ∨ (i ≠ id ∧ σ[i]? = some ob) := by
    intro i ob h
    rw [List.getElem?_set] at h
    split at h
    · rename_i e; subst e
      injection h with h; exact .inl ⟨rfl, h.symm⟩
    · rename_i e; exact .inr ⟨fun e' => e e'.symm, h⟩
  have hkeep : ∀ (i : Nat) (q : Ob), σ[i]? = some q → (∀ ds, q ≠ .box ds) → (σ.set id (.box cs'))[i]? = some q := fun i q h hq => by
    rw [List.getElem?_set_ne (by rintro rfl; rw [hb] at h; injection h with h; exact hq cs h.symm)]; exact h
  have he : Ext σ ρ S w (σ.set id (.box cs')) ρ S (w.setRow b arr') := by
    refine ⟨fun b' o' h => ⟨h, hcellS b' o' h⟩, fun i ds h => ⟨?_, rfl⟩, fun i t m h => .inl ⟨m, Nat.le_refl _, ?_, fun _ => rfl⟩, fun i r h => .inl ⟨r, rfl, Nat.le_refl _, hkeep i _ h (by simp), fun _ => rfl⟩, fun i h => hkeep i _ h (by simp), fun k hk hn => hoth k ?_, fun i b c h => .inr ⟨i, c, h⟩, fun _ _ h => .inl h, by rw [setRow_size]; exact Nat.le_refl _, rfl, rfl, rfl⟩
    · by_cases e : i = id
      · subst e; exact ⟨cs', by simp [hidlt]⟩
      · exact ⟨ds, by rw [List.getElem?_set_ne (fun e' => e e'.symm)]; exact h⟩
    · have e : i ≠ id := by rintro rfl; rw [hb] at h; cases h
      rw [List.getElem?_set_ne (fun e' => e e'.symm)]; exact h
    · rintro rfl; exact hn id c hid
  refine ⟨⟨by simp [hr.len], ?_, ?_, ?_, ?_, fun i b' c' h => by rw [setRow_size]; exact hr.lt i b' c' h, hr.inj, ?_, hr.glob.mono he⟩, he⟩
  · intro i ds h
    rcases hset i _ h with ⟨rfl, h'⟩ | ⟨hne, h⟩
    · injection h' with h'; subst h'
      exact ⟨b, c, arr', T, hid, setRow_heap w b arr arr' T (0, 0) hh, hs, fun j v hj => let ⟨h1, x, h2, h3⟩ := hc j v hj; ⟨h1, x, h2, h3.mono he⟩, hTS⟩
    · obtain ⟨b', c', arr0, T0, h1, h2, h3, h4, h5⟩ := hr.box i ds h
      have hbb : b' ≠ b := by rintro rfl; exact hne (hr.inj _ _ _ _ _ h1 hid)
      exact ⟨b', c', arr0, T0, h1, (hoth b' hbb).trans h2, h3, fun j v hj => let ⟨h6, x, h7, h8⟩ := h4 j v hj; ⟨h6, x, h7, h8.mono he⟩, h5⟩
  · intro i et n b' c' h h'
    rcases hset i _ h with ⟨_, h⟩ | ⟨hne, h⟩
    · cases h
    · obtain ⟨arr0, T0, fs, h1, h2⟩ := hr.vec i et n b' c' h h'
      have hbb : b' ≠ b := by rintro rfl; exact hne (hr.inj _ _ _ _ _ h' hid)
      exact ⟨arr0, T0, fs, (hoth b' hbb).trans h1, h2⟩
  · intro i r h
    rcases hset i _ h with ⟨_, h⟩ | ⟨hne, h⟩
    · cases h
    · obtain ⟨b', c', o', h1, h2, h3, h4⟩ := hr.raw i r h
      have hbb : b' ≠ b := by rintro rfl; exact hne (hr.inj _ _ _ _ _ h1 hid)
      exact ⟨b', c', o', h1, (hoth b' hbb).trans h2, h3.mono he, h4⟩
  · intro i h
    rcases hset i _ h with ⟨_, h⟩ | ⟨_, h⟩
    · cases h
    · exact hr.hole i h
  · intro b' o' h
    obtain ⟨v, hv⟩ := hr.cells b' o' h
    exact ⟨v, by rw [hcellS b' o' h]; exact hv⟩

theorem one_oneCell {v : AV} {cv : Value} (h1 : v.one = true) (hv : VA1 P σ ρ S w v cv) : cv.oneCell' = true := by
  cases v with
  | e x =>
    have hx : VE P w S x cv := hv
    cases hx <;> first | rfl | (simp [AV.one] at h1)
  | nils t => obtain ⟨h, _⟩ := hv; subst h; rfl
  | nilc t => obtain ⟨⟨A, h⟩, _⟩ := hv; subst h; rfl
  | nil0 t => obtain ⟨⟨A, h⟩, _⟩ := hv; subst h; rfl
  | sn t xs => obtain ⟨_, A, n, c, h⟩ := hv; subst h; rfl
  | mv id t n off len => obtain ⟨b, o, c, fs, h, _⟩ := hv; subst h; rfl
  | eptr id n i j => obtain ⟨b, o, h, _⟩ := hv; subst h; rfl
  | mp id => obtain ⟨b, c, _, _, h⟩ := hv; subst h; rfl
  | nilm => have h : _ = Value.map none := hv; subst h; rfl
  | own id et xs => obtain ⟨A, c, fs, b, o', f, h, _⟩ := VE_sl_inv hv.1; subst h; rfl
  | ptr id off => obtain ⟨b, c, _, _, h⟩ := hv; subst h; rfl
  | nilp => have h : cv = .pointer none := hv; subst h; rfl
  | pin et y off => obtain ⟨b, o', fs, f, h, _⟩ := hv; subst h; rfl
  | fn f => have h : cv = .func (.func f) #[] #[] := hv; subst h; rfl
  | clo f ps => obtain ⟨cap, h, _⟩ := hv; subst h; rfl
  | itr id => obtain ⟨b, c, _, _, h⟩ := hv; subst h; rfl
  | nsp id t => obtain ⟨_, b, _, h⟩ := hv; rcases h with h | h <;> subst h <;> rfl
  | _ => simp [AV.one] at h1

theorem run_store_op {ev : Operand → Value} {x y : Operand} {t : TypeId} {b off : Nat} {arr : Array Value} {T : TypeId} (h : o.op = .store t x y) (e : ev x = .pointer (some ⟨b, off, none⟩))
    (hs : sizeB P t = some (ev y).cells.size) (hh : w.heap[b]? = some (.cells arr T (0, 0))) (hl : off + (ev y).cells.size ≤ arr.size) (h1 : ∀ v ∈ (ev y).cells.toList, v.oneCell' = true) :
    (execOp ev o).run P w = .ok .skip (w.setRow b (arr.toList.take off ++ (ev y).cells.toList ++ arr.toList.drop (off + (ev y).cells.toList.length)).toArray) := by
  have h2 := run_sizeOf (w := w) hs
  have h3 := run_storeCells_at P b off T (ev y).cells.toList 0 arr w hh (by simpa using hl) h1
  simp only [Nat.add_zero] at h3
  simp [execOp, h, Instr.storeAt, Instr.sureAddr, e, storeVar, h2, h3]

theorem op_store (hr : Rel P σ ρ S w) (hf : FR P σ ρ S w fr a.tmps) {t : TypeId} {x y : Operand} {id off n : Nat} {v : AV} {cs : List AV} (h : o.op = .store t x y) (hx : evalO fr x = some (.ptr id off))
    (hy : evalT P t fr y = some v) (hb : σ[id]? = some (.box cs)) (hs : sizeB P t = some n) (hn : v.cells.length = n) (hl : off + n ≤ cs.length) (h1 : v.cells.all AV.one = true)
    {k : Nat} {pc : List AV} {σ1 : Heap} (hp : promote v.cells k σ = some (pc, σ1)) :
    OpOk P σ ρ S w a o .undef (σ1.set id (.box (splice cs off pc))) := by
  obtain ⟨b, c, hid, _, e⟩ : VA1 P σ ρ S w (.ptr id off) (a.eval x) := evalO_ok hf hx
  have hv := evalT_ok hf hy
  generalize hcv : a.eval y = cv at hv
  obtain ⟨c1, c2⟩ := cells_ok hv h1
  obtain ⟨l, r1, e1, c3⟩ := promote_ok v.cells hp hr (arr := cv.cells.toList) (by simpa using c1) (fun j u hj => by
    obtain ⟨h3, y, hy, h4⟩ := c2 j u hj
    exact ⟨h3, y, by simpa using hy, h4⟩)
  obtain ⟨b0, c0, arr, T, g1, g2, g3, g4, _⟩ := hr.box id cs hb
  rw [hid] at g1; injection g1 with g1; injection g1 with g1; injection g1 with g1 _
  subst g1
  have hsz : cv.cells.size = n := by rw [c1, hn]
  have hb1 : ∃ cs1, σ1[id]? = some (.box cs1) ∧ ρ[id]? = some (some (b, c)) := by
    obtain ⟨⟨cs1, h2⟩, h3⟩ := e1.box id cs hb
    exact ⟨cs1, h2, h3.trans hid⟩
  obtain ⟨cs1, hb1, hid1⟩ := hb1
  have hsl : (splice cs off pc).length = cs.length := by
    simp [splice, l, hn]; omega
  have hvl : cv.cells.toList.length = n := by simpa using hsz
  obtain ⟨r2, e2⟩ := r1.setBox (cs' := splice cs off pc)
    (arr' := (arr.toList.take off ++ cv.cells.toList ++ arr.toList.drop (off + cv.cells.toList.length)).toArray) hb1 hid1 g2
    (by rw [hsl]; simp [g3, hvl]; omega)
    (fun j u hj => by
      have hal : arr.toList.length = cs.length := by simpa using g3
      have hpl : pc.length = n := by rw [l, hn]
      rw [List.getElem?_toArray]
      unfold splice at hj
      rw [hpl] at hj
      rw [hvl]
      rcases Nat.lt_or_ge j off with k1 | k1
      · rw [List.append_assoc, List.getElem?_append_left (by simp; omega), List.getElem?_take, if_pos k1] at hj
        rw [List.append_assoc, List.getElem?_append_left (by simp; omega), List.getElem?_take, if_pos k1]
        obtain ⟨h5, x, h6, h7⟩ := g4 j u hj
        exact ⟨h5, x, by rw [Array.getElem?_toList]; exact h6, h7.mono e1⟩
      · rcases Nat.lt_or_ge j (off + n) with k2 | k2
        · rw [List.append_assoc, List.getElem?_append_right (by simp; omega), List.getElem?_append_left (by simp; omega)] at hj
          rw [List.append_assoc, List.getElem?_append_right (by simp; omega), List.getElem?_append_left (by simp; omega)]
          have e3 : (List.take off cs).length = off := by simp; omega
          have e4 : (List.take off arr.toList).length = off := by simp; omega
          rw [e3] at hj; rw [e4]
          exact c3 (j - off) u hj
        · rw [List.getElem?_append_right (by simp; omega)] at hj
          rw [List.getElem?_append_right (by simp; omega)]
          have e3 : (List.take off cs ++ pc).length = off + n := by simp; omega
          have e4 : (List.take off arr.toList ++ cv.cells.toList).length = off + n := by simp; omega
          rw [e3, List.getElem?_drop] at hj; rw [e4, List.getElem?_drop]
          obtain ⟨h5, x, h6, h7⟩ := g4 _ u hj
          exact ⟨h5, x, by rw [Array.getElem?_toList]; exact h6, h7.mono e1⟩)
  subst hcv
  refine ⟨_, undef, _, _, _, run_store_op h e (by rw [hs, hsz]) g2 (by rw [hsz, g3]; exact hl) ?_, .inr ⟨rfl, rfl⟩, r2, e1.trans e2, trivial⟩
  intro u hu
  obtain ⟨j, hj⟩ := List.getElem?_of_mem hu
  have hjl : j < v.cells.length := by
    rw [← c1]
    have := (List.getElem?_eq_some_iff.1 hj).1
    simpa using this
  obtain ⟨h3, y, hy, h4⟩ := c2 j _ (List.getElem?_eq_getElem hjl)
  rw [Array.getElem?_toList] at hj
  rw [hj] at hy; injection hy with hy; subst hy
  exact one_oneCell h3 h4

end
end Go.Den

/- Each operation that the interpreter carries out is carried out so by the model: addresses and parts. -/
namespace Go.Den
open Go

section
variable {P : Program} {σ : Heap} {ρ : Gr} {S : Cells} {w : World} {fr : Fr} {a : Act} {o : Oper}

section
variable {ev : Operand → Value} {x y : Operand}
theorem run_fieldAddr {s : TypeId} {fs : Array Field} {f : Field} {i b off n : Nat} (h : o.op = .fieldAddr s x i) (hs : P.underlying s = some (.struct fs)) (hf : fs[i]? = some f)
    (hn : sizeB P f.type = some n) (h0 : n ≠ 0) (e : ev x = .pointer (some ⟨b, off, none⟩)) : (execOp ev o).run P w = .ok (.value (.pointer (some ⟨b, off + f.offset, none⟩))) w := by
  have h2 := run_sizeOf (w := w) hn
  simp [execOp, h, Instr.fieldAt, run_underlying hs, hf, Instr.sureAddr, e, fieldPlace, h2, h0, add_at]
theorem run_nilCheck {v : Value} {b off : Nat} (h : o.op = .nilCheck x) (e : ev x = v) (hv : v = .pointer (some ⟨b, off, none⟩)) : (execOp ev o).run P w = .ok (.value v) w := by
  subst hv; simp [execOp, h, e]
theorem run_nilCheck_fn {f : FuncId} (h : o.op = .nilCheck x) (e : ev x = .func (.func f) #[] #[]) : (execOp ev o).run P w = .ok (.value (.func (.func f) #[] #[])) w := by
  simp [execOp, h, e]
theorem run_nilCheck_any {v : Value} (h : o.op = .nilCheck x) (e : ev x = v) (hv : (∃ f cap, v = .func (.func f) #[] cap) ∨ ∃ t u, v = .iface t u) : (execOp ev o).run P w = .ok (.value v) w := by
  rcases hv with ⟨f, cap, rfl⟩ | ⟨t, u, rfl⟩ <;> simp [execOp, h, e]
theorem run_indexAddr {t et : TypeId} {i : Operand} {k : IntKind} {n : Int} {b off len c sz : Nat} (h : o.op = .indexAddr t x i) (ht : P.underlying t = some (.slice et)) (e1 : ev x = .slice (some ⟨b, off, none⟩) len c) (e2 : ev i = .int k n)
    (hs : sizeB P et = some sz) (h0 : 0 ≤ n) (h1 : n < len) : (execOp ev o).run P w = .ok (.value (.pointer (some ⟨b, off + n.toNat * sz, none⟩))) w := by
  have h2 := run_sizeOf (w := w) hs
  simp [execOp, h, Instr.indexAt, asIntOf, e1, e2, run_underlying ht, h0, h1, h2, add_at]
theorem run_typeAssert_ok {t u : TypeId} {v : Value} {d : TypeDesc} (h : o.op = .typeAssert x u t true) (e : ev x = .iface t v) (ht : P.underlying t = some d) (hd : ∀ ms, d ≠ .interface ms) :
    (execOp ev o).run P w = .ok (.value (.tuple #[v, .bool true])) w := by
  cases d <;> first | exact absurd rfl (hd _) | simp [execOp, h, Instr.typeAssert, e, run_underlying ht]
theorem run_typeAssert_one {t u : TypeId} {v : Value} {d : TypeDesc} (h : o.op = .typeAssert x u t false) (e : ev x = .iface t v) (ht : P.underlying t = some d) (hd : ∀ ms, d ≠ .interface ms) :
    (execOp ev o).run P w = .ok (.value v) w := by
  cases d <;> first | exact absurd rfl (hd _) | simp [execOp, h, Instr.typeAssert, e, run_underlying ht]
theorem run_typeAssert_no {t u q : TypeId} {v z : Value} {d : TypeDesc} {i : TypeInfo} (h : o.op = .typeAssert x u t true) (e : ev x = .iface q v) (hq : q ≠ t) (ht : P.underlying t = some d) (hd : ∀ ms, d ≠ .interface ms) (hi : P.info? t = some i) (hz : i.zero = some z) :
    (execOp ev o).run P w = .ok (.value (.tuple #[z, .bool false])) w := by
  cases d <;> first | exact absurd rfl (hd _) | simp [execOp, h, Instr.typeAssert, e, run_underlying ht, hq, zeroValue, typeInfo, hi, hz]
theorem run_max {ats : Array TypeId} {k : IntKind} {m n : Int} (h : o.op = .call { callee := .builtin .max, args := #[x, y], argTypes := ats })
    (e1 : ev x = .int k m) (e2 : ev y = .int k n) : (execOp ev o).run P w = .ok (.value (.int k (max m n))) w := by
  have : (if m < n then n else m) = max m n := by split <;> omega
  simp [execOp, h, resolve, invoke, builtin, Builtin.max_, Builtin.max2, e1, e2, this]
theorem run_min {ats : Array TypeId} {k : IntKind} {m n : Int} (h : o.op = .call { callee := .builtin .min, args := #[x, y], argTypes := ats })
    (e1 : ev x = .int k m) (e2 : ev y = .int k n) : (execOp ev o).run P w = .ok (.value (.int k (min m n))) w := by
  have : (if n < m then n else m) = min m n := by split <;> omega
  simp [execOp, h, resolve, invoke, builtin, Builtin.min_, Builtin.min2, e1, e2, this]
end

theorem op_fieldAddr_ptr (hr : Rel P σ ρ S w) (hf : FR P σ ρ S w fr a.tmps) {s : TypeId} {x : Operand} {fs : Array Field} {f : Field} {i id off n : Nat} (h : o.op = .fieldAddr s x i) (hs : P.underlying s = some (.struct fs))
    (hfi : fs[i]? = some f) (hn : sizeB P f.type = some n) (h0 : n ≠ 0) (hx : evalO fr x = some (.ptr id off)) : OpOk P σ ρ S w a o (.ptr id (off + f.offset)) σ := by
  obtain ⟨b, c, hid, hb, e⟩ : VA1 P σ ρ S w (.ptr id off) (a.eval x) := evalO_ok hf hx
  exact OpOk.pure hr (run_fieldAddr h hs hfi hn h0 e) ⟨b, c, hid, hb, rfl⟩

theorem op_fieldAddr_pin (hr : Rel P σ ρ S w) (hf : FR P σ ρ S w fr a.tmps) {s et : TypeId} {y : E} {x : Operand} {fs : Array Field} {f : Field} {i off n : Nat} (h : o.op = .fieldAddr s x i) (hs : P.underlying s = some (.struct fs))
    (hfi : fs[i]? = some f) (hn : sizeB P f.type = some n) (h0 : n ≠ 0) (hx : evalO fr x = some (.pin et y off)) : OpOk P σ ρ S w a o (.pin et y (off + f.offset)) σ := by
  obtain ⟨b, o', fs', g, e, h1, h2, h3, h4⟩ : VA1 P σ ρ S w (.pin et y off) (a.eval x) := evalO_ok hf hx
  exact OpOk.pure hr (run_fieldAddr h hs hfi hn h0 e) ⟨b, o', fs', g, by rw [Nat.add_assoc], h1, h2, h3, h4⟩

theorem op_nilCheck_ptr (hr : Rel P σ ρ S w) (hf : FR P σ ρ S w fr a.tmps) {x : Operand} {id off : Nat} (h : o.op = .nilCheck x) (hx : evalO fr x = some (.ptr id off)) : OpOk P σ ρ S w a o (.ptr id off) σ := by
  have hv : VA1 P σ ρ S w (.ptr id off) (a.eval x) := evalO_ok hf hx
  obtain ⟨b, c, hid, hb, e⟩ := hv
  exact OpOk.pure hr (run_nilCheck h rfl e) ⟨b, c, hid, hb, e⟩
theorem op_nilCheck_pin (hr : Rel P σ ρ S w) (hf : FR P σ ρ S w fr a.tmps) {x : Operand} {et : TypeId} {y : E} {off : Nat} (h : o.op = .nilCheck x) (hx : evalO fr x = some (.pin et y off)) : OpOk P σ ρ S w a o (.pin et y off) σ := by
  have hv : VA1 P σ ρ S w (.pin et y off) (a.eval x) := evalO_ok hf hx
  obtain ⟨b, o', fs', g, e, h1⟩ := hv
  exact OpOk.pure hr (run_nilCheck h rfl e) ⟨b, o', fs', g, e, h1⟩
theorem op_nilCheck_fn (hr : Rel P σ ρ S w) (hf : FR P σ ρ S w fr a.tmps) {x : Operand} {f : FuncId} (h : o.op = .nilCheck x) (hx : evalO fr x = some (.fn f)) : OpOk P σ ρ S w a o (.fn f) σ := by
  have e : a.eval x = .func (.func f) #[] #[] := evalO_ok hf hx
  exact OpOk.pure hr (run_nilCheck_fn h e) rfl

theorem op_nilCheck_clo (hr : Rel P σ ρ S w) (hf : FR P σ ρ S w fr a.tmps) {x : Operand} {f : FuncId} {ps : List (Nat × Nat)} (h : o.op = .nilCheck x) (hx : evalO fr x = some (.clo f ps)) : OpOk P σ ρ S w a o (.clo f ps) σ := by
  have hv : VA1 P σ ρ S w (.clo f ps) (a.eval x) := evalO_ok hf hx
  obtain ⟨cap, e, h1⟩ := id hv
  exact OpOk.pure hr (run_nilCheck_any h rfl (.inl ⟨f, cap, e⟩)) hv
theorem op_nilCheck_ifc (hr : Rel P σ ρ S w) (hf : FR P σ ρ S w fr a.tmps) {x : Operand} {t : TypeId} {u : E} (h : o.op = .nilCheck x) (hx : evalO fr x = some (.e (.ifc t u))) : OpOk P σ ρ S w a o (.e (.ifc t u)) σ := by
  have hv : VE P w S (.ifc t u) (a.eval x) := evalO_ok hf hx
  refine OpOk.pure hr (run_nilCheck_any h rfl (.inr ?_)) hv
  generalize a.eval x = cv at hv
  cases hv
  exact ⟨_, _, rfl⟩
theorem mapM_ptr (hf : FR P σ ρ S w fr a.tmps) {l : List Operand} {ps : List (Nat × Nat)} (h : (l.mapM (ptrOf fr)) = some ps) :
    ps.length = l.length ∧ ∀ (j : Nat) (p : Nat × Nat), ps[j]? = some p → ∃ b c, ρ[p.1]? = some (some (b, c)) ∧ (∃ cs, σ[p.1]? = some (.box cs)) ∧ (l.map a.eval)[j]? = some (.pointer (some ⟨b, p.2, none⟩)) := by
  obtain ⟨h1, h2⟩ := mapM_some_get h
  refine ⟨h1, fun j p hj => ?_⟩
  obtain ⟨x, hx, hp⟩ := mapM_some_back h j p hj
  unfold ptrOf at hp
  split at hp
  · rename_i id off he
    injection hp with hp; subst hp
    obtain ⟨b, c, h3, h4, h5⟩ : VA1 P σ ρ S w (.ptr id off) (a.eval x) := evalO_ok hf he
    exact ⟨b, c, h3, h4, by rw [List.getElem?_map, hx]; simp [h5]⟩
  · cases hp
theorem op_makeFunc (hr : Rel P σ ρ S w) (hf : FR P σ ρ S w fr a.tmps) {f : FuncId} {first captured : Array Operand} {ps : List (Nat × Nat)} (h : o.op = .makeFunc (.func f) first captured) (h0 : first.size = 0)
    (hp : (captured.toList.mapM (ptrOf fr)) = some ps) : OpOk P σ ρ S w a o (.clo f ps) σ := by
  have hfirst : first = #[] := Array.eq_empty_of_size_eq_zero h0
  subst hfirst
  obtain ⟨h1, h2⟩ := mapM_ptr hf hp
  refine OpOk.pure hr (cv := .func (.func f) #[] (captured.map a.eval)) (by simp [execOp, h, Instr.makeFunc]) ⟨_, rfl, by simp [h1], fun j p hj => ?_⟩
  obtain ⟨b, c, h3, h4, h5⟩ := h2 j p hj
  refine ⟨b, c, h3, h4, ?_⟩
  rw [← Array.getElem?_toList, Array.toList_map]
  exact h5

theorem op_indexAddr (hr : Rel P σ ρ S w) (hf : FR P σ ρ S w fr a.tmps) {t et : TypeId} {x i : Operand} {u : AV} {xs : List E} {k : IntKind} {n : Int} (h : o.op = .indexAddr t x i) (ht : P.underlying t = some (.slice et))
    (hx : evalO fr x = some u) (hu : u.seal1 = some (.sl et xs)) (hi : evalO fr i = some (.e (.int k n))) (hsz : (flat P depth et).map List.length = sizeB P et) (hz : (sizeB P et).any (· ≠ 0) = true) (h0 : 0 ≤ n) (h1 : n < xs.length) :
    OpOk P σ ρ S w a o (.pin et (xs.getD n.toNat .nili) 0) σ := by
  obtain ⟨A, c, fs, b, o', f, e, hfs, hc, hlen, hok, hA, hE⟩ := VE_sl_inv (seal1_3 hu (evalO_ok hf hx))
  rw [hfs] at hsz
  have hlt : n.toNat < xs.length := by omega
  have hy := List.getElem?_eq_getElem hlt
  have hg : xs.getD n.toNat .nili = xs[n.toNat] := by simp [List.getD_eq_getElem?_getD, hy]
  rw [hg]
  have hl := hlen _ _ hy
  have hpos : 0 < fs.length := by
    rw [← hsz] at hz
    simp at hz
    cases fs with
    | nil => exact absurd rfl hz
    | cons _ _ => simp
  have hcell0 : (xs[n.toNat].cells)[0]? = some (xs[n.toNat].cells[0]'(by omega)) := List.getElem?_eq_getElem _
  obtain ⟨rfl, _⟩ := hA _ _ 0 _ hy hcell0
  refine OpOk.pure hr (run_indexAddr h ht e (VA3_int (evalO_ok hf hi)) hsz.symm h0 h1) ⟨b, o' + n.toNat * fs.length, fs, f n.toNat, rfl, hfs, hl, fun j ct x => hok _ _ j ct x hy, fun j x hj => ?_⟩
  obtain ⟨_, h5, h6⟩ := hA _ _ j x hy hj
  exact ⟨h5, h6, hE _ _ j x hy hj⟩

theorem unfold1_ok {x : E} {v : AV} {cv : Value} (h : unfold1 x = some v) (hv : VE P w S x cv) : VA2 P σ ρ S w v cv := by
  unfold unfold1 at h
  split at h
  · rename_i cs
    split at h
    · rename_i hall
      injection h with h; subst h
      cases hv with
      | agg _ arr f h1 h2 h3 =>
        refine ⟨arr, rfl, by simpa using h1, fun j u hj => ?_⟩
        rw [List.getElem?_map] at hj
        obtain ⟨c, hc, hj⟩ := Option.map_eq_some_iff.1 hj
        subst hj
        exact ⟨List.all_eq_true.1 hall c (List.mem_of_getElem? hc), f j, h2 j c hc, h3 j c hc⟩
    · cases h
  · injection h with h; subst h; exact hv

theorem op_typeAssert (hr : Rel P σ ρ S w) (hf : FR P σ ρ S w fr a.tmps) {x : Operand} {u t q : TypeId} {v : E} {ok : Bool} {d : TypeDesc} {r : AV} (h : o.op = .typeAssert x u t ok) (ht : P.underlying t = some d) (hd : ∀ ms, d ≠ .interface ms)
    (hx : evalO fr x = some (.e (.ifc q v)))
    {v' : AV} (hun : unfold1 v = some v') (hres : (if ok then (if q = t then some (AV.tup [v', .e (.bool true)]) else (zeroOf P t).map fun z => .tup [z, .e (.bool false)]) else if q = t then some v' else none) = some r) : OpOk P σ ρ S w a o r σ := by
  have hv : VE P w S (.ifc q v) (a.eval x) := evalO_ok hf hx
  generalize hcv : a.eval x = cv at hv
  cases hv with
  | ifc _ _ cv hv =>
    cases ok with
    | true =>
      simp only [if_true] at hres
      split at hres
      · rename_i hq; subst hq
        injection hres with hres; subst hres
        refine OpOk.pure hr (run_typeAssert_ok h hcv ht hd) ⟨_, rfl, rfl, fun j z hj => ?_⟩
        match j with
        | 0 => simp at hj; subst hj; exact ⟨_, rfl, unfold1_ok hun hv⟩
        | 1 => simp at hj; subst hj; exact ⟨_, rfl, VE.bool _⟩
        | j + 2 => simp at hj
      · rename_i hq
        obtain ⟨z, hz, hres⟩ := Option.map_eq_some_iff.1 hres
        subst hres
        obtain ⟨i, z', hi, hz', h1, _⟩ := zeroOf_ok (σ := σ) (ρ := ρ) (S := S) (w := w) hz
        have hn : ∀ cs, z ≠ .tup cs := by
          rintro cs rfl
          unfold zeroOf at hz
          split at hz <;> try (cases hz; done)
          split at hz <;> try (cases hz; done)
          split at hz
          · split at hz <;> try (cases hz; done)
            split at hz <;> cases hz
          · split at hz <;> try (cases hz; done)
            rename_i c hcs
            split at hz
            · injection hz with hz; subst hz; rename_i hzz; rename_i z0 _ _ _; cases z0 <;> simp [isZero] at hzz
            · cases hz
        rw [VA3_eq hn] at h1
        refine OpOk.pure hr (run_typeAssert_no h hcv hq ht hd hi hz') ⟨_, rfl, rfl, fun j q hj => ?_⟩
        match j with
        | 0 => simp at hj; subst hj; exact ⟨_, rfl, h1⟩
        | 1 => simp at hj; subst hj; exact ⟨_, rfl, VE.bool _⟩
        | j + 2 => simp at hj
    | false =>
      simp only [Bool.false_eq_true, if_false] at hres
      split at hres
      · rename_i hq; subst hq
        injection hres with hres; subst hres
        exact OpOk.pure hr (run_typeAssert_one h hcv ht hd) (unfold1_ok hun hv).to3
      · cases hres

theorem op_max (hr : Rel P σ ρ S w) (hf : FR P σ ρ S w fr a.tmps) {args : Array Operand} {ats : Array TypeId} {k : IntKind} {m n : Int} (h : o.op = .call { callee := .builtin .max, args := args, argTypes := ats })
    (hx : args.toList.map (evalO fr) = [some (.e (.int k m)), some (.e (.int k n))]) : OpOk P σ ρ S w a o (.e (.int k (max m n))) σ := by
  obtain ⟨x, y, rfl, h1, h2⟩ := args_two hx
  exact OpOk.pure hr (run_max h (VA3_int (evalO_ok hf h1)) (VA3_int (evalO_ok hf h2))) (VE.int _ _)
theorem op_min (hr : Rel P σ ρ S w) (hf : FR P σ ρ S w fr a.tmps) {args : Array Operand} {ats : Array TypeId} {k : IntKind} {m n : Int} (h : o.op = .call { callee := .builtin .min, args := args, argTypes := ats })
    (hx : args.toList.map (evalO fr) = [some (.e (.int k m)), some (.e (.int k n))]) : OpOk P σ ρ S w a o (.e (.int k (min m n))) σ := by
  obtain ⟨x, y, rfl, h1, h2⟩ := args_two hx
  exact OpOk.pure hr (run_min h (VA3_int (evalO_ok hf h1)) (VA3_int (evalO_ok hf h2))) (VE.int _ _)
end
end Go.Den

/- Slices that the program makes: new rows of cells, rows that grow where they lie. -/
namespace Go.Den
open Go

section
variable {P : Program} {σ : Heap} {ρ : Gr} {S : Cells} {w w' : World}

/-- A world with one block more. -/
structure NewBlock (w w' : World) (arr : Array Value) (T : TypeId) : Prop where
  heap : w'.heap = w.heap.push (.cells arr T (0, 0))
  os : w'.os = w.os
  tape : w'.tape = w.tape
  output : w'.output = w.output

theorem NewBlock.alloc (w : World) (arr : Array Value) (T : TypeId) : NewBlock w (w.alloc (.cells arr T)) arr T := ⟨rfl, rfl, rfl, rfl⟩
theorem NewBlock.drew (w : World) (arr : Array Value) (T : TypeId) : NewBlock w (w.drew.alloc (.cells arr T)) arr T := ⟨rfl, rfl, rfl, rfl⟩
theorem NewBlock.old {arr : Array Value} {T : TypeId} (h : NewBlock w w' arr T) {b : Nat} (hb : b < w.heap.size) : w'.heap[b]? = w.heap[b]? := by
  rw [h.heap, Array.getElem?_push, if_neg (by omega)]
theorem NewBlock.new {arr : Array Value} {T : TypeId} (h : NewBlock w w' arr T) : w'.heap[w.heap.size]? = some (.cells arr T (0, 0)) := by
  rw [h.heap]; simp
theorem NewBlock.size {arr : Array Value} {T : TypeId} (h : NewBlock w w' arr T) : w'.heap.size = w.heap.size + 1 := by
  rw [h.heap]; simp
theorem NewBlock.cell {arr : Array Value} {T : TypeId} (h : NewBlock w w' arr T) (j : Nat) : w'.cell? ⟨w.heap.size, j, none⟩ = arr[j]? := cell_of_row w' _ j arr T (0, 0) h.new

/-- The cells of a block up to a place, beside those of S. -/
def addRow (S : Cells) (b m : Nat) : Cells := fun b' o => S b' o ∨ (b' = b ∧ o < m)

/-- New cells that nobody may write any more. -/
theorem Rel.newCells (hr : Rel P σ ρ S w) {arr : Array Value} {T : TypeId} (hn : NewBlock w w' arr T) {m : Nat} (hm : m ≤ arr.size) :
    Rel P σ ρ (addRow S w.heap.size m) w' ∧ Ext σ ρ S w σ ρ (addRow S w.heap.size m) w' := by
  have hcS : ∀ b o, S b o → w'.cell? ⟨b, o, none⟩ = w.cell? ⟨b, o, none⟩ := fun b o h => by
    obtain ⟨v, hv⟩ := hr.cells b o h
    exact cell_of_heap (hn.old (cell_lt hv))
  have he : Ext σ ρ S w σ ρ (addRow S w.heap.size m) w' := by
    refine ⟨fun b o h => ⟨.inl h, hcS b o h⟩, fun id cs h => ⟨⟨cs, h⟩, rfl⟩, fun id t n h => .inl ⟨n, Nat.le_refl _, h, fun _ => rfl⟩, fun id r h => .inl ⟨r, rfl, Nat.le_refl _, h, fun _ => rfl⟩, fun id h => h, fun b hb _ => hn.old hb, fun id b c h => .inr ⟨id, c, h⟩, ?_, by rw [hn.size]; omega, hn.os, hn.tape, hn.output⟩
    rintro b o (h | ⟨rfl, h⟩)
    · exact .inl h
    · exact .inr (.inl (Nat.le_refl _))
  refine ⟨⟨hr.len, ?_, ?_, ?_, hr.hole, fun i b c h => by rw [hn.size]; have := hr.lt i b c h; omega, hr.inj, ?_, hr.glob.mono he⟩, he⟩
  · intro id cs h
    obtain ⟨b, c, arr', T', h1, h2, h3, h4, h5⟩ := hr.box id cs h
    refine ⟨b, c, arr', T', h1, (hn.old (heap_lt h2)).trans h2, h3, fun j v hj => let ⟨h6, x, h7, h8⟩ := h4 j v hj; ⟨h6, x, h7, h8.mono he⟩, ?_, h5.2⟩
    rintro o (h | ⟨rfl, _⟩)
    · exact h5.1 o h
    · have := heap_lt h2; omega
  · intro id et n b c h h'
    obtain ⟨arr', T', fs, h1, h2, h3, h4, h5⟩ := hr.vec id et n b c h h'
    refine ⟨arr', T', fs, (hn.old (heap_lt h1)).trans h1, h2, h3, h4, ?_, h5.2⟩
    rintro o (h | ⟨rfl, _⟩)
    · exact h5.1 o h
    · have := heap_lt h1; omega
  · intro id r h
    obtain ⟨b, c, o', h1, h2, h3, h4⟩ := hr.raw id r h
    refine ⟨b, c, o', h1, (hn.old (heap_lt h2)).trans h2, h3.mono he, ?_⟩
    rintro o (h | ⟨rfl, _⟩)
    · exact h4 o h
    · have := heap_lt h2; omega
  · rintro b o (h | ⟨rfl, h⟩)
    · obtain ⟨v, hv⟩ := hr.cells b o h
      exact ⟨v, by rw [hcS b o h]; exact hv⟩
    · exact ⟨arr[o], by rw [hn.cell]; exact Array.getElem?_eq_getElem (by omega)⟩

/-- A growing slice lies in a row that has just been made: one that moves there, or a new one. -/
theorem Rel.layRow (hr : Rel P σ ρ S w) {id : Nat} {et : TypeId} {n c : Nat} (hv : (∃ n0, σ[id]? = some (.vec et n0) ∧ n0 < n) ∨ σ[id]? = some .hole) {arr : Array Value} (hn : NewBlock w w' arr et) {fs : List TypeId}
    (hfs : flat P depth et = some fs) (hc : n ≤ c) (hl : c * fs.length ≤ arr.size) :
    Rel P (σ.set id (.vec et n)) (ρ.set id (some (w.heap.size, c))) (addRow S w.heap.size (n * fs.length)) w' ∧
      Ext σ ρ S w (σ.set id (.vec et n)) (ρ.set id (some (w.heap.size, c))) (addRow S w.heap.size (n * fs.length)) w' := by
  have hnl : n * fs.length ≤ arr.size := Nat.le_trans (Nat.mul_le_mul_right _ hc) hl
  obtain ⟨r1, e1⟩ := hr.newCells hn hnl
  have hid : id < σ.length := by rcases hv with ⟨_, hv, _⟩ | hv <;> exact (List.getElem?_eq_some_iff.1 hv).1
  have hidr : id < ρ.length := by rw [hr.len]; exact hid
  have hneo : ∀ {i : Nat} {q : Ob}, σ[i]? = some q → q ≠ .hole → (∀ et n, q ≠ .vec et n) → id ≠ i := fun {i q} h h1 h2 => by
    rintro rfl
    rcases hv with ⟨n0, hv, _⟩ | hv <;> rw [hv] at h <;> injection h with h
    · exact h2 _ _ h.symm
    · exact h1 h.symm
  have he : Ext σ ρ S w (σ.set id (.vec et n)) (ρ.set id (some (w.heap.size, c))) (addRow S w.heap.size (n * fs.length)) w' := by
    refine ⟨e1.cell, fun i cs h => ?_, fun i t m h => .inl ?_, fun i r h => ?_, fun i h => ?_, e1.old, ?_, e1.newS, e1.size, e1.os, e1.tape, e1.output⟩
    · have hne : id ≠ i := hneo h (by simp) (by simp)
      exact ⟨⟨cs, by rw [List.getElem?_set_ne hne]; exact h⟩, by rw [List.getElem?_set_ne hne]⟩
    · by_cases hne : id = i
      · subst hne
        rcases hv with ⟨n0, hv, h0⟩ | hv
        · rw [hv] at h; injection h with h; injection h with h1 h2; subst h1; subst h2
          exact ⟨n, by omega, by simp [hid], fun e => by omega⟩
        · rw [hv] at h; cases h
      · exact ⟨m, Nat.le_refl _, by rw [List.getElem?_set_ne hne]; exact h, fun _ => by rw [List.getElem?_set_ne hne]⟩
    · have hne : id ≠ i := hneo h (by simp) (by simp)
      exact .inl ⟨r, rfl, Nat.le_refl _, by rw [List.getElem?_set_ne hne]; exact h, fun _ => by rw [List.getElem?_set_ne hne]⟩
    · rw [List.getElem?_set_ne (hneo h (by simp) (by simp))]; exact h
    · intro i b c' h
      rcases set_cases h with ⟨_, h, _⟩ | ⟨_, h⟩
      · injection h with h; injection h with h1 h2; exact .inl (by omega)
      · exact .inr ⟨i, c', h⟩
  refine ⟨⟨by simp [hr.len], ?_, ?_, ?_, ?_, ?_, ?_, r1.cells, hr.glob.mono he⟩, he⟩
  · intro i cs h
    rcases set_cases h with ⟨_, h, _⟩ | ⟨hne, h⟩
    · cases h
    · obtain ⟨b, c', arr', T', h1, h2, h3, _, h5⟩ := r1.box i cs h
      obtain ⟨b0, c0, arr0, T0, g1, g2, g3, g4, g5⟩ := hr.box i cs h
      rw [h1] at g1; injection g1 with g1; injection g1 with g1; injection g1 with g1 g1'
      subst g1
      exact ⟨b, c', arr0, T0, by rw [List.getElem?_set_ne (fun e => hne e.symm)]; exact h1, (hn.old (heap_lt g2)).trans g2, g3, fun j v hj => let ⟨h6, x, h7, h8⟩ := g4 j v hj; ⟨h6, x, h7, h8.mono he⟩, h5.1, g1' ▸ g5.2⟩
  · intro i et' n' b c' h h'
    rcases set_cases h with ⟨rfl, h, _⟩ | ⟨hne, h⟩
    · injection h with h1 h2; subst h1; subst h2
      rcases set_cases h' with ⟨_, h', _⟩ | ⟨hne, _⟩
      · injection h' with h'; injection h' with h1 h2; subst h1; subst h2
        refine ⟨arr, _, fs, hn.new, hfs, hc, hl, ?_, rfl⟩
        rintro o (h | ⟨_, h⟩)
        · obtain ⟨v, hv⟩ := hr.cells _ _ h
          have := cell_lt hv
          omega
        · exact h
      · exact absurd rfl hne
    · rcases set_cases h' with ⟨rfl, _, _⟩ | ⟨_, h'⟩
      · exact absurd rfl hne
      · exact r1.vec i et' n' b c' h h'
  · intro i r h
    rcases set_cases h with ⟨_, h, _⟩ | ⟨hne, h⟩
    · cases h
    · obtain ⟨b, c', o', h1, h2, h3, h4⟩ := r1.raw i r h
      obtain ⟨b0, c0, o0, g1, g2, g3, g4⟩ := hr.raw i r h
      rw [h1] at g1; injection g1 with g1; injection g1 with g1; injection g1 with g1 g1'
      subst g1; subst g1'
      exact ⟨b, c', o0, by rw [List.getElem?_set_ne (fun e => hne e.symm)]; exact h1, (hn.old (heap_lt g2)).trans g2, g3.mono he, h4⟩
  · intro i h
    rcases set_cases h with ⟨_, h, _⟩ | ⟨hne, h⟩
    · cases h
    · rw [List.getElem?_set_ne (fun e => hne e.symm)]; exact hr.hole i h
  · intro i b c' h
    rcases set_cases h with ⟨_, h, _⟩ | ⟨_, h⟩
    · injection h with h; injection h with h1 h2; subst h1; rw [hn.size]; omega
    · exact r1.lt i b c' h
  · intro i j b c1 c2 h h'
    rcases set_cases h with ⟨h0, h, _⟩ | ⟨_, h⟩ <;> rcases set_cases h' with ⟨h0', h', _⟩ | ⟨_, h'⟩
    · omega
    · injection h with h; injection h with h1 h2
      have := hr.rho_lt h'
      omega
    · injection h' with h'; injection h' with h1 h2
      have := hr.rho_lt h
      omega
    · exact hr.inj i j b c1 c2 h h'

/-- A growing slice grows where it lies. -/
theorem Rel.growRow (hr : Rel P σ ρ S w) {id : Nat} {et : TypeId} {n0 b c : Nat} (hv : σ[id]? = some (.vec et n0)) (hid : ρ[id]? = some (some (b, c))) {arr arr' : Array Value} {T : TypeId} {fs : List TypeId} {n : Nat}
    (hfs : flat P depth et = some fs) (hh : w.heap[b]? = some (.cells arr T (0, 0))) (h0 : n0 ≤ n) (hc : n ≤ c) (hl : c * fs.length ≤ arr.size) (hs : arr'.size = arr.size)
    (hsame : ∀ j, j < n0 * fs.length → arr'[j]? = arr[j]?) :
    Rel P (σ.set id (.vec et n)) ρ (addRow S b (n * fs.length)) (w.setRow b arr') ∧
      Ext σ ρ S w (σ.set id (.vec et n)) ρ (addRow S b (n * fs.length)) (w.setRow b arr') := by
  have hnl : n * fs.length ≤ arr.size := Nat.le_trans (Nat.mul_le_mul_right _ hc) hl
  have hidl : id < σ.length := (List.getElem?_eq_some_iff.1 hv).1
  have hoth : ∀ k, k ≠ b → (w.setRow b arr').heap[k]? = w.heap[k]? := fun k hk => setRow_other w b k arr' hk
  have hnew : (w.setRow b arr').heap[b]? = some (.cells arr' T (0, 0)) := setRow_heap w b arr arr' T (0, 0) hh
  have hSb' : (∀ o, S b o → o < n0 * fs.length) ∧ T = et := by
    obtain ⟨_, _, fs', g1, g2, _, _, g5, g6⟩ := hr.vec id et n0 b c hv hid
    rw [hfs] at g2; injection g2 with g2; subst g2
    rw [hh] at g1; injection g1 with g1; injection g1 with _ g1 _
    exact ⟨g5, g1.trans g6⟩
  have hSb := hSb'.1
  have hcS : ∀ b' o, S b' o → (w.setRow b arr').cell? ⟨b', o, none⟩ = w.cell? ⟨b', o, none⟩ := fun b' o h => by
    by_cases hb : b' = b
    · subst hb
      rw [cell_of_row _ _ o _ _ _ hnew, cell_of_row _ _ o _ _ _ hh]
      exact hsame o (hSb o h)
    · exact cell_of_heap (hoth b' hb)
  have hkeep : ∀ (i : Nat) (q : Ob), σ[i]? = some q → (∀ et n, q ≠ .vec et n) → (σ.set id (.vec et n))[i]? = some q := fun i q h hq => by
    rw [List.getElem?_set_ne (by rintro rfl; rw [hv] at h; injection h with h; exact hq _ _ h.symm)]; exact h
  have he : Ext σ ρ S w (σ.set id (.vec et n)) ρ (addRow S b (n * fs.length)) (w.setRow b arr') := by
    refine ⟨fun b' o h => ⟨.inl h, hcS b' o h⟩, fun i cs h => ?_, fun i t m h => .inl ?_, fun i r h => .inl ⟨r, rfl, Nat.le_refl _, hkeep i _ h (by simp), fun _ => rfl⟩, fun i h => hkeep i _ h (by simp), fun k hk hn => hoth k ?_, fun i b' c' h => .inr ⟨i, c', h⟩, ?_, by rw [setRow_size]; exact Nat.le_refl _, rfl, rfl, rfl⟩
    · have hne : id ≠ i := by rintro rfl; rw [hv] at h; cases h
      exact ⟨⟨cs, by rw [List.getElem?_set_ne hne]; exact h⟩, rfl⟩
    · by_cases hne : id = i
      · subst hne
        rw [hv] at h; injection h with h; injection h with h1 h2; subst h1; subst h2
        exact ⟨n, h0, by simp [hidl], fun _ => rfl⟩
      · exact ⟨m, Nat.le_refl _, by rw [List.getElem?_set_ne hne]; exact h, fun _ => rfl⟩
    · rintro rfl; exact hn id c hid
    · rintro b' o (h | ⟨rfl, h⟩)
      · exact .inl h
      · exact .inr (.inr ⟨id, c, hid⟩)
  refine ⟨⟨by simp [hr.len], ?_, ?_, ?_, ?_, fun i b' c' h => by rw [setRow_size]; exact hr.lt i b' c' h, hr.inj, ?_, hr.glob.mono he⟩, he⟩
  · intro i cs h
    rcases set_cases h with ⟨_, h, _⟩ | ⟨hne, h⟩
    · cases h
    · obtain ⟨b0, c0, arr0, T0, g1, g2, g3, g4, g5⟩ := hr.box i cs h
      have hbb : b0 ≠ b := by rintro rfl; exact hne (hr.inj _ _ _ _ _ g1 hid)
      refine ⟨b0, c0, arr0, T0, g1, (hoth b0 hbb).trans g2, g3, fun j v hj => let ⟨h6, x, h7, h8⟩ := g4 j v hj; ⟨h6, x, h7, h8.mono he⟩, ?_, g5.2⟩
      rintro o (h | ⟨rfl, _⟩)
      · exact g5.1 o h
      · exact hbb rfl
  · intro i et' n' b' c' h h'
    rcases set_cases h with ⟨rfl, h, _⟩ | ⟨hne, h⟩
    · injection h with h1 h2; subst h1; subst h2
      rw [hid] at h'; injection h' with h'; injection h' with h'; injection h' with h1 h2; subst h1; subst h2
      refine ⟨arr', T, fs, hnew, hfs, hc, by rw [hs]; exact hl, ?_, hSb'.2⟩
      rintro o (h | ⟨_, h⟩)
      · exact Nat.lt_of_lt_of_le (hSb o h) (Nat.mul_le_mul_right _ h0)
      · exact h
    · obtain ⟨arr0, T0, fs0, g1, g2, g3, g4, g5⟩ := hr.vec i et' n' b' c' h h'
      have hbb : b' ≠ b := by rintro rfl; exact hne (hr.inj _ _ _ _ _ h' hid)
      refine ⟨arr0, T0, fs0, (hoth b' hbb).trans g1, g2, g3, g4, ?_, g5.2⟩
      rintro o (h | ⟨rfl, _⟩)
      · exact g5.1 o h
      · exact absurd rfl hbb
  · intro i r h
    rcases set_cases h with ⟨_, h, _⟩ | ⟨hne, h⟩
    · cases h
    · obtain ⟨b0, c0, o', g1, g2, g3, g4⟩ := hr.raw i r h
      have hbb : b0 ≠ b := by rintro rfl; exact hne (hr.inj _ _ _ _ _ g1 hid)
      refine ⟨b0, c0, o', g1, (hoth b0 hbb).trans g2, g3.mono he, ?_⟩
      rintro o (h | ⟨rfl, _⟩)
      · exact g4 o h
      · exact absurd rfl hbb
  · intro i h
    rcases set_cases h with ⟨_, h, _⟩ | ⟨_, h⟩
    · cases h
    · exact hr.hole i h
  · rintro b' o (h | ⟨rfl, h⟩)
    · obtain ⟨v, hv⟩ := hr.cells b' o h
      exact ⟨v, by rw [hcS b' o h]; exact hv⟩
    · exact ⟨arr'[o]'(by omega), by rw [cell_of_row _ _ o _ _ _ hnew]; exact Array.getElem?_eq_getElem (by omega)⟩
end
end Go.Den

/- Each operation that the interpreter carries out is carried out so by the model: structs and slices that are written out. -/
namespace Go.Den
open Go

section
variable {P : Program} {σ : Heap} {ρ : Gr} {S : Cells} {w : World} {fr : Fr} {a : Act} {o : Oper}

section
variable {ev : Operand → Value} {x y : Operand}
theorem run_field_agg {t : TypeId} {fs : Array Field} {f : Field} {i n : Nat} {arr : Array Value} (h : o.op = .field t x i) (ht : P.underlying t = some (.struct fs)) (hf : fs[i]? = some f) (e : ev x = .agg arr)
    (hs : sizeB P f.type = some n) (ha : isAggB P f.type = true) : (execOp ev o).run P w = .ok (.value (.agg (arr.extract f.offset (f.offset + n)))) w := by
  have h1 := run_isAgg (w := w) hs
  have h2 := run_sizeOf (w := w) hs
  simp [execOp, h, Instr.field, run_underlying ht, hf, e, asAgg, part, h1, ha, h2]
theorem run_field_one {t : TypeId} {fs : Array Field} {f : Field} {i n : Nat} {arr : Array Value} {v : Value} (h : o.op = .field t x i) (ht : P.underlying t = some (.struct fs)) (hf : fs[i]? = some f) (e : ev x = .agg arr)
    (hs : sizeB P f.type = some n) (ha : isAggB P f.type = false) (hv : arr[f.offset]? = some v) : (execOp ev o).run P w = .ok (.value v) w := by
  have h1 := run_isAgg (w := w) hs
  simp [execOp, h, Instr.field, run_underlying ht, hf, e, asAgg, part, h1, ha, hv]
end

theorem op_field_agg (hr : Rel P σ ρ S w) (hf : FR P σ ρ S w fr a.tmps) {t : TypeId} {x : Operand} {fs : Array Field} {f : Field} {i n : Nat} {cs : List AV} (h : o.op = .field t x i) (ht : P.underlying t = some (.struct fs)) (hfi : fs[i]? = some f)
    (hx : evalO fr x = some (.agg cs)) (hs : sizeB P f.type = some n) (ha : isAggB P f.type = true) (hl : f.offset + n ≤ cs.length) : OpOk P σ ρ S w a o (.agg ((cs.drop f.offset).take n)) σ := by
  obtain ⟨arr, h1, h2, h3⟩ : ∃ arr : Array Value, a.eval x = .agg arr ∧ arr.size = cs.length ∧ ∀ (j : Nat) (v : AV), cs[j]? = some v → v.one = true ∧ ∃ x, arr[j]? = some x ∧ VA1 P σ ρ S w v x := evalO_ok hf hx
  refine OpOk.pure hr (run_field_agg h ht hfi h1 hs ha) ⟨_, rfl, by simp; omega, fun j v hj => ?_⟩
  rw [List.getElem?_take] at hj
  split at hj
  · rename_i hjn
    rw [List.getElem?_drop] at hj
    obtain ⟨h4, y, h5, h6⟩ := h3 _ v hj
    refine ⟨h4, y, ?_, h6⟩
    rw [Array.getElem?_extract]
    rw [if_pos (by omega)]
    exact h5
  · cases hj

theorem op_field_one (hr : Rel P σ ρ S w) (hf : FR P σ ρ S w fr a.tmps) {t : TypeId} {x : Operand} {fs : Array Field} {f : Field} {i n : Nat} {cs : List AV} {v : AV} (h : o.op = .field t x i) (ht : P.underlying t = some (.struct fs)) (hfi : fs[i]? = some f)
    (hx : evalO fr x = some (.agg cs)) (hs : sizeB P f.type = some n) (ha : isAggB P f.type = false) (hv : cs[f.offset]? = some v) : OpOk P σ ρ S w a o v σ := by
  obtain ⟨arr, h1, h2, h3⟩ : ∃ arr : Array Value, a.eval x = .agg arr ∧ arr.size = cs.length ∧ ∀ (j : Nat) (v : AV), cs[j]? = some v → v.one = true ∧ ∃ x, arr[j]? = some x ∧ VA1 P σ ρ S w v x := evalO_ok hf hx
  obtain ⟨h4, y, h5, h6⟩ := h3 _ v hv
  exact OpOk.pure hr (run_field_one h ht hfi h1 hs ha h5) h6.to3

/-- Cells side by side. -/
def Side (P : Program) (σ : Heap) (ρ : Gr) (S : Cells) (w : World) (cs : List AV) (arr : Array Value) : Prop :=
  arr.size = cs.length ∧ ∀ (j : Nat) (v : AV), cs[j]? = some v → v.one = true ∧ ∃ x, arr[j]? = some x ∧ VA1 P σ ρ S w v x

theorem foldl_set (off : Nat) : ∀ (l : List Value) (s : Nat) (arr : Array Value),
    ((l.zipIdx s).foldl (fun (cs : Array Value) (p : Value × Nat) => cs.setIfInBounds (off + p.2) p.1) arr).size = arr.size ∧
    ∀ k, k < arr.size → ((l.zipIdx s).foldl (fun (cs : Array Value) (p : Value × Nat) => cs.setIfInBounds (off + p.2) p.1) arr)[k]? =
      if off + s ≤ k ∧ k < off + s + l.length then l[k - (off + s)]? else arr[k]? := by
  intro l
  induction l with
  | nil => intro s arr; simp; intro k _ h1 h2; omega
  | cons v l ih =>
    intro s arr
    obtain ⟨h1, h2⟩ := ih (s + 1) (arr.setIfInBounds (off + s) v)
    refine ⟨by simpa [List.zipIdx_cons] using h1, fun k hk => ?_⟩
    simp only [List.zipIdx_cons, List.foldl_cons]
    rw [h2 k (by simpa using hk)]
    by_cases hk0 : k = off + s
    · subst hk0
      rw [if_neg (by omega), if_pos (by simp)]
      simp [hk]
    · by_cases hk1 : off + (s + 1) ≤ k ∧ k < off + (s + 1) + l.length
      · rw [if_pos hk1, if_pos (by simp; omega)]
        have : k - (off + s) = (k - (off + (s + 1))) + 1 := by omega
        rw [this]; rfl
      · rw [if_neg hk1, if_neg (by simp; omega)]
        rw [Array.getElem?_setIfInBounds_ne (fun e => hk0 e.symm)]

theorem fill_ok {place : Nat → Option (Nat × Nat)} : ∀ {ps : List (Nat × AV)} {qs : List (Nat × Value)} {cs cs' : List AV} {arr : Array Value}, Side P σ ρ S w cs arr → qs.length = ps.length →
    (∀ (j : Nat) (p : Nat × AV), ps[j]? = some p → ∃ q, qs[j]? = some q ∧ q.1 = p.1 ∧ VA3 P σ ρ S w p.2 q.2) → fillA place cs ps = some cs' →
    ∃ arr', Instr.fill place arr qs = some arr' ∧ Side P σ ρ S w cs' arr' := by
  intro ps
  induction ps with
  | nil =>
    intro qs cs cs' arr hs hl _ h
    cases qs with
    | nil => injection h with h; subst h; exact ⟨arr, rfl, hs⟩
    | cons _ _ => simp at hl
  | cons p ps ih =>
    intro qs cs cs' arr hs hl hp h
    cases qs with
    | nil => simp at hl
    | cons q qs =>
      obtain ⟨i, v⟩ := p
      obtain ⟨q', hq', hq1, hv⟩ := hp 0 _ rfl
      injection hq' with hq'; subst hq'
      obtain ⟨i', cv⟩ := q
      simp only at hq1 hv
      subst hq1
      unfold fillA at h
      unfold Instr.fill
      cases hpl : place i' with
      | none => rw [hpl] at h; cases h
      | some os =>
        obtain ⟨off, size⟩ := os
        rw [hpl] at h
        simp only at h ⊢
        split at h
        · cases h
        · rename_i hc
          simp only [ne_eq, decide_not, Bool.or_eq_true, Bool.not_eq_true', decide_eq_false_iff_not, decide_eq_true_eq, not_or, Classical.not_not, Bool.not_eq_false] at hc
          obtain ⟨⟨c1, c2⟩, c3⟩ := hc
          obtain ⟨d1, d2⟩ := cells_ok hv c3
          have e1 : cv.cells.size = size := by rw [d1]; exact c1
          have e2 : ¬ (off + cv.cells.size > arr.size) := by rw [d1, hs.1]; exact c2
          rw [if_neg (by simp [e1]; rw [hs.1]; omega)]
          have hf := foldl_set off cv.cells.toList 0 arr
          have hfold : (cv.cells.zipIdx.foldl (fun cs (c, j) => cs.setIfInBounds (off + j) c) arr) = ((cv.cells.toList.zipIdx 0).foldl (fun (cs : Array Value) (p : Value × Nat) => cs.setIfInBounds (off + p.2) p.1) arr) := by
            rw [← Array.foldl_toList]; simp
          rw [hfold]
          refine ih (cs := splice cs off v.cells) ?_ (by simpa using hl) (fun j p hj => hp (j + 1) p (by simpa using hj)) h
          have hal := hs.1
          refine ⟨by rw [hf.1, hs.1]; simp [splice]; omega, fun j u hj => ?_⟩
          have hjl : j < arr.size := by
            have := (List.getElem?_eq_some_iff.1 hj).1
            simp [splice] at this
            omega
          rw [hf.2 j hjl]
          unfold splice at hj
          rcases Nat.lt_or_ge j off with k1 | k1
          · rw [List.append_assoc, List.getElem?_append_left (by simp; omega), List.getElem?_take, if_pos k1] at hj
            rw [if_neg (by omega)]
            exact hs.2 j u hj
          · rcases Nat.lt_or_ge j (off + v.cells.length) with k2 | k2
            · rw [List.append_assoc, List.getElem?_append_right (by simp; omega), List.getElem?_append_left (by simp; omega)] at hj
              have e3 : (List.take off cs).length = off := by simp; omega
              rw [e3] at hj
              rw [if_pos (by simp; omega)]
              obtain ⟨h5, x, h6, h7⟩ := d2 _ u hj
              exact ⟨h5, x, by simpa using h6, h7⟩
            · rw [List.getElem?_append_right (by simp; omega)] at hj
              have e3 : (List.take off cs ++ v.cells).length = off + v.cells.length := by simp; omega
              rw [e3, List.getElem?_drop] at hj
              rw [if_neg (by simp; omega)]
              have e4 : off + v.cells.length + (j - (off + v.cells.length)) = j := by omega
              rw [e4] at hj
              exact hs.2 j u hj

theorem run_build_op {ev : Operand → Value} {t : TypeId} {parts : Array (Nat × Operand)} {cells : Array Value} (h : o.op = .build t parts) (hb : P.built t (parts.toList.map fun p => (p.1, ev p.2)) = some cells) :
    (execOp ev o).run P w = .ok (.value (.agg cells)) w := by
  have h1 := run_build (P := P) w t (parts.map fun (i, x) => (i, ev x)) cells (by simpa using hb)
  simp [execOp, h, h1]

theorem parts_ok (hf : FR P σ ρ S w fr a.tmps) {ty : Nat → Option TypeId} {parts : Array (Nat × Operand)} {ps : List (Nat × AV)}
    (h : (parts.toList.mapM fun p => partOf P fr (ty p.1) p) = some ps) :
    (parts.toList.map fun p => (p.1, a.eval p.2)).length = ps.length ∧
    ∀ (j : Nat) (p : Nat × AV), ps[j]? = some p → ∃ q, (parts.toList.map fun p => (p.1, a.eval p.2))[j]? = some q ∧ q.1 = p.1 ∧ VA3 P σ ρ S w p.2 q.2 := by
  obtain ⟨l1, l2⟩ := mapM_some_get h
  refine ⟨by simp [l1], fun j p hj => ?_⟩
  obtain ⟨⟨i, x⟩, hx, hp⟩ := mapM_some_back h j p hj
  unfold partOf at hp
  simp only at hp
  split at hp
  · obtain ⟨v, hv, hp⟩ := Option.map_eq_some_iff.1 hp
    subst hp
    exact ⟨(i, a.eval x), by rw [List.getElem?_map, hx]; rfl, rfl, evalT_ok hf hv⟩
  · cases hp

theorem zeroOf_agg {t : TypeId} {zs : List AV} (h : zeroOf P t = some (.agg zs)) : ∃ i arr, P.info? t = some i ∧ i.zero = some (.agg arr) ∧ Side P σ ρ S w zs arr := by
  obtain ⟨i, z, h1, h2, h3, _⟩ := zeroOf_ok (σ := σ) (ρ := ρ) (S := S) (w := w) h
  obtain ⟨arr, rfl, h4, h5⟩ : ∃ arr : Array Value, z = .agg arr ∧ arr.size = zs.length ∧ ∀ (j : Nat) (v : AV), zs[j]? = some v → v.one = true ∧ ∃ x, arr[j]? = some x ∧ VA1 P σ ρ S w v x := h3
  exact ⟨i, arr, h1, h2, h4, h5⟩

theorem op_build (hr : Rel P σ ρ S w) (hf : FR P σ ρ S w fr a.tmps) {t : TypeId} {parts : Array (Nat × Operand)} {fs : Array Field} {zs cs : List AV} {places : List (Nat × Nat)} {ps : List (Nat × AV)} (h : o.op = .build t parts)
    (hz : zeroOf P t = some (.agg zs)) (ht : P.underlying t = some (.struct fs)) (hpl : (fs.toList.mapM fun f => (P.info? f.type).map fun i => (f.offset, i.size)) = some places)
    (hps : (parts.toList.mapM fun p => partOf P fr ((fs[p.1]?).map (·.type)) p) = some ps)
    (hfill : fillA (fun i => places[i]?) zs ps = some cs) : OpOk P σ ρ S w a o (.agg cs) σ := by
  obtain ⟨i, arr, h1, h2, h3⟩ := zeroOf_agg (σ := σ) (ρ := ρ) (S := S) (w := w) hz
  obtain ⟨p1, p2⟩ := parts_ok hf (ty := fun i => (fs[i]?).map (·.type)) hps
  obtain ⟨arr', f1, f2⟩ := fill_ok h3 p1 p2 hfill
  refine OpOk.pure hr (run_build_op (cells := arr') h ?_) ⟨arr', rfl, f2.1, f2.2⟩
  unfold Program.built
  rw [h1, ht]
  simp only [h2, hpl]
  simpa [Value.cells] using f1

end
end Go.Den

/- Each operation that the interpreter carries out is carried out so by the model: slices that are written out, and appends. -/
namespace Go.Den
open Go

section
variable {P : Program} {σ : Heap} {ρ : Gr} {S : Cells} {w w' : World} {fr : Fr} {a : Act} {o : Oper}

theorem okRow_inv {et : TypeId} {y : E} {fs : List TypeId} (hfs : flat P depth et = some fs) (h : okRow P et y = true) :
    y.cells.length = fs.length ∧ ∀ (j : Nat) (ct : TypeId) (x : E), fs[j]? = some ct → y.cells[j]? = some x → okCell P ct x = true := by
  unfold okRow at h
  rw [hfs] at h
  simp only [Bool.and_eq_true, beq_iff_eq] at h
  refine ⟨h.1.symm, fun j ct x h1 h2 => ?_⟩
  have := List.all_eq_true.1 h.2 (ct, x) (List.mem_of_getElem? (i := j) (by rw [List.getElem?_zip_eq_some]; exact ⟨h1, h2⟩))
  exact this

/-- A row in memory as a slice's elements. -/
theorem VE_row {et : TypeId} {xs : List E} {fs : List TypeId} {b c : Nat} {arr : Array Value} {T : TypeId} (hfs : flat P depth et = some fs) (hc : xs.length ≤ c)
    (hh : w.heap[b]? = some (.cells arr T (0, 0))) (hok : ∀ (i : Nat) (y : E), xs[i]? = some y → okRow P et y = true)
    (hS : ∀ k, k < xs.length * fs.length → S b k)
    (hE : ∀ (i : Nat) (y : E) (j : Nat) (x : E), xs[i]? = some y → y.cells[j]? = some x → ∃ v, arr[i * fs.length + j]? = some v ∧ VE P w S x v) :
    VE P w S (.sl et xs) (.slice (some ⟨b, 0, none⟩) xs.length c) := by
  refine VE.sl et xs _ c fs b 0 (fun i j => arr.getD (i * fs.length + j) undef) hfs hc (fun i y hy => (okRow_inv hfs (hok i y hy)).1) (fun i y j ct x hy => (okRow_inv hfs (hok i y hy)).2 j ct x) ?_ ?_
  · intro i y j x hy hj
    obtain ⟨v, hv, _⟩ := hE i y j x hy hj
    have hjl : j < fs.length := by rw [← (okRow_inv hfs (hok i y hy)).1]; exact (List.getElem?_eq_some_iff.1 hj).1
    have hil : i < xs.length := (List.getElem?_eq_some_iff.1 hy).1
    refine ⟨rfl, hS _ ?_, ?_⟩
    · have : (i + 1) * fs.length ≤ xs.length * fs.length := Nat.mul_le_mul_right _ hil
      rw [Nat.add_mul] at this
      omega
    · rw [cell_of_row w b _ arr T (0, 0) hh]
      simp [hv]
  · intro i y j x hy hj
    obtain ⟨v, hv, hx⟩ := hE i y j x hy hj
    simp [hv, hx]

theorem chunk_get (sz : Nat) : ∀ (n : Nat) (cs : List E) (i : Nat) (y : E), (chunk sz n cs)[i]? = some y → y = .agg ((cs.drop (i * sz)).take sz)
  | 0, _, _, _, h => by simp [chunk] at h
  | n + 1, cs, 0, y, h => by simp [chunk] at h; simp [h]
  | n + 1, cs, i + 1, y, h => by
    have := chunk_get sz n (cs.drop sz) i y (by simpa [chunk] using h)
    rw [this, List.drop_drop]
    congr 3
    rw [Nat.add_mul]; omega

theorem chunk_length (sz : Nat) : ∀ (n : Nat) (cs : List E), (chunk sz n cs).length = n
  | 0, _ => rfl
  | n + 1, cs => by simp [chunk, chunk_length sz n]

/-- The elements' cells are the row's. -/
theorem elems_cell {et : TypeId} {sz n : Nat} {es : List E} (hl : es.length = n * sz) (h1 : isAggB P et = false → sz = 1) (hone : ∀ (k : Nat) (x : E), es[k]? = some x → (AV.e x).one = true)
    {i j : Nat} {y x : E} (hy : (elems P et sz n es)[i]? = some y) (hj : y.cells[j]? = some x) (hjs : j < sz) : es[i * sz + j]? = some x := by
  unfold elems at hy
  split at hy
  · have := chunk_get sz n es i y hy
    subst this
    simp only [E.cells] at hj
    rw [List.getElem?_take, if_pos hjs, List.getElem?_drop] at hj
    exact hj
  · rename_i hb
    have hs : sz = 1 := h1 (by simpa using hb)
    subst hs
    have hj0 : j = 0 := by omega
    subst hj0
    have ho := hone i y hy
    have hc : y.cells = [y] := by cases y <;> first | rfl | (simp [AV.one] at ho)
    rw [hc] at hj
    simp at hj
    subst hj
    simpa using hy

theorem elems_length {et : TypeId} {sz n : Nat} {es : List E} (hl : es.length = n * sz) (h1 : isAggB P et = false → sz = 1) : (elems P et sz n es).length = n := by
  unfold elems
  split
  · exact chunk_length sz n es
  · rename_i hb
    rw [hl, h1 (by simpa using hb)]; omega

theorem run_buildSlice {ev : Operand → Value} {t et : TypeId} {len sz : Nat} {parts : Array (Nat × Operand)} {i : TypeInfo} {z : Value} {cells : Array Value} (h : o.op = .buildSlice t len parts) (ht : P.underlying t = some (.slice et))
    (hs : sizeB P et = some sz) (hi : P.info? et = some i) (hz : i.zero = some z) (hsmall : len * sz ≤ 4096) (hne : len * sz ≠ 0)
    (hf : Instr.fill (fun i => some (i * sz, sz)) ((Array.range (len * sz)).map (z.cells[· % z.cells.size]!)) (parts.toList.map fun p => (p.1, ev p.2)) = some cells) :
    (execOp ev o).run P w = .ok (.value (.slice (some ⟨w.heap.size, 0, none⟩) len len)) (w.alloc (.cells cells et)) := by
  have h2 := run_sizeOf (w := w) hs
  have hlt : ¬ (len * sz > 2 ^ 24) := by
    have : (2 : Nat) ^ 24 = 16777216 := by decide
    omega
  simp only [execOp, h, Instr.buildSlice, Sem.run_bind, run_underlying ht, Result.andThen_ok, h2, if_neg hlt, if_neg hne, zeroValue, typeInfo, run_program, hi, hz, Sem.run_pure]
  have hf' : Instr.fill (fun i => some (i * sz, sz)) ((Array.range (len * sz)).map (z.cells[· % z.cells.size]!)) (parts.map fun (i, x) => (i, ev x)).toList = some cells := by simpa using hf
  rw [hf']
  rfl

theorem range_zero_get {sz n : Nat} {z : Array Value} (hz : z.size = sz) (h0 : sz ≠ 0) {k : Nat} (hk : k < n) : ((Array.range n).map (z[· % z.size]!))[k]? = z[k % sz]? := by
  have hlt : k % sz < z.size := by rw [hz]; exact Nat.mod_lt _ (by omega)
  rw [Array.getElem?_map, Array.getElem?_range, if_pos hk]
  simp only [Option.map_some, hz]
  rw [getElem!_pos z _ hlt, Array.getElem?_eq_getElem hlt]

theorem op_buildSlice (hr : Rel P σ ρ S w) (hf : FR P σ ρ S w fr a.tmps) {t et : TypeId} {len sz : Nat} {parts : Array (Nat × Operand)} {z : AV} {ps : List (Nat × AV)} {fs : List TypeId} {cs : List AV} {es : List E} (h : o.op = .buildSlice t len parts)
    (ht : P.underlying t = some (.slice et)) (hz : zeroOf P et = some z) (hs : sizeB P et = some sz)
    (hps : (parts.toList.mapM fun p => partOf P fr (some et) p) = some ps) (hfs : flat P depth et = some fs)
    (h0 : sz ≠ 0) (h1 : len ≠ 0) (hsmall : len * sz ≤ 4096) (hzc : z.cells.length = sz) (hfl : fs.length = sz)
    (hfill : fillA (fun i => some (i * sz, sz)) ((List.range (len * sz)).map fun k => z.cells.getD (k % sz) .undef) ps = some cs) (hes : cs.mapM AV.seal1 = some es)
    (hok : (elems P et sz len es).all (okRow P et) = true) :
    OpOk P σ ρ S w a o (.e (.sl et (elems P et sz len es))) σ ∧
    ∀ (k : Nat) (σ1 : Heap), fillAt σ k (.vec et (elems P et sz len es).length) = some σ1 → OpOk P σ ρ S w a o (.own k et (elems P et sz len es)) σ1 := by
  obtain ⟨i, zv, hi, hiz, hzv, hzall⟩ := zeroOf_ok (σ := σ) (ρ := ρ) (S := S) (w := w) hz
  obtain ⟨z1, z2⟩ := cells_ok hzv hzall
  have hside : Side P σ ρ S w ((List.range (len * sz)).map fun k => z.cells.getD (k % sz) .undef) ((Array.range (len * sz)).map (zv.cells[· % zv.cells.size]!)) := by
    refine ⟨by simp, fun j v hj => ?_⟩
    obtain ⟨hj', rfl⟩ := map_range_get hj
    have hm : j % sz < z.cells.length := by rw [hzc]; exact Nat.mod_lt _ (by omega)
    have hzg : z.cells[j % sz]? = some (z.cells.getD (j % sz) .undef) := by simp [List.getD_eq_getElem?_getD, hm]
    obtain ⟨h2, y, h3, h4⟩ := z2 _ _ hzg
    exact ⟨h2, y, by rw [range_zero_get (by rw [z1, hzc]) h0 hj']; exact h3, h4⟩
  obtain ⟨p1, p2⟩ := parts_ok hf (ty := fun _ => some et) hps
  obtain ⟨arr, f1, f2⟩ := fill_ok hside p1 p2 hfill
  have hrun := run_buildSlice (w := w) (ev := a.eval) h ht hs hi hiz hsmall (by
    intro e
    rcases Nat.mul_eq_zero.1 e with e | e
    · exact h1 e
    · exact h0 e) f1
  obtain ⟨e1, e2⟩ := mapM_some_get hes
  have hcl : cs.length = len * sz := by
    have : ∀ (ps : List (Nat × AV)) (cs cs' : List AV), fillA (fun i => some (i * sz, sz)) cs ps = some cs' → cs'.length = cs.length := by
      intro ps
      induction ps with
      | nil => intro cs cs' h; injection h with h; rw [h]
      | cons p ps ih =>
        intro cs cs' h
        obtain ⟨i, v⟩ := p
        unfold fillA at h
        simp only at h
        split at h
        · cases h
        · rename_i hc
          simp at hc
          have := ih _ _ h
          rw [this]
          simp [splice]
          omega
    rw [this _ _ _ hfill]; simp
  have hel : es.length = len * sz := by rw [e1, hcl]
  have hagg : isAggB P et = false → sz = 1 := fun hb => by rw [← hfl, flat_one hb hfs]; rfl
  have hones : ∀ (k : Nat) (x : E), es[k]? = some x → (AV.e x).one = true := by
    intro k x hk
    obtain ⟨v, hv, hx⟩ := mapM_some_back hes k x hk
    obtain ⟨ho, _⟩ := f2.2 k v hv
    cases v <;> simp [AV.seal1] at hx <;> subst hx <;> first | exact ho | rfl
  have hxl : (elems P et sz len es).length = len := elems_length hel hagg
  have hvals : ∀ {S' : Cells} {w' : World} {σ' : Heap} {ρ' : Gr}, Ext σ ρ S w σ' ρ' S' w' → ∀ (i : Nat) (y : E) (j : Nat) (x : E), (elems P et sz len es)[i]? = some y → y.cells[j]? = some x → ∃ v, arr[i * fs.length + j]? = some v ∧ VE P w' S' x v := by
    intro S' w' σ' ρ' he i y j x hy hj
    have hjl : j < sz := by
      rw [← hfl, ← (okRow_inv hfs (List.all_eq_true.1 hok y (List.mem_of_getElem? hy))).1]
      exact (List.getElem?_eq_some_iff.1 hj).1
    have hk := elems_cell hel hagg hones hy hj hjl
    obtain ⟨v, hv, hx⟩ := mapM_some_back hes _ x hk
    obtain ⟨_, u, hu, hva⟩ := f2.2 _ v hv
    exact ⟨u, by rw [hfl]; exact hu, VE.mono he.cell (seal1_ok hx hva)⟩
  have hrowok : ∀ (i : Nat) (y : E), (elems P et sz len es)[i]? = some y → okRow P et y = true := fun i y hy => List.all_eq_true.1 hok y (List.mem_of_getElem? hy)
  have hn := NewBlock.alloc w arr et
  have has : arr.size = len * fs.length := by rw [f2.1, hcl, hfl]
  constructor
  · obtain ⟨r1, x1⟩ := hr.newCells hn (m := len * fs.length) (by omega)
    refine ⟨_, _, _, _, _, hrun, .inl rfl, r1, x1, ?_⟩
    have := VE_row (w := w.alloc (.cells arr et)) (S := addRow S w.heap.size (len * fs.length)) (c := len) hfs (by omega) hn.new hrowok (fun k hk => .inr ⟨rfl, by rwa [hxl] at hk⟩) (hvals x1)
    rw [hxl] at this
    exact this
  · intro k σ1 hfill
    obtain ⟨hh, rfl⟩ := fillAt_spec hfill
    have hkl := (List.getElem?_eq_some_iff.1 hh).1
    obtain ⟨r1, x1⟩ := hr.layRow (.inr hh) hn (et := et) (n := len) (c := len) hfs (Nat.le_refl _) (by omega)
    rw [hxl]
    refine ⟨_, _, _, _, _, hrun, .inl rfl, r1, x1, ?_⟩
    have := VE_row (w := w.alloc (.cells arr et)) (S := addRow S w.heap.size (len * fs.length)) (c := len) hfs (by omega) hn.new hrowok (fun k hk => .inr ⟨rfl, by rwa [hxl] at hk⟩) (hvals x1)
    rw [hxl] at this
    refine ⟨this, .inl ⟨len, by simp [hkl], by omega, fun _ => .inr ⟨w.heap.size, len, ?_, by rw [hxl]⟩⟩⟩
    rw [List.getElem?_set, if_pos rfl, if_pos (by rw [hr.len]; exact hkl)]
end
end Go.Den

/- Appends are carried out by the model as the interpreter says. -/
namespace Go.Den
open Go

section
variable {P : Program} {σ : Heap} {ρ : Gr} {S : Cells} {w w' : World} {fr : Fr} {a : Act} {o : Oper}

theorem okRow_mk {et : TypeId} {y : E} {fs : List TypeId} (hfs : flat P depth et = some fs) (hl : y.cells.length = fs.length)
    (hok : ∀ (j : Nat) (ct : TypeId) (x : E), fs[j]? = some ct → y.cells[j]? = some x → okCell P ct x = true) : okRow P et y = true := by
  unfold okRow
  rw [hfs]
  simp only [Bool.and_eq_true, beq_iff_eq]
  refine ⟨hl.symm, List.all_eq_true.2 fun p hp => ?_⟩
  obtain ⟨j, hj⟩ := List.getElem?_of_mem hp
  obtain ⟨ct, x⟩ := p
  rw [List.getElem?_zip_eq_some] at hj
  exact hok j ct x hj.1 hj.2

theorem VE_sl_rows {et : TypeId} {xs : List E} {cv : Value} (h : VE P w S (.sl et xs) cv) : ∀ (i : Nat) (y : E), xs[i]? = some y → okRow P et y = true := by
  obtain ⟨A, c, fs, b, o, f, e, hfs, hc, hlen, hok, _⟩ := VE_sl_inv h
  exact fun i y hy => okRow_mk hfs (hlen i y hy) (fun j ct x => hok i y j ct x hy)

/-- Values that read as the elements of a slice, laid one behind the other. -/
def Laid (P : Program) (S : Cells) (w : World) (sz : Nat) (ys : List E) (news : List Value) : Prop :=
  news.length = ys.length * sz ∧ ∀ (i : Nat) (y : E) (j : Nat) (x : E), ys[i]? = some y → y.cells[j]? = some x → ∃ v, news[i * sz + j]? = some v ∧ VE P w S x v

theorem E_one {et : TypeId} {y : E} {fs : List TypeId} (hfs : flat P depth et = some fs) (hy : okRow P et y = true) {j : Nat} {x : E} (hx : y.cells[j]? = some x) : (AV.e x).one = true := by
  obtain ⟨h1, h2⟩ := okRow_inv hfs hy
  have hj : j < fs.length := by rw [← h1]; exact (List.getElem?_eq_some_iff.1 hx).1
  exact okCell_one (h2 j _ x (List.getElem?_eq_getElem hj) hx)

theorem VE_oneCell {x : E} {v : Value} (h1 : (AV.e x).one = true) (h : VE P w S x v) : v.oneCell' = true := by
  cases h <;> first | rfl | (simp [AV.one] at h1)

/-- The elements of a slice in memory. -/
theorem VE_laid {et : TypeId} {xs : List E} {A : Option Addr} {n c : Nat} {fs : List TypeId} (hfs : flat P depth et = some fs) (h0 : fs.length ≠ 0) (h : VE P w S (.sl et xs) (.slice A n c)) :
    ∃ news, Laid P S w fs.length xs news ∧ (∀ u ∈ news, u.oneCell' = true) ∧ (xs ≠ [] → ∃ ad, A = some ad ∧ ∀ (j : Nat) (u : Value), news[j]? = some u → w.cell? (ad.add j) = some u) := by
  have hrows := VE_sl_rows h
  obtain ⟨A', c', fs', b, o', f, e, hfs', hc, hlen, hok, hA, hE⟩ := VE_sl_inv h
  injection e with e1 e2 e3
  subst e1
  rw [hfs] at hfs'; injection hfs' with hfs'; subst hfs'
  have key : ∀ k, k < xs.length * fs.length → ∃ (y : E) (x : E), xs[k / fs.length]? = some y ∧ y.cells[k % fs.length]? = some x ∧ k / fs.length * fs.length + k % fs.length = k := by
    intro k hk
    have h1 : k / fs.length < xs.length := Nat.div_lt_of_lt_mul (by rw [Nat.mul_comm]; exact hk)
    have h2 : k % fs.length < fs.length := Nat.mod_lt _ (by omega)
    have hy := List.getElem?_eq_getElem h1
    have hl := hlen _ _ hy
    exact ⟨_, _, hy, List.getElem?_eq_getElem (by rw [hl]; exact h2), Nat.div_add_mod' k fs.length⟩
  refine ⟨(List.range (xs.length * fs.length)).map fun k => f (k / fs.length) (k % fs.length), ⟨by simp, fun i y j x hy hj => ?_⟩, ?_, ?_⟩
  · have hi : i < xs.length := (List.getElem?_eq_some_iff.1 hy).1
    have hjl : j < fs.length := by rw [← hlen i y hy]; exact (List.getElem?_eq_some_iff.1 hj).1
    have hlt : i * fs.length + j < xs.length * fs.length := by
      have : (i + 1) * fs.length ≤ xs.length * fs.length := Nat.mul_le_mul_right _ hi
      rw [Nat.add_mul] at this
      omega
    refine ⟨_, map_range_put _ hlt, ?_⟩
    have d1 : (i * fs.length + j) / fs.length = i := by
      rw [Nat.mul_comm, Nat.mul_add_div (by omega), Nat.div_eq_of_lt hjl, Nat.add_zero]
    have d2 : (i * fs.length + j) % fs.length = j := by
      rw [Nat.mul_comm, Nat.mul_add_mod, Nat.mod_eq_of_lt hjl]
    rw [d1, d2]
    exact hE i y j x hy hj
  · intro u hu
    obtain ⟨k, hk⟩ := List.getElem?_of_mem hu
    obtain ⟨hk', rfl⟩ := map_range_get hk
    obtain ⟨y, x, h1, h2, _⟩ := key k hk'
    exact VE_oneCell (E_one hfs (hrows _ _ h1) h2) (hE _ _ _ _ h1 h2)
  · intro hne
    have hpos : 0 < xs.length * fs.length := Nat.mul_pos (List.length_pos_iff.2 hne) (by omega)
    obtain ⟨y0, x0, h1, h2, _⟩ := key 0 hpos
    obtain ⟨rfl, _⟩ := hA _ _ _ _ h1 h2
    refine ⟨_, rfl, fun j u hj => ?_⟩
    obtain ⟨hj', rfl⟩ := map_range_get hj
    obtain ⟨y, x, h3, h4, h5⟩ := key j hj'
    obtain ⟨_, _, h6⟩ := hA _ _ _ _ h3 h4
    rw [add_at, ← h6]
    congr 2
    omega

theorem src_slice {et t : TypeId} {ys : List E} {cv : Value} {fs : List TypeId} (hfs : flat P depth et = some fs) (h0 : fs.length ≠ 0) (ht : P.underlying t = some (.slice et)) (h : VE P w S (.sl et ys) cv) :
    ∃ news, Src P fs.length t cv ys.length news w ∧ Laid P S w fs.length ys news := by
  obtain ⟨A, c, _, _, _, _, rfl, _⟩ := VE_sl_inv h
  obtain ⟨news, h1, h2, h3⟩ := VE_laid hfs h0 h
  refine ⟨news, ?_, h1⟩
  by_cases hne : ys = []
  · subst hne
    have : news = [] := List.eq_nil_of_length_eq_zero (by rw [h1.1]; simp)
    subst this
    cases A with
    | none => exact Src.ofNil w ht c
    | some ad => exact Src.ofSlice w ht ad 0 c [] (by simp) (by simp) (by simp)
  · obtain ⟨ad, rfl, h4⟩ := h3 hne
    exact Src.ofSlice w ht ad ys.length c news h1.1 h4 h2

theorem src_string {t : TypeId} {s : List UInt8} {cv : Value} (ht : P.underlying t = some .string) (h : VE P w S (.str s) cv) :
    ∃ news, Src P 1 t cv (s.map fun c => E.int .u8 c.toNat).length news w ∧ Laid P S w 1 (s.map fun c => E.int .u8 c.toNat) news := by
  cases h with
  | str _ b hb =>
    subst hb
    have hs := Src.ofString (P := P) w ht b
    have hl : (b.data.toList.map fun c => E.int .u8 c.toNat).length = b.size := by simp
    refine ⟨byteCells b, by rw [hl]; exact hs, by rw [byteCells_length, hl]; omega, fun i y j x hy hj => ?_⟩
    rw [List.getElem?_map] at hy
    obtain ⟨c, hc, hy⟩ := Option.map_eq_some_iff.1 hy
    subst hy
    have hj0 : j = 0 := by
      have := (List.getElem?_eq_some_iff.1 hj).1
      simp [E.cells] at this
      omega
    subst hj0
    simp [E.cells] at hj
    subst hj
    exact ⟨.int .u8 c.toNat, by simp [byteCells, hc], VE.int _ _⟩

theorem Laid.mono {σ' : Heap} {ρ' : Gr} {S' : Cells} (he : Ext σ ρ S w σ' ρ' S' w') {sz : Nat} {ys : List E} {news : List Value} (h : Laid P S w sz ys news) : Laid P S' w' sz ys news :=
  ⟨h.1, fun i y j x hy hj => let ⟨v, h1, h2⟩ := h.2 i y j x hy hj; ⟨v, h1, VE.mono he.cell h2⟩⟩

theorem Laid.append {sz : Nat} {xs ys : List E} {olds news : List Value} (h : Laid P S w sz xs olds) (k : Laid P S w sz ys news) :
    Laid P S w sz (xs ++ ys) (olds ++ news) := by
  refine ⟨by simp [h.1, k.1, Nat.add_mul], fun i y j x hy hx => ?_⟩
  rcases Nat.lt_or_ge i xs.length with hi | hi
  · rw [List.getElem?_append_left hi] at hy
    obtain ⟨v, h1, h2⟩ := h.2 i y j x hy hx
    exact ⟨v, by rw [List.getElem?_append_left (List.getElem?_eq_some_iff.1 h1).1]; exact h1, h2⟩
  · rw [List.getElem?_append_right hi] at hy
    obtain ⟨v, h1, h2⟩ := k.2 _ y j x hy hx
    refine ⟨v, ?_, h2⟩
    have e : i * sz + j = olds.length + ((i - xs.length) * sz + j) := by
      rw [h.1]
      have : i = xs.length + (i - xs.length) := by omega
      rw [this, Nat.add_mul]
      simp
      omega
    rw [e, List.getElem?_append_right (by omega)]
    simpa using h1

/-- A slice out of a row that holds its elements. -/
theorem VE_of_laid {et : TypeId} {zs : List E} {fs : List TypeId} {b c : Nat} {arr : Array Value} {T : TypeId} {all : List Value} (hfs : flat P depth et = some fs) (hc : zs.length ≤ c) (hrows : ∀ (i : Nat) (y : E), zs[i]? = some y → okRow P et y = true)
    (hh : w.heap[b]? = some (.cells arr T (0, 0))) (hS : ∀ k, k < zs.length * fs.length → S b k) (hl : Laid P S w fs.length zs all) (ha : ∀ k, k < all.length → arr[k]? = all[k]?) :
    VE P w S (.sl et zs) (.slice (some ⟨b, 0, none⟩) zs.length c) :=
  VE_row hfs hc hh hrows hS fun i y j x hy hj => by
    obtain ⟨v, h1, h2⟩ := hl.2 i y j x hy hj
    exact ⟨v, by rw [ha _ (List.getElem?_eq_some_iff.1 h1).1]; exact h1, h2⟩

theorem run_append_op {ev : Operand → Value} {x y : Operand} {ats : Array TypeId} {r : Value} (h : o.op = .call { callee := .builtin .append, args := #[x, y], argTypes := ats })
    (hr : (Builtin.append_ ats o.type #[ev x, ev y]).run P w = .ok r w') : (execOp ev o).run P w = .ok (.value r) w' := by
  simp [execOp, h, resolve, invoke, builtin, hr]

theorem run_append_room' {t tx ty e : TypeId} {i : TypeInfo} (ht : P.underlying t = some (.slice e)) (hi : P.info? e = some i) {b sLen sCap : Nat} {x : Value} {n : Nat} {news : List Value} (hs : Src P i.size tx x n news w)
    (hroom : sLen + n ≤ sCap) {cur : Array Value} {T : TypeId} (hg : w.heap[b]? = some (.cells cur T (0, 0))) (hl : sLen * i.size + news.length ≤ cur.size) :
    (Builtin.append_ #[t, tx] ty #[.slice (some ⟨b, 0, none⟩) sLen sCap, x]).run P w = .ok (.slice (some ⟨b, 0, none⟩) (sLen + n) sCap) (w.setRow b (cur.toList.take (sLen * i.size) ++ news ++ cur.toList.drop (sLen * i.size + news.length)).toArray) := by
  have hst := run_storeCells_at P b (sLen * i.size) T news 0 cur w hg (by simpa using hl) hs.one
  simp only [Nat.add_zero] at hst
  rcases hs.kind with ⟨e', hk⟩ | hk <;> simp [Builtin.append_, run_underlying ht, run_underlying hk, sizeOf, typeInfo, hi, hs.len, hroom, hs.cells, Addr.add_lit, hst]


theorem grown_arr {z : Value} {cells : List Value} {n m sz : Nat} (hz : z.cells.size = sz) (hc : cells.length = n * sz) (hn : n ≤ m) :
    (cells.toArray ++ Builtin.zeroCells z.cells (m - n)).size = m * sz ∧ ∀ k, k < cells.length → (cells.toArray ++ Builtin.zeroCells z.cells (m - n))[k]? = cells[k]? := by
  refine ⟨by rw [Array.size_append, size_zeroCells, hz, List.size_toArray, hc, ← Nat.add_mul]; congr 1; omega, fun k hk => ?_⟩
  rw [Array.getElem?_append_left (by simpa using hk)]
  simp

/-- What an append asks of its types. -/
structure AppTypes (P : Program) (et t tx : TypeId) (i : TypeInfo) (fs : List TypeId) (z : Value) : Prop where
  ht : P.underlying t = some (.slice et)
  hi : P.info? et = some i
  hz : i.zero = some z
  hzs : z.cells.size = fs.length
  hsz : i.size = fs.length
  hfs : flat P depth et = some fs
  h0 : fs.length ≠ 0
  hb : i.bytes ≠ 0

theorem fits {n m bytes : Nat} (hb : bytes ≠ 0) (h : (n + m) * bytes ≤ 140737488355328) : ((n + m : Nat) : Int) ≤ 9223372036854775807 := by
  have : n + m ≤ (n + m) * bytes := Nat.le_mul_of_pos_right _ (by omega)
  omega

theorem run_firstCells_zero (sz c : Nat) (A : Option Addr) : (Builtin.firstCells sz 0 (.slice A 0 c)).run P w = .ok #[] w := by
  cases A with
  | none => exact run_firstCells_none w sz 0 0 c
  | some ad => exact run_firstCells_some w sz 0 ad 0 c [] (by simp) (by simp)

theorem op_append_nil (hr : Rel P σ ρ S w) {et t tx : TypeId} {x y : Operand} {i : TypeInfo} {fs : List TypeId} {z : Value} {ys : List E} {news : List Value} {cx : Value} (h : o.op = .call { callee := .builtin .append, args := #[x, y], argTypes := #[t, tx] })
    (T : AppTypes P et t tx i fs z) {A : Option Addr} (hA : A = none ∨ ys ≠ []) (hx : a.eval x = .slice A 0 0) (hy : a.eval y = cx) (hs : Src P fs.length tx cx ys.length news w) (hl : Laid P S w fs.length ys news) (hrows : ∀ (i : Nat) (y : E), ys[i]? = some y → okRow P et y = true)
    (hbytes : ys.length * i.bytes ≤ 140737488355328) {k : Nat} {σ1 : Heap} (hfill : fillAt σ k (.vec et ys.length) = some σ1) : OpOk P σ ρ S w a o (.own k et ys) σ1 := by
  obtain ⟨hh, rfl⟩ := fillAt_spec hfill
  have hkl := (List.getElem?_eq_some_iff.1 hh).1
  obtain ⟨ht, hi, hz, hzs, hsz, hfs, h0, hb⟩ := T
  have hs' : Src P i.size tx cx ys.length news w := by rw [hsz]; exact hs
  by_cases hm : ys.length = 0
  · have hys : ys = [] := List.eq_nil_of_length_eq_zero hm
    subst hys
    have hn : news = [] := List.eq_nil_of_length_eq_zero (by rw [hl.1]; simp)
    subst hn
    obtain rfl : A = none := hA.resolve_right fun h => h rfl
    have hrun := run_append_nothing w t tx o.type et i ht hi none 0 0 (Nat.le_refl _) cx hs'
    obtain ⟨r1, e1⟩ := hr.fillVec hh et 0
    exact ⟨_, _, _, _, _, run_append_op h (by rw [hx, hy]; exact hrun), .inl rfl, r1, e1, VE.nilSlice hfs _ _, .inl ⟨0, by simp [hkl], Nat.le_refl _, fun _ => .inl ⟨hr.hole _ hh, rfl, rfl⟩⟩⟩
  · have h63 := fits (n := 0) (m := ys.length) hb (by simpa using hbytes)
    have hrun := run_append_grow_src w t tx o.type et i z ht hi hz A 0 0 [] (run_firstCells_zero i.size 0 A) cx ys.length news hs' (by omega) h63 (growslice_fits (by omega) (by simpa using hbytes))
    simp only [Nat.zero_add, List.nil_append] at hrun
    have hge := grownCap_ge w ys.length 0 et
    obtain ⟨g1, g2⟩ := grown_arr (m := grownCap w ys.length 0 et) hzs hl.1 hge
    obtain ⟨r1, e1⟩ := hr.layRow (.inr hh) (NewBlock.drew w _ et) (et := et) (n := ys.length) hfs hge (by rw [g1]; exact Nat.le_refl _)
    refine ⟨_, _, _, _, _, run_append_op h (by rw [hx, hy]; exact hrun), .inl rfl, r1, e1, ?_, .inl ⟨ys.length, by simp [hkl], Nat.le_refl _, fun _ => .inr ⟨w.heap.size, _, ?_, rfl⟩⟩⟩
    · exact VE_of_laid hfs hge hrows (NewBlock.drew w _ et).new (fun k hk => .inr ⟨rfl, hk⟩) (hl.mono e1) g2
    · rw [List.getElem?_set, if_pos rfl, if_pos (by rw [hr.len]; exact hkl)]

theorem op_append_own (hr : Rel P σ ρ S w) {et t tx : TypeId} {x y : Operand} {i : TypeInfo} {fs : List TypeId} {z : Value} {id : Nat} {xs ys : List E} {news : List Value} {cx : Value} (h : o.op = .call { callee := .builtin .append, args := #[x, y], argTypes := #[t, tx] })
    (T : AppTypes P et t tx i fs z) (hx : VA1 P σ ρ S w (.own id et xs) (a.eval x)) (hv : σ[id]? = some (.vec et xs.length)) (hy : a.eval y = cx) (hs : Src P fs.length tx cx ys.length news w) (hl : Laid P S w fs.length ys news)
    (hrows : ∀ (i : Nat) (y : E), ys[i]? = some y → okRow P et y = true) (hbytes : (xs.length + ys.length) * i.bytes ≤ 140737488355328) : OpOk P σ ρ S w a o (.own id et (xs ++ ys)) (σ.set id (.vec et (xs ++ ys).length)) := by
  obtain ⟨ht, hi, hz, hzs, hsz, hfs, h0, hb⟩ := T
  have hs' : Src P i.size tx cx ys.length news w := by rw [hsz]; exact hs
  obtain ⟨hve, ⟨n, hn, _, hp⟩ | hn⟩ := hx
  case inr => rw [hv] at hn; cases hn
  rw [hv] at hn; injection hn with hn; injection hn with _ hn; subst hn
  have hp := hp rfl
  have hidl : id < σ.length := (List.getElem?_eq_some_iff.1 hv).1
  have hxrows := VE_sl_rows hve
  have hallrows : ∀ (i : Nat) (y : E), (xs ++ ys)[i]? = some y → okRow P et y = true := by
    intro i y hy
    rcases Nat.lt_or_ge i xs.length with hi | hi
    · rw [List.getElem?_append_left hi] at hy; exact hxrows i y hy
    · rw [List.getElem?_append_right hi] at hy; exact hrows _ y hy
  by_cases hm : ys.length = 0
  · have hys : ys = [] := List.eq_nil_of_length_eq_zero hm
    subst hys
    have hn : news = [] := List.eq_nil_of_length_eq_zero (by rw [hl.1]; simp)
    subst hn
    have hset : σ.set id (.vec et (xs ++ []).length) = σ := by
      rw [List.append_nil]
      exact List.ext_getElem? fun k => by
        rw [List.getElem?_set]
        split
        · rename_i e; subst e; exact hv.symm
        · rfl
    rw [hset, List.append_nil]
    obtain ⟨A, c, _, _, _, _, e, _, hc, _⟩ := VE_sl_inv hve
    have hrun := run_append_nothing w t tx o.type et i ht hi A xs.length c hc cx hs'
    exact OpOk.pure hr (run_append_op h (by rw [e, hy]; exact hrun)) (by rw [← e]; exact ⟨hve, .inl ⟨xs.length, hv, Nat.le_refl _, fun _ => hp⟩⟩)
  · have h63 := fits hb hbytes
    rcases hp with ⟨p1, p2, p3⟩ | ⟨b, c, p1, p2⟩
    · -- it lies nowhere yet
      have hxs : xs = [] := List.eq_nil_of_length_eq_zero p3
      subst hxs
      have hrun := run_append_grow_src w t tx o.type et i z ht hi hz none 0 0 [] (run_firstCells_zero i.size 0 none) cx ys.length news hs' (by omega) (by simpa using h63) (growslice_fits (by omega) (by simpa using hbytes))
      simp only [Nat.zero_add, List.nil_append] at hrun ⊢
      have hge := grownCap_ge w ys.length 0 et
      obtain ⟨g1, g2⟩ := grown_arr (m := grownCap w ys.length 0 et) hzs hl.1 hge
      obtain ⟨r1, e1⟩ := hr.layRow (.inl ⟨_, hv, by simp; omega⟩) (NewBlock.drew w _ et) (n := ys.length) hfs hge (by rw [g1]; exact Nat.le_refl _)
      refine ⟨_, _, _, _, _, run_append_op h (by rw [p2, hy]; exact hrun), .inl rfl, r1, e1, ?_, .inl ⟨ys.length, by simp [hidl], Nat.le_refl _, fun _ => .inr ⟨w.heap.size, _, ?_, rfl⟩⟩⟩
      · exact VE_of_laid hfs hge hrows (NewBlock.drew w _ et).new (fun k hk => .inr ⟨rfl, hk⟩) (hl.mono e1) g2
      · rw [List.getElem?_set, if_pos rfl, if_pos (by rw [hr.len]; exact hidl)]
    · obtain ⟨arr, T, fs', v1, v2, v3, v4, v5⟩ := hr.vec id et xs.length b c hv p1
      rw [hfs] at v2; injection v2 with v2; subst v2
      rw [p2] at hve
      obtain ⟨olds, o1, o2, o3⟩ := VE_laid hfs h0 hve
      have holds : ∀ (j : Nat) (u : Value), olds[j]? = some u → w.cell? ⟨b, j, none⟩ = some u := by
        intro j u hj
        have hne : xs ≠ [] := by
          rintro rfl
          have := (List.getElem?_eq_some_iff.1 hj).1
          rw [o1.1] at this
          simp at this
        obtain ⟨ad, e, h5⟩ := o3 hne
        injection e with e; subst e
        have := h5 j u hj
        rwa [add_at, Nat.zero_add] at this
      have hcat := o1.append hl
      by_cases hroom : xs.length + ys.length ≤ c
      · have hfit : xs.length * i.size + news.length ≤ arr.size := by
          rw [hl.1, hsz, ← Nat.add_mul]
          exact Nat.le_trans (Nat.mul_le_mul_right _ hroom) v4
        have hrun := run_append_room' (w := w) (ty := o.type) ht hi hs' hroom v1 hfit
        have hlen : (xs ++ ys).length = xs.length + ys.length := List.length_append
        have hal : xs.length * i.size ≤ arr.toList.length := by have hq : arr.toList.length = arr.size := Array.length_toList; omega
        have htk : (arr.toList.take (xs.length * i.size)).length = xs.length * i.size := by rw [List.length_take]; omega
        obtain ⟨r1, e1⟩ := hr.growRow hv p1 (arr' := (arr.toList.take (xs.length * i.size) ++ news ++ arr.toList.drop (xs.length * i.size + news.length)).toArray) hfs v1 (n := (xs ++ ys).length) (by omega) (by omega) v4
          (by simp; omega)
          (fun j hj => by
            rw [List.getElem?_toArray, List.append_assoc, List.getElem?_append_left (by rw [htk, hsz]; exact hj), List.getElem?_take, if_pos (by rw [hsz]; exact hj), Array.getElem?_toList])
        refine ⟨_, _, _, _, _, run_append_op h (by rw [p2, hy]; exact hrun), .inl rfl, r1, e1, ?_, .inl ⟨(xs ++ ys).length, by simp [hidl], Nat.le_refl _, fun _ => .inr ⟨b, c, p1, by rw [hlen]⟩⟩⟩
        rw [← hlen]
        refine VE_of_laid hfs (by omega) hallrows (setRow_heap w b arr _ T (0, 0) v1) (fun k hk => .inr ⟨rfl, hk⟩) (hcat.mono e1) (fun k hk => ?_)
        rw [List.getElem?_toArray]
        rw [List.length_append, o1.1] at hk
        rcases Nat.lt_or_ge k olds.length with k1 | k1
        · rw [List.getElem?_append_left k1]
          obtain ⟨u, hu⟩ : ∃ u, olds[k]? = some u := ⟨_, List.getElem?_eq_getElem k1⟩
          have hc := holds k u hu
          rw [cell_of_row w b k arr T (0, 0) v1] at hc
          rw [o1.1] at k1
          rw [List.append_assoc, List.getElem?_append_left (by rw [htk, hsz]; exact k1), List.getElem?_take, if_pos (by rw [hsz]; exact k1), Array.getElem?_toList, hc, hu]
        · rw [List.getElem?_append_right k1]
          rw [o1.1] at k1 ⊢
          rw [List.append_assoc, List.getElem?_append_right (by rw [htk, hsz]; exact k1), htk, hsz, List.getElem?_append_left (by omega)]
      · have hold : (Builtin.firstCells i.size xs.length (.slice (some ⟨b, 0, none⟩) xs.length c)).run P w.drew = .ok olds.toArray w.drew :=
          run_firstCells_some w.drew i.size xs.length ⟨b, 0, none⟩ xs.length c olds (by rw [o1.1, hsz]) (fun j u hj => by
            rw [add_at, Nat.zero_add]; exact holds j u hj)
        have hrun := run_append_grow_src w t tx o.type et i z ht hi hz (some ⟨b, 0, none⟩) xs.length c olds hold cx ys.length news hs' (by omega) h63 (growslice_fits (by omega) hbytes)
        have hge := grownCap_ge w (xs.length + ys.length) c et
        have hlen : (xs ++ ys).length = xs.length + ys.length := List.length_append
        have hc1 := hcat.1
        rw [hlen] at hc1
        obtain ⟨g1, g2⟩ := grown_arr (m := grownCap w (xs.length + ys.length) c et) hzs hc1 hge
        obtain ⟨r1, e1⟩ := hr.layRow (.inl ⟨_, hv, by omega⟩) (NewBlock.drew w _ et) (n := (xs ++ ys).length) hfs (by rw [hlen]; exact hge) (by rw [g1]; exact Nat.le_refl _)
        refine ⟨_, _, _, _, _, run_append_op h (by rw [p2, hy]; exact hrun), .inl rfl, r1, e1, ?_, .inl ⟨(xs ++ ys).length, by simp [hidl], Nat.le_refl _, fun _ => .inr ⟨w.heap.size, _, ?_, by rw [hlen]⟩⟩⟩
        · have e : Value.slice (some ⟨w.heap.size, 0, none⟩) (xs.length + ys.length) (grownCap w (xs.length + ys.length) c et) = Value.slice (some ⟨w.heap.size, 0, none⟩) (xs ++ ys).length (grownCap w (xs.length + ys.length) c et) := by rw [hlen]
          rw [e]
          exact VE_of_laid hfs (by rw [hlen]; exact hge) hallrows (NewBlock.drew w _ et).new (fun k hk => .inr ⟨rfl, hk⟩) (hcat.mono e1) g2
        · rw [List.getElem?_set, if_pos rfl, if_pos (by rw [hr.len]; exact hidl)]
end
end Go.Den

