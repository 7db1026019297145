/- Each operation that the interpreter carries out is carried out so by the model: variables in memory. -/
import Derived.Test.YtdlfldeacoiokaaDen5
namespace Go.Den
open Go

section
variable {P : Program} {σ : Heap} {ρ : Gr} {S : Cells} {w : World} {fr : Fr} {a : Act} {o : Oper}

theorem cell_lt {b o' : Nat} {v : Value} (h : w.cell? ⟨b, o', none⟩ = some v) : b < w.heap.size := World.block_lt_of_cell? w ⟨b, o', none⟩ h

theorem alloc_heap_old (ob : Obj) {k : Nat} (h : k < w.heap.size) : (w.alloc ob).heap[k]? = w.heap[k]? := heap_alloc_old w ob h
theorem cell_of_heap {w w' : World} {b o' : Nat} (h : w'.heap[b]? = w.heap[b]?) : w'.cell? ⟨b, o', none⟩ = w.cell? ⟨b, o', none⟩ := World.cell?_of_block (a := ⟨b, o', none⟩) h

theorem heap_lt {ob : Obj} {k : Nat} (h : w.heap[k]? = some ob) : k < w.heap.size := (Array.getElem?_eq_some_iff.1 h).1

theorem Rel.rho_lt (hr : Rel P σ ρ S w) {id b c : Nat} (h : ρ[id]? = some (some (b, c))) : b < w.heap.size := by
  have hi : id < σ.length := by rw [← hr.len]; exact (List.getElem?_eq_some_iff.1 h).1
  cases hs : σ[id]? with
  | none => rw [List.getElem?_eq_none_iff] at hs; omega
  | some ob =>
    cases ob with
    | box cs =>
      obtain ⟨b', c', arr, T, h1, h2, _⟩ := hr.box id cs hs
      rw [h] at h1; injection h1 with h1; injection h1 with h1; injection h1 with h1 h3
      subst h1
      exact heap_lt h2
    | vec et n =>
      obtain ⟨arr, T, fs, h2, _⟩ := hr.vec id et n b c hs h
      exact heap_lt h2

/-- A new variable. -/
theorem Rel.pushBox (hr : Rel P σ ρ S w) {cs : List AV} {arr : Array Value} (T : TypeId) (hs : arr.size = cs.length)
    (hc : ∀ (j : Nat) (v : AV), cs[j]? = some v → v.one = true ∧ ∃ x, arr[j]? = some x ∧ VA1 P σ ρ S w v x) :
    Rel P (σ ++ [.box cs]) (ρ ++ [some (w.heap.size, 0)]) S (w.alloc (.cells arr T)) ∧ Ext σ ρ S w (σ ++ [.box cs]) (ρ ++ [some (w.heap.size, 0)]) S (w.alloc (.cells arr T)) := by
  have hold : ∀ b, b < w.heap.size → (w.alloc (.cells arr T)).heap[b]? = w.heap[b]? := fun b hb => alloc_heap_old _ hb
  have he : Ext σ ρ S w (σ ++ [.box cs]) (ρ ++ [some (w.heap.size, 0)]) S (w.alloc (.cells arr T)) := by
    refine ⟨fun b o' h => ⟨h, ?_⟩, fun id cs h => ⟨⟨cs, getElem?_snoc_lt h⟩, ?_⟩, fun id t m h => ⟨m, Nat.le_refl _, getElem?_snoc_lt h, fun _ => ?_⟩, fun b hb _ => hold b hb, ?_, fun _ _ h => .inl h, by simp, rfl, rfl, rfl⟩
    · obtain ⟨v, hv⟩ := hr.cells b o' h
      exact cell_of_heap (hold b (cell_lt hv))
    · rw [List.getElem?_append_left (by rw [hr.len]; exact (List.getElem?_eq_some_iff.1 h).1)]
    · rw [List.getElem?_append_left (by rw [hr.len]; exact (List.getElem?_eq_some_iff.1 h).1)]
    · intro id b c h
      rcases getElem?_snoc h with h | ⟨_, h⟩
      · exact .inr ⟨id, c, h⟩
      · injection h with h; injection h with h1 h2; exact .inl (by omega)
  refine ⟨⟨by simp [hr.len], ?_, ?_, ?_, ?_⟩, he⟩
  · intro id cs' h
    rcases getElem?_snoc h with h | ⟨h0, h⟩
    · obtain ⟨b, c, arr', T', h1, h2, h3, h4, h5⟩ := hr.box id cs' h
      exact ⟨b, c, arr', T', getElem?_snoc_lt h1, (hold b (heap_lt h2)).trans h2, h3, fun j v hj => let ⟨h6, x, h7, h8⟩ := h4 j v hj; ⟨h6, x, h7, h8.mono he⟩, h5⟩
    · injection h with h; subst h
      refine ⟨w.heap.size, 0, arr, T, ?_, heap_alloc_new w _, hs, fun j v hj => let ⟨h6, x, h7, h8⟩ := hc j v hj; ⟨h6, x, h7, h8.mono he⟩, fun o' hS => ?_⟩
      · rw [h0, ← hr.len]; simp
      · obtain ⟨v, hv⟩ := hr.cells _ _ hS
        have := cell_lt hv
        omega
  · intro id et n b c h h'
    rcases getElem?_snoc h with h | ⟨_, h⟩
    · rcases getElem?_snoc h' with h' | ⟨h0, _⟩
      · obtain ⟨arr', T', fs, h1, h2⟩ := hr.vec id et n b c h h'
        exact ⟨arr', T', fs, (hold b (heap_lt h1)).trans h1, h2⟩
      · have := (List.getElem?_eq_some_iff.1 h).1
        rw [← hr.len] at this
        omega
    · cases h
  · intro i j b c c' h h'
    rcases getElem?_snoc h with h | ⟨h0, h⟩ <;> rcases getElem?_snoc h' with h' | ⟨h0', h'⟩
    · exact hr.inj i j b c c' h h'
    · injection h' with h'; injection h' with h1 h2
      have := hr.rho_lt h
      omega
    · injection h with h; injection h with h1 h2
      have := hr.rho_lt h'
      omega
    · omega
  · intro b o' h
    obtain ⟨v, hv⟩ := hr.cells b o' h
    exact ⟨v, by rw [cell_of_heap (hold b (cell_lt hv))]; exact hv⟩

theorem VA3_one {v : AV} {cv : Value} (h1 : v.one = true) (hv : VA3 P σ ρ S w v cv) : VA1 P σ ρ S w v cv := by
  cases v <;> first | exact hv | (simp [AV.one] at h1)

/-- Nil slices that are laid in variables. -/
theorem promoteL_ok : ∀ (cs : List AV) {σ : Heap} {ρ : Gr}, Rel P σ ρ S w → ∀ {arr : List Value}, arr.length = cs.length →
    (∀ (j : Nat) (v : AV), cs[j]? = some v → v.one = true ∧ ∃ x, arr[j]? = some x ∧ VA1 P σ ρ S w v x) →
    (promoteL cs σ).1.length = cs.length ∧ ∃ ρ', Rel P (promoteL cs σ).2 ρ' S w ∧ Ext σ ρ S w (promoteL cs σ).2 ρ' S w ∧
      (∀ (j : Nat) (v : AV), (promoteL cs σ).1[j]? = some v → v.one = true ∧ ∃ x, arr[j]? = some x ∧ VA1 P (promoteL cs σ).2 ρ' S w v x) := by
  intro cs
  induction cs with
  | nil => intro σ ρ hr arr hl hc; exact ⟨rfl, ρ, hr, Ext.refl _ _ _ _, by simp [promoteL]⟩
  | cons v cs ih =>
    intro σ ρ hr arr hl hc
    cases arr with
    | nil => simp at hl
    | cons cv arr =>
      obtain ⟨h1, x, hx, hv⟩ := hc 0 v rfl
      injection hx with hx; subst hx
      obtain ⟨ρ1, r1, e1, v1⟩ := promote1_ok hr hv.to3
      have v0 : (promote1 v σ).1.one = true := by
        unfold promote1
        split
        · rfl
        · exact h1
      have v1' : (promote1 v σ).1.one = true ∧ VA1 P (promote1 v σ).2 ρ1 S w (promote1 v σ).1 cv := ⟨v0, VA3_one v0 v1⟩
      obtain ⟨l2, ρ2, r2, e2, c2⟩ := ih r1 (arr := arr) (by simpa using hl) (fun j u hj => by
        obtain ⟨h3, y, hy, h4⟩ := hc (j + 1) u (by simpa using hj)
        exact ⟨h3, y, by simpa using hy, h4.mono e1⟩)
      refine ⟨by simp [promoteL, l2], ρ2, r2, e1.trans e2, fun j u hj => ?_⟩
      cases j with
      | zero =>
        simp [promoteL] at hj
        subst hj
        exact ⟨v1'.1, cv, rfl, v1'.2.mono e2⟩
      | succ j =>
        have hj' : (promoteL cs (promote1 v σ).2).1[j]? = some u := by simpa [promoteL] using hj
        obtain ⟨h5, y, hy, h6⟩ := c2 j u hj'
        exact ⟨h5, y, by simpa using hy, h6⟩

/-- The cells of a value. -/
theorem cells_ok {v : AV} {cv : Value} (hv : VA3 P σ ρ S w v cv) (h1 : v.cells.all AV.one = true) :
    cv.cells.size = v.cells.length ∧ ∀ (j : Nat) (u : AV), v.cells[j]? = some u → u.one = true ∧ ∃ x, cv.cells[j]? = some x ∧ VA1 P σ ρ S w u x := by
  by_cases hh : ∃ cs, v = .agg cs
  · obtain ⟨cs, rfl⟩ := hh
    obtain ⟨arr, e, h2, h3⟩ : ∃ arr : Array Value, cv = .agg arr ∧ arr.size = cs.length ∧ ∀ (j : Nat) (v : AV), cs[j]? = some v → v.one = true ∧ ∃ x, arr[j]? = some x ∧ VA1 P σ ρ S w v x := hv
    subst e
    exact ⟨h2, h3⟩
  · have hc : v.cells = [v] := by cases v <;> first | rfl | exact absurd ⟨_, rfl⟩ hh
    rw [hc] at h1 ⊢
    have h1' : v.one = true := by simpa using h1
    have hv1 : VA1 P σ ρ S w v cv := by
      cases v <;> first | exact hv | (simp [AV.one] at h1')
    have hcv : cv.cells = #[cv] := by
      cases v with
      | e x =>
        have hx : VE P w S x cv := hv
        cases hx <;> first | rfl | (simp [AV.one] at h1')
      | nils t => obtain ⟨h, _⟩ := hv1; subst h; rfl
      | own id et xs => obtain ⟨A, c, fs, b, o', f, h, _⟩ := VE_sl_inv hv1.1; subst h; rfl
      | ptr id off => obtain ⟨b, c, _, _, h⟩ := hv1; subst h; rfl
      | nilp => have h : cv = .pointer none := hv1; subst h; rfl
      | pin et y off => obtain ⟨b, o', fs, f, h, _⟩ := hv1; subst h; rfl
      | fn f => have h : cv = .func (.func f) #[] #[] := hv1; subst h; rfl
      | _ => simp [AV.one] at h1'
    rw [hcv]
    refine ⟨rfl, fun j u hj => ?_⟩
    cases j with
    | zero => simp at hj; subst hj; exact ⟨h1', cv, rfl, hv1⟩
    | succ j => simp at hj

section
variable {ev : Operand → Value} {x : Operand}
theorem run_box {t : TypeId} (h : o.op = .box t x) : (execOp ev o).run P w = .ok (.value (.pointer (some ⟨w.heap.size, 0, none⟩))) (w.alloc (.cells (ev x).cells t)) := by
  simp [execOp, h, go_sem, Instr.box, newVar, newRow]
theorem run_alloc {t : TypeId} {i : TypeInfo} {z : Value} (h : o.op = .alloc t) (hi : P.info? t = some i) (hz : i.zero = some z) : (execOp ev o).run P w = .ok (.value (.pointer (some ⟨w.heap.size, 0, none⟩))) (w.alloc (.cells z.cells t)) := by
  simp [execOp, h, go_sem, Instr.alloc, newVar, newRow, zeroValue, typeInfo, hi, hz]
end

theorem op_box_of (hr : Rel P σ ρ S w) {v : AV} {cv : Value} (hv : VA3 P σ ρ S w v cv) (h1 : v.cells.all AV.one = true) (t : TypeId)
    (hrun : (execOp a.eval o).run P w = .ok (.value (.pointer (some ⟨w.heap.size, 0, none⟩))) (w.alloc (.cells cv.cells t))) :
    OpOk P σ ρ S w a o (.ptr (promoteL v.cells σ).2.length 0) ((promoteL v.cells σ).2 ++ [.box (promoteL v.cells σ).1]) := by
  obtain ⟨c1, c2⟩ := cells_ok hv h1
  obtain ⟨l, ρ1, r1, e1, c3⟩ := promoteL_ok v.cells hr (arr := cv.cells.toList) (by simpa using c1) (fun j u hj => by
    obtain ⟨h3, y, hy, h4⟩ := c2 j u hj
    exact ⟨h3, y, by simpa using hy, h4⟩)
  obtain ⟨r2, e2⟩ := r1.pushBox (cs := (promoteL v.cells σ).1) (arr := cv.cells) t (by rw [l]; exact c1) (fun j u hj => by
    obtain ⟨h3, y, hy, h4⟩ := c3 j u hj
    exact ⟨h3, y, by simpa using hy, h4⟩)
  refine ⟨_, _, _, _, _, hrun, .inl rfl, r2, e1.trans e2, ?_⟩
  refine ⟨w.heap.size, 0, ?_, ⟨_, List.getElem?_concat_length⟩, rfl⟩
  rw [← r1.len]; simp

theorem op_box (hr : Rel P σ ρ S w) (hf : FR P σ ρ S w fr a.tmps) {t : TypeId} {x : Operand} {v : AV} (h : o.op = .box t x) (hx : evalT P t fr x = some v) (h1 : v.cells.all AV.one = true) :
    OpOk P σ ρ S w a o (.ptr (promoteL v.cells σ).2.length 0) ((promoteL v.cells σ).2 ++ [.box (promoteL v.cells σ).1]) :=
  op_box_of hr (evalT_ok hf hx) h1 t (run_box h)

end
end Go.Den
