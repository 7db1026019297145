/- Each operation that the interpreter carries out is carried out so by the model: slices that are written out, and appends. -/
import Derived.Test.YtdlfldeacoiokaaDn11
import Derived.Lib.AppendStr
namespace Go.Den
open Go

section
variable {P : Program} {σ : Heap} {ρ : Gr} {S : Cells} {w w' : World} {fr : Fr} {a : Act} {o : Oper}

theorem okRow_inv {et : TypeId} {y : E} {fs : List TypeId} (hfs : flat P depth et = some fs) (h : okRow P et y = true) :
    y.cells.length = fs.length ∧ ∀ (j : Nat) (ct : TypeId) (x : E), fs[j]? = some ct → y.cells[j]? = some x → okCell P ct x = true := by
  unfold okRow at h
  rw [hfs] at h
  simp only [Bool.and_eq_true, beq_iff_eq] at h
  refine ⟨h.1.symm, fun j ct x h1 h2 => ?_⟩
  have := List.all_eq_true.1 h.2 (ct, x) (List.mem_of_getElem? (i := j) (by rw [List.getElem?_zip_eq_some]; exact ⟨h1, h2⟩))
  exact this

/-- A row in memory as a slice's elements. -/
theorem VE_row {et : TypeId} {xs : List E} {fs : List TypeId} {b c : Nat} {arr : Array Value} {T : TypeId} (hfs : flat P depth et = some fs) (hc : xs.length ≤ c)
    (hh : w.heap[b]? = some (.cells arr T (0, 0))) (hok : ∀ (i : Nat) (y : E), xs[i]? = some y → okRow P et y = true)
    (hS : ∀ k, k < xs.length * fs.length → S b k)
    (hE : ∀ (i : Nat) (y : E) (j : Nat) (x : E), xs[i]? = some y → y.cells[j]? = some x → ∃ v, arr[i * fs.length + j]? = some v ∧ VE P w S x v) :
    VE P w S (.sl et xs) (.slice (some ⟨b, 0, none⟩) xs.length c) := by
  refine VE.sl et xs _ c fs b 0 (fun i j => arr.getD (i * fs.length + j) undef) hfs hc (fun i y hy => (okRow_inv hfs (hok i y hy)).1) (fun i y j ct x hy => (okRow_inv hfs (hok i y hy)).2 j ct x) ?_ ?_
  · intro i y j x hy hj
    obtain ⟨v, hv, _⟩ := hE i y j x hy hj
    have hjl : j < fs.length := by rw [← (okRow_inv hfs (hok i y hy)).1]; exact (List.getElem?_eq_some_iff.1 hj).1
    have hil : i < xs.length := (List.getElem?_eq_some_iff.1 hy).1
    refine ⟨rfl, hS _ ?_, ?_⟩
    · have : (i + 1) * fs.length ≤ xs.length * fs.length := Nat.mul_le_mul_right _ hil
      rw [Nat.add_mul] at this
      omega
    · rw [cell_of_row w b _ arr T (0, 0) hh]
      simp [hv]
  · intro i y j x hy hj
    obtain ⟨v, hv, hx⟩ := hE i y j x hy hj
    simp [hv, hx]

theorem chunk_get (sz : Nat) : ∀ (n : Nat) (cs : List E) (i : Nat) (y : E), (chunk sz n cs)[i]? = some y → y = .agg ((cs.drop (i * sz)).take sz)
  | 0, _, _, _, h => by simp [chunk] at h
  | n + 1, cs, 0, y, h => by simp [chunk] at h; simp [h]
  | n + 1, cs, i + 1, y, h => by
    have := chunk_get sz n (cs.drop sz) i y (by simpa [chunk] using h)
    rw [this, List.drop_drop]
    congr 3
    rw [Nat.add_mul]; omega

theorem chunk_length (sz : Nat) : ∀ (n : Nat) (cs : List E), (chunk sz n cs).length = n
  | 0, _ => rfl
  | n + 1, cs => by simp [chunk, chunk_length sz n]

/-- The elements' cells are the row's. -/
theorem elems_cell {et : TypeId} {sz n : Nat} {es : List E} (hl : es.length = n * sz) (h1 : isAggB P et = false → sz = 1) (hone : ∀ (k : Nat) (x : E), es[k]? = some x → (AV.e x).one = true)
    {i j : Nat} {y x : E} (hy : (elems P et sz n es)[i]? = some y) (hj : y.cells[j]? = some x) (hjs : j < sz) : es[i * sz + j]? = some x := by
  unfold elems at hy
  split at hy
  · have := chunk_get sz n es i y hy
    subst this
    simp only [E.cells] at hj
    rw [List.getElem?_take, if_pos hjs, List.getElem?_drop] at hj
    exact hj
  · rename_i hb
    have hs : sz = 1 := h1 (by simpa using hb)
    subst hs
    have hj0 : j = 0 := by omega
    subst hj0
    have ho := hone i y hy
    have hc : y.cells = [y] := by cases y <;> first | rfl | (simp [AV.one] at ho)
    rw [hc] at hj
    simp at hj
    subst hj
    simpa using hy

theorem elems_length {et : TypeId} {sz n : Nat} {es : List E} (hl : es.length = n * sz) (h1 : isAggB P et = false → sz = 1) : (elems P et sz n es).length = n := by
  unfold elems
  split
  · exact chunk_length sz n es
  · rename_i hb
    rw [hl, h1 (by simpa using hb)]; omega

theorem run_buildSlice {ev : Operand → Value} {t et : TypeId} {len sz : Nat} {parts : Array (Nat × Operand)} {i : TypeInfo} {z : Value} {cells : Array Value} (h : o.op = .buildSlice t len parts) (ht : P.underlying t = some (.slice et))
    (hs : sizeB P et = some sz) (hi : P.info? et = some i) (hz : i.zero = some z) (hsmall : len * sz ≤ 4096) (hne : len * sz ≠ 0)
    (hf : Instr.fill (fun i => some (i * sz, sz)) ((Array.range (len * sz)).map (z.cells[· % z.cells.size]!)) (parts.toList.map fun p => (p.1, ev p.2)) = some cells) :
    (execOp ev o).run P w = .ok (.value (.slice (some ⟨w.heap.size, 0, none⟩) len len)) (w.alloc (.cells cells et)) := by
  have h2 := run_sizeOf (w := w) hs
  have hlt : ¬ (len * sz > 2 ^ 24) := by
    have : (2 : Nat) ^ 24 = 16777216 := by decide
    omega
  simp only [execOp, h, Instr.buildSlice, Sem.run_bind, run_underlying ht, Result.andThen_ok, h2, if_neg hlt, if_neg hne, zeroValue, typeInfo, run_program, hi, hz, Sem.run_pure]
  have hf' : Instr.fill (fun i => some (i * sz, sz)) ((Array.range (len * sz)).map (z.cells[· % z.cells.size]!)) (parts.map fun (i, x) => (i, ev x)).toList = some cells := by simpa using hf
  rw [hf']
  rfl

theorem range_zero_get {sz n : Nat} {z : Array Value} (hz : z.size = sz) (h0 : sz ≠ 0) {k : Nat} (hk : k < n) : ((Array.range n).map (z[· % z.size]!))[k]? = z[k % sz]? := by
  have hlt : k % sz < z.size := by rw [hz]; exact Nat.mod_lt _ (by omega)
  rw [Array.getElem?_map, Array.getElem?_range, if_pos hk]
  simp only [Option.map_some, hz]
  rw [getElem!_pos z _ hlt, Array.getElem?_eq_getElem hlt]

theorem op_buildSlice (hr : Rel P σ ρ S w) (hf : FR P σ ρ S w fr a.tmps) {t et : TypeId} {len sz : Nat} {parts : Array (Nat × Operand)} {z : AV} {ps : List (Nat × AV)} {fs : List TypeId} {cs : List AV} {es : List E} (h : o.op = .buildSlice t len parts)
    (ht : P.underlying t = some (.slice et)) (hz : zeroOf P et = some z) (hs : sizeB P et = some sz)
    (hps : (parts.toList.mapM fun p => partOf P fr (some et) p) = some ps) (hfs : flat P depth et = some fs)
    (h0 : sz ≠ 0) (h1 : len ≠ 0) (hsmall : len * sz ≤ 4096) (hzc : z.cells.length = sz) (hfl : fs.length = sz)
    (hfill : fillA (fun i => some (i * sz, sz)) ((List.range (len * sz)).map fun k => z.cells.getD (k % sz) .undef) ps = some cs) (hes : cs.mapM AV.seal1 = some es)
    (hok : (elems P et sz len es).all (okRow P et) = true) :
    OpOk P σ ρ S w a o (.e (.sl et (elems P et sz len es))) σ ∧
    ∀ (k : Nat) (σ1 : Heap), fillAt σ k (.vec et (elems P et sz len es).length) = some σ1 → OpOk P σ ρ S w a o (.own k et (elems P et sz len es)) σ1 := by
  obtain ⟨i, zv, hi, hiz, hzv, hzall⟩ := zeroOf_ok (σ := σ) (ρ := ρ) (S := S) (w := w) hz
  obtain ⟨z1, z2⟩ := cells_ok hzv hzall
  have hside : Side P σ ρ S w ((List.range (len * sz)).map fun k => z.cells.getD (k % sz) .undef) ((Array.range (len * sz)).map (zv.cells[· % zv.cells.size]!)) := by
    refine ⟨by simp, fun j v hj => ?_⟩
    obtain ⟨hj', rfl⟩ := map_range_get hj
    have hm : j % sz < z.cells.length := by rw [hzc]; exact Nat.mod_lt _ (by omega)
    have hzg : z.cells[j % sz]? = some (z.cells.getD (j % sz) .undef) := by simp [List.getD_eq_getElem?_getD, hm]
    obtain ⟨h2, y, h3, h4⟩ := z2 _ _ hzg
    exact ⟨h2, y, by rw [range_zero_get (by rw [z1, hzc]) h0 hj']; exact h3, h4⟩
  obtain ⟨p1, p2⟩ := parts_ok hf (ty := fun _ => some et) hps
  obtain ⟨arr, f1, f2⟩ := fill_ok hside p1 p2 hfill
  have hrun := run_buildSlice (w := w) (ev := a.eval) h ht hs hi hiz hsmall (by
    intro e
    rcases Nat.mul_eq_zero.1 e with e | e
    · exact h1 e
    · exact h0 e) f1
  obtain ⟨e1, e2⟩ := mapM_some_get hes
  have hcl : cs.length = len * sz := by
    have : ∀ (ps : List (Nat × AV)) (cs cs' : List AV), fillA (fun i => some (i * sz, sz)) cs ps = some cs' → cs'.length = cs.length := by
      intro ps
      induction ps with
      | nil => intro cs cs' h; injection h with h; rw [h]
      | cons p ps ih =>
        intro cs cs' h
        obtain ⟨i, v⟩ := p
        unfold fillA at h
        simp only at h
        split at h
        · cases h
        · rename_i hc
          simp at hc
          have := ih _ _ h
          rw [this]
          simp [splice]
          omega
    rw [this _ _ _ hfill]; simp
  have hel : es.length = len * sz := by rw [e1, hcl]
  have hagg : isAggB P et = false → sz = 1 := fun hb => by rw [← hfl, flat_one hb hfs]; rfl
  have hones : ∀ (k : Nat) (x : E), es[k]? = some x → (AV.e x).one = true := by
    intro k x hk
    obtain ⟨v, hv, hx⟩ := mapM_some_back hes k x hk
    obtain ⟨ho, _⟩ := f2.2 k v hv
    cases v <;> simp [AV.seal1] at hx <;> subst hx <;> first | exact ho | rfl
  have hxl : (elems P et sz len es).length = len := elems_length hel hagg
  have hvals : ∀ {S' : Cells} {w' : World} {σ' : Heap} {ρ' : Gr}, Ext σ ρ S w σ' ρ' S' w' → ∀ (i : Nat) (y : E) (j : Nat) (x : E), (elems P et sz len es)[i]? = some y → y.cells[j]? = some x → ∃ v, arr[i * fs.length + j]? = some v ∧ VE P w' S' x v := by
    intro S' w' σ' ρ' he i y j x hy hj
    have hjl : j < sz := by
      rw [← hfl, ← (okRow_inv hfs (List.all_eq_true.1 hok y (List.mem_of_getElem? hy))).1]
      exact (List.getElem?_eq_some_iff.1 hj).1
    have hk := elems_cell hel hagg hones hy hj hjl
    obtain ⟨v, hv, hx⟩ := mapM_some_back hes _ x hk
    obtain ⟨_, u, hu, hva⟩ := f2.2 _ v hv
    exact ⟨u, by rw [hfl]; exact hu, VE.mono he.cell (seal1_ok hx hva)⟩
  have hrowok : ∀ (i : Nat) (y : E), (elems P et sz len es)[i]? = some y → okRow P et y = true := fun i y hy => List.all_eq_true.1 hok y (List.mem_of_getElem? hy)
  have hn := NewBlock.alloc w arr et
  have has : arr.size = len * fs.length := by rw [f2.1, hcl, hfl]
  constructor
  · obtain ⟨r1, x1⟩ := hr.newCells hn (m := len * fs.length) (by omega)
    refine ⟨_, _, _, _, _, hrun, .inl rfl, r1, x1, ?_⟩
    have := VE_row (w := w.alloc (.cells arr et)) (S := addRow S w.heap.size (len * fs.length)) (c := len) hfs (by omega) hn.new hrowok (fun k hk => .inr ⟨rfl, by rwa [hxl] at hk⟩) (hvals x1)
    rw [hxl] at this
    exact this
  · intro k σ1 hfill
    obtain ⟨hh, rfl⟩ := fillAt_spec hfill
    have hkl := (List.getElem?_eq_some_iff.1 hh).1
    obtain ⟨r1, x1⟩ := hr.layRow (.inr hh) hn (et := et) (n := len) (c := len) hfs (Nat.le_refl _) (by omega)
    rw [hxl]
    refine ⟨_, _, _, _, _, hrun, .inl rfl, r1, x1, ?_⟩
    have := VE_row (w := w.alloc (.cells arr et)) (S := addRow S w.heap.size (len * fs.length)) (c := len) hfs (by omega) hn.new hrowok (fun k hk => .inr ⟨rfl, by rwa [hxl] at hk⟩) (hvals x1)
    rw [hxl] at this
    refine ⟨this, .inl ⟨len, by simp [hkl], by omega, fun _ => .inr ⟨w.heap.size, len, ?_, by rw [hxl]⟩⟩⟩
    rw [List.getElem?_set, if_pos rfl, if_pos (by rw [hr.len]; exact hkl)]
end
end Go.Den
