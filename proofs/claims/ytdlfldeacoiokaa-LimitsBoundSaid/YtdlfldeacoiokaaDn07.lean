/- Each operation that the interpreter carries out is carried out so by the model: reading and writing variables. -/
import Derived.Test.YtdlfldeacoiokaaDn06
namespace Go.Den
open Go

section
variable {P : Program} {σ : Heap} {ρ : Gr} {S : Cells} {w : World} {fr : Fr} {a : Act} {o : Oper}

theorem isZero_ok {z : Value} {v : AV} (h : isZero z v = true) (hn : ∀ et, v = .nils et → ∃ fs, flat P depth et = some fs) : VA1 P σ ρ S w v z ∧ v.one = true := by
  unfold isZero at h
  split at h
  · simp only [Bool.and_eq_true, beq_iff_eq] at h
    obtain ⟨rfl, rfl⟩ := h
    exact ⟨VE.int _ _, rfl⟩
  · simp only [beq_iff_eq] at h; subst h; exact ⟨VE.bool _, rfl⟩
  · simp only [beq_iff_eq] at h; exact ⟨VE.str _ _ h, rfl⟩
  · exact ⟨⟨rfl, hn _ rfl⟩, rfl⟩
  · exact ⟨rfl, rfl⟩
  · exact ⟨VE.nili, rfl⟩
  · cases h

theorem zeroCell_nils {ct : TypeId} {v : AV} (h : zeroCell P ct = some v) : ∀ et, v = .nils et → ∃ fs, flat P depth et = some fs := by
  rintro et rfl
  unfold zeroCell at h
  split at h <;> try (simp at h; done)
  split at h
  · rename_i hs
    injection h with h; injection h with h; subst h
    exact Option.isSome_iff_exists.1 hs
  · cases h

theorem zeroOf_ok {t : TypeId} {v : AV} (h : zeroOf P t = some v) : ∃ i z, P.info? t = some i ∧ i.zero = some z ∧ VA3 P σ ρ S w v z ∧ v.cells.all AV.one = true := by
  unfold zeroOf at h
  split at h
  · rename_i i ft hi hft
    split at h
    · rename_i z cs hz hcs
      obtain ⟨hl, hg⟩ := mapM_some_get hcs
      have hn : ∀ (j : Nat) (v : AV), cs[j]? = some v → ∀ et, v = .nils et → ∃ fs, flat P depth et = some fs := fun j v hj => by
        obtain ⟨ct, _, hct⟩ := mapM_some_back hcs j v hj
        exact zeroCell_nils hct
      split at h
      · split at h
        · rename_i arr
          split at h
          · rename_i hc
            injection h with h; subst h
            have hall : ∀ (j : Nat) (u : AV), cs[j]? = some u → ∃ x, arr[j]? = some x ∧ VA1 P σ ρ S w u x ∧ u.one = true := by
              intro j u hj
              have hlt : j < cs.length := (List.getElem?_eq_some_iff.1 hj).1
              have hx : arr.toList[j]? = some (arr.toList[j]'(by omega)) := List.getElem?_eq_getElem _
              have hp : (arr.toList.zip cs)[j]? = some (arr.toList[j]'(by omega), u) := by
                rw [List.getElem?_zip_eq_some]; exact ⟨hx, hj⟩
              have := List.all_eq_true.1 hc.2 _ (List.mem_of_getElem? hp)
              obtain ⟨h1, h2⟩ := isZero_ok (P := P) (σ := σ) (ρ := ρ) (S := S) (w := w) this (hn j u hj)
              exact ⟨_, by rw [← Array.getElem?_toList]; exact hx, h1, h2⟩
            refine ⟨i, _, hi, hz, ⟨arr, rfl, hc.1, fun j u hj => ?_⟩, ?_⟩
            · obtain ⟨x, hx, h1, h2⟩ := hall j u hj
              exact ⟨h2, x, hx, h1⟩
            · rw [List.all_eq_true]
              intro u hu
              obtain ⟨j, hj⟩ := List.getElem?_of_mem hu
              obtain ⟨x, hx, h1, h2⟩ := hall j u hj
              exact h2
          · cases h
        · cases h
      · split at h
        · rename_i c
          split at h
          · rename_i hc
            injection h with h; subst h
            obtain ⟨h1, h2⟩ := isZero_ok (P := P) (σ := σ) (ρ := ρ) (S := S) (w := w) hc (hn 0 _ rfl)
            refine ⟨i, z, hi, hz, h1.to3, ?_⟩
            have : AV.cells c = [c] := by cases c <;> first | rfl | (simp [AV.one] at h2)
            rw [this]; simp [h2]
          · cases h
        · cases h
    · cases h
  · cases h

theorem op_alloc (hr : Rel P σ ρ S w) {t : TypeId} {v : AV} {k : Nat} {cs : List AV} {σ1 σ2 : Heap} (h : o.op = .alloc t) (hx : zeroOf P t = some v)
    (hp : promote v.cells (k + 1) σ = some (cs, σ1)) (hfill : fillAt σ1 k (.box cs) = some σ2) : OpOk P σ ρ S w a o (.ptr k 0) σ2 := by
  obtain ⟨i, z, hi, hz, h1, h2⟩ := zeroOf_ok (σ := σ) (ρ := ρ) (S := S) (w := w) hx
  exact op_box_of hr h1 h2 t hp hfill (run_alloc h hi hz)

/-! ### Loads -/
theorem run_isAgg {t : TypeId} {n : Nat} (hs : sizeB P t = some n) : (isAgg t).run P w = .ok (isAggB P t) w := by
  obtain ⟨d, i, hd, _⟩ := sizeB_some hs
  unfold isAgg isAggB
  rw [Sem.run_bind, run_underlying hd w, hd]
  cases d <;> rfl

theorem add_at (b off j : Nat) : (⟨b, off, none⟩ : Addr).add j = ⟨b, off + j, none⟩ := by
  unfold Addr.add; split <;> simp_all

section
variable {ev : Operand → Value} {x y : Operand}
theorem run_load_agg {t : TypeId} {b off : Nat} {vs : List Value} (h : o.op = .load t x) (e : ev x = .pointer (some ⟨b, off, none⟩)) (hs : sizeB P t = some vs.length) (ha : isAggB P t = true)
    (hc : ∀ (j : Nat) (v : Value), vs[j]? = some v → w.cell? ⟨b, off + j, none⟩ = some v) : (execOp ev o).run P w = .ok (.value (.agg vs.toArray)) w := by
  have h1 := run_isAgg (w := w) hs
  have h2 := run_sizeOf (w := w) hs
  have h3 := run_loadCells_list (P := P) w ⟨b, off, none⟩ vs (fun j v hj => by rw [add_at]; exact hc j v hj)
  simp only [execOp, h, Instr.loadAt, Instr.sureAddr, e, loadVar, Sem.run_bind, Sem.run_pure, Result.andThen_ok, h1, ha, if_true, h2, h3]
theorem run_load_one {t : TypeId} {b off : Nat} {v : Value} {n : Nat} (h : o.op = .load t x) (e : ev x = .pointer (some ⟨b, off, none⟩)) (hs : sizeB P t = some n) (ha : isAggB P t = false)
    (hc : w.cell? ⟨b, off, none⟩ = some v) : (execOp ev o).run P w = .ok (.value v) w := by
  have h1 := run_isAgg (w := w) hs
  simp only [execOp, h, Instr.loadAt, Instr.sureAddr, e, loadVar, Sem.run_bind, Sem.run_pure, Result.andThen_ok, h1, ha, Bool.false_eq_true, if_false, run_load, hc]
end

theorem box_cell (hr : Rel P σ ρ S w) {id b c : Nat} {cs : List AV} (hb : σ[id]? = some (.box cs)) (hid : ρ[id]? = some (some (b, c))) {j : Nat} {v : AV} (hj : cs[j]? = some v) :
    v.one = true ∧ ∃ x, w.cell? ⟨b, j, none⟩ = some x ∧ VA1 P σ ρ S w v x := by
  obtain ⟨b', c', arr, T, h1, h2, h3, h4, _⟩ := hr.box id cs hb
  rw [hid] at h1; injection h1 with h1; injection h1 with h1; injection h1 with h1 h1'
  subst h1
  obtain ⟨h5, x, h6, h7⟩ := h4 j v hj
  exact ⟨h5, x, by rw [cell_of_row w b j arr T (0, 0) h2]; exact h6, h7⟩

theorem map_range_get {α : Type} {f : Nat → α} {n j : Nat} {v : α} (h : ((List.range n).map f)[j]? = some v) : j < n ∧ f j = v := by
  have hj : j < n := by simpa using (List.getElem?_eq_some_iff.1 h).1
  rw [List.getElem?_map, List.getElem?_range hj] at h
  exact ⟨hj, by simpa using h⟩
theorem map_range_put {α : Type} (f : Nat → α) {n j : Nat} (h : j < n) : ((List.range n).map f)[j]? = some (f j) := by
  rw [List.getElem?_map, List.getElem?_range h]; rfl

theorem op_load_agg (hr : Rel P σ ρ S w) (hf : FR P σ ρ S w fr a.tmps) {t : TypeId} {x : Operand} {id off n : Nat} {cs : List AV} (h : o.op = .load t x) (hx : evalO fr x = some (.ptr id off))
    (hb : σ[id]? = some (.box cs)) (hs : sizeB P t = some n) (hl : off + n ≤ cs.length) (ha : isAggB P t = true) : OpOk P σ ρ S w a o (.agg ((cs.drop off).take n)) σ := by
  obtain ⟨b, c, hid, _, e⟩ : VA1 P σ ρ S w (.ptr id off) (a.eval x) := evalO_ok hf hx
  have hlen : ((cs.drop off).take n).length = n := by simp; omega
  have hg : ∀ (j : Nat) (v : AV), ((cs.drop off).take n)[j]? = some v → cs[off + j]? = some v := by
    intro j v hj
    rw [List.getElem?_take] at hj
    split at hj
    · rwa [List.getElem?_drop] at hj
    · cases hj
  have hcell : ∀ (j : Nat) (v : AV), ((cs.drop off).take n)[j]? = some v → v.one = true ∧ ∃ y, w.cell? ⟨b, off + j, none⟩ = some y ∧ VA1 P σ ρ S w v y := fun j v hj => box_cell hr hb hid (hg j v hj)
  refine OpOk.pure hr (run_load_agg (vs := (List.range n).map (fun j => (w.cell? ⟨b, off + j, none⟩).getD undef)) h e (by rw [hs]; simp) ha ?_) ⟨_, rfl, by rw [hlen]; simp, ?_⟩
  · intro j v hj
    obtain ⟨hj, rfl⟩ := map_range_get hj
    obtain ⟨_, y, hy, _⟩ := hcell j _ (List.getElem?_eq_getElem (by omega))
    rw [hy]; rfl
  · intro j v hj
    obtain ⟨h1, y, hy, h2⟩ := hcell j v hj
    have hjn : j < n := by rw [← hlen]; exact (List.getElem?_eq_some_iff.1 hj).1
    refine ⟨h1, y, ?_, h2⟩
    rw [List.getElem?_toArray, map_range_put _ hjn, hy]; rfl

theorem op_load_one (hr : Rel P σ ρ S w) (hf : FR P σ ρ S w fr a.tmps) {t : TypeId} {x : Operand} {id off n : Nat} {cs : List AV} {v : AV} (h : o.op = .load t x) (hx : evalO fr x = some (.ptr id off))
    (hb : σ[id]? = some (.box cs)) (hs : sizeB P t = some n) (ha : isAggB P t = false) (hv : cs[off]? = some v) : OpOk P σ ρ S w a o v σ := by
  obtain ⟨b, c, hid, _, e⟩ : VA1 P σ ρ S w (.ptr id off) (a.eval x) := evalO_ok hf hx
  obtain ⟨h1, y, hy, h2⟩ := box_cell hr hb hid hv
  exact OpOk.pure hr (run_load_one h e hs ha hy) h2.to3

/-- A datum of a type, by its parts, is itself. -/
theorem canon_ok {ct : TypeId} {x u : E} (h : canon P ct x = some u) (hk : okCell P ct x = true) : u = x := by
  unfold canon at h
  unfold okCell at hk
  split at h <;> rename_i hu <;> (try (cases h; done)) <;> (injection h with h; subst h) <;> rw [hu] at hk <;> cases x <;> simp at hk <;> simp [E.toInt, E.toBool, E.toStr, E.toList, hk]

theorem E.cell_of {y : E} {j : Nat} {x : E} (h : y.cells[j]? = some x) : y.cell j = x := by
  simp [E.cell, List.getD_eq_getElem?_getD, h]

theorem okCell_one {ct : TypeId} {x : E} (h : okCell P ct x = true) : (AV.e x).one = true := by
  unfold okCell at h
  split at h <;> first | rfl | (cases h; done)

theorem flat_one {t : TypeId} (ha : isAggB P t = false) {ft : List TypeId} {d : Nat} (h : flat P d t = some ft) : ft = [t] := by
  cases d with
  | zero => cases h
  | succ d =>
    unfold flat at h
    unfold isAggB at ha
    split at h <;> rename_i hu
    · rw [hu] at ha; cases ha
    · rw [hu] at ha; cases ha
    · injection h with h; exact h.symm
    · cases h

theorem op_load_pin (hr : Rel P σ ρ S w) (hf : FR P σ ρ S w fr a.tmps) {t : TypeId} {x : Operand} {et : TypeId} {y : E} {off : Nat} {v : AV} (h : o.op = .load t x) (hx : evalO fr x = some (.pin et y off))
    (hv : loadPin P t et y off = some v) (hs : (flat P depth t).map List.length = sizeB P t) : OpOk P σ ρ S w a o v σ := by
  obtain ⟨b, o', fs, f, e, hfs, hlen, hok, hc⟩ : VA1 P σ ρ S w (.pin et y off) (a.eval x) := evalO_ok hf hx
  unfold loadPin at hv
  rw [hfs] at hv
  split at hv
  · rename_i fe ft hfe hft
    injection hfe with hfe; subst hfe
    rw [hft] at hs
    split at hv
    · rename_i htake
      have htype : ∀ (j : Nat) (ct : TypeId), ft[j]? = some ct → fs[off + j]? = some ct := by
        intro j ct hj
        rw [← htake, List.getElem?_take] at hj
        split at hj
        · rwa [List.getElem?_drop] at hj
        · cases hj
      have hcell : ∀ (j : Nat) (ct : TypeId), ft[j]? = some ct → ∃ x, y.cells[off + j]? = some x ∧ y.cell (off + j) = x ∧ okCell P ct x = true ∧ w.cell? ⟨b, o' + off + j, none⟩ = some (f (off + j)) ∧ VE P w S x (f (off + j)) := by
        intro j ct hj
        have h1 := htype j ct hj
        have hlt : off + j < y.cells.length := by rw [hlen]; exact (List.getElem?_eq_some_iff.1 h1).1
        have hx := List.getElem?_eq_getElem hlt
        obtain ⟨_, h3, h4⟩ := hc _ _ hx
        exact ⟨_, hx, E.cell_of hx, hok _ _ _ h1 hx, by rw [Nat.add_assoc]; exact h3, h4⟩
      split at hv
      · rename_i ha
        obtain ⟨cs, hcs, hv⟩ := Option.map_eq_some_iff.1 hv
        subst hv
        obtain ⟨l1, l2⟩ := mapM_some_get hcs
        have hl : cs.length = ft.length := by simpa using l1
        have hgo : ∀ (j : Nat) (ct : TypeId), ft[j]? = some ct → ∃ x, cs[j]? = some (.e x) ∧ y.cells[off + j]? = some x ∧ okCell P ct x = true := by
          intro j ct hj
          obtain ⟨x, h1, h2, h3, _⟩ := hcell j ct hj
          obtain ⟨u, h5, h6⟩ := l2 j (ct, j) (by rw [List.getElem?_zipIdx, hj]; simp)
          obtain ⟨u', h7, h8⟩ := Option.map_eq_some_iff.1 h5
          subst h8
          simp only [h2] at h7
          have := canon_ok h7 h3
          subst this
          exact ⟨_, h6, h1, h3⟩
        refine OpOk.pure hr (run_load_agg (vs := (List.range ft.length).map (fun j => f (off + j))) h e (by rw [← hs]; simp) ha ?_) ⟨_, rfl, by simp [hl], ?_⟩
        · intro j v hj
          obtain ⟨hj', rfl⟩ := map_range_get hj
          obtain ⟨_, _, _, _, h4, _⟩ := hcell j _ (List.getElem?_eq_getElem hj')
          exact h4
        · intro j v hj
          have hjn : j < ft.length := by rw [← hl]; exact (List.getElem?_eq_some_iff.1 hj).1
          obtain ⟨x, h1, h2, h3⟩ := hgo j _ (List.getElem?_eq_getElem hjn)
          rw [hj] at h1; injection h1 with h1; subst h1
          refine ⟨okCell_one h3, f (off + j), ?_, ?_⟩
          · rw [List.getElem?_toArray, map_range_put _ hjn]
          · exact (hc _ _ h2).2.2
      · rename_i ha
        have ha : isAggB P t = false := by simpa using ha
        split at hv
        · rename_i ct
          obtain ⟨u, h7, h8⟩ := Option.map_eq_some_iff.1 hv
          subst h8
          obtain ⟨x, h1, h2, h3, h4, h5⟩ := hcell 0 ct rfl
          simp only [Nat.add_zero] at h2 h4 h5
          rw [h2] at h7
          have := canon_ok h7 h3
          subst this
          exact OpOk.pure hr (run_load_one h e hs.symm ha h4) h5
        · cases hv
    · cases hv
  · cases hv
end
end Go.Den
