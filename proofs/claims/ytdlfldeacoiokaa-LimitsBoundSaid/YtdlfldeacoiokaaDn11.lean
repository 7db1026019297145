/- Each operation that the interpreter carries out is carried out so by the model: structs and slices that are written out. -/
import Derived.Test.YtdlfldeacoiokaaDn10
namespace Go.Den
open Go

section
variable {P : Program} {σ : Heap} {ρ : Gr} {S : Cells} {w : World} {fr : Fr} {a : Act} {o : Oper}

section
variable {ev : Operand → Value} {x y : Operand}
theorem run_field_agg {t : TypeId} {fs : Array Field} {f : Field} {i n : Nat} {arr : Array Value} (h : o.op = .field t x i) (ht : P.underlying t = some (.struct fs)) (hf : fs[i]? = some f) (e : ev x = .agg arr)
    (hs : sizeB P f.type = some n) (ha : isAggB P f.type = true) : (execOp ev o).run P w = .ok (.value (.agg (arr.extract f.offset (f.offset + n)))) w := by
  have h1 := run_isAgg (w := w) hs
  have h2 := run_sizeOf (w := w) hs
  simp [execOp, h, Instr.field, run_underlying ht, hf, e, asAgg, part, h1, ha, h2]
theorem run_field_one {t : TypeId} {fs : Array Field} {f : Field} {i n : Nat} {arr : Array Value} {v : Value} (h : o.op = .field t x i) (ht : P.underlying t = some (.struct fs)) (hf : fs[i]? = some f) (e : ev x = .agg arr)
    (hs : sizeB P f.type = some n) (ha : isAggB P f.type = false) (hv : arr[f.offset]? = some v) : (execOp ev o).run P w = .ok (.value v) w := by
  have h1 := run_isAgg (w := w) hs
  simp [execOp, h, Instr.field, run_underlying ht, hf, e, asAgg, part, h1, ha, hv]
end

theorem op_field_agg (hr : Rel P σ ρ S w) (hf : FR P σ ρ S w fr a.tmps) {t : TypeId} {x : Operand} {fs : Array Field} {f : Field} {i n : Nat} {cs : List AV} (h : o.op = .field t x i) (ht : P.underlying t = some (.struct fs)) (hfi : fs[i]? = some f)
    (hx : evalO fr x = some (.agg cs)) (hs : sizeB P f.type = some n) (ha : isAggB P f.type = true) (hl : f.offset + n ≤ cs.length) : OpOk P σ ρ S w a o (.agg ((cs.drop f.offset).take n)) σ := by
  obtain ⟨arr, h1, h2, h3⟩ : ∃ arr : Array Value, a.eval x = .agg arr ∧ arr.size = cs.length ∧ ∀ (j : Nat) (v : AV), cs[j]? = some v → v.one = true ∧ ∃ x, arr[j]? = some x ∧ VA1 P σ ρ S w v x := evalO_ok hf hx
  refine OpOk.pure hr (run_field_agg h ht hfi h1 hs ha) ⟨_, rfl, by simp; omega, fun j v hj => ?_⟩
  rw [List.getElem?_take] at hj
  split at hj
  · rename_i hjn
    rw [List.getElem?_drop] at hj
    obtain ⟨h4, y, h5, h6⟩ := h3 _ v hj
    refine ⟨h4, y, ?_, h6⟩
    rw [Array.getElem?_extract]
    rw [if_pos (by omega)]
    exact h5
  · cases hj

theorem op_field_one (hr : Rel P σ ρ S w) (hf : FR P σ ρ S w fr a.tmps) {t : TypeId} {x : Operand} {fs : Array Field} {f : Field} {i n : Nat} {cs : List AV} {v : AV} (h : o.op = .field t x i) (ht : P.underlying t = some (.struct fs)) (hfi : fs[i]? = some f)
    (hx : evalO fr x = some (.agg cs)) (hs : sizeB P f.type = some n) (ha : isAggB P f.type = false) (hv : cs[f.offset]? = some v) : OpOk P σ ρ S w a o v σ := by
  obtain ⟨arr, h1, h2, h3⟩ : ∃ arr : Array Value, a.eval x = .agg arr ∧ arr.size = cs.length ∧ ∀ (j : Nat) (v : AV), cs[j]? = some v → v.one = true ∧ ∃ x, arr[j]? = some x ∧ VA1 P σ ρ S w v x := evalO_ok hf hx
  obtain ⟨h4, y, h5, h6⟩ := h3 _ v hv
  exact OpOk.pure hr (run_field_one h ht hfi h1 hs ha h5) h6.to3

/-- Cells side by side. -/
def Side (P : Program) (σ : Heap) (ρ : Gr) (S : Cells) (w : World) (cs : List AV) (arr : Array Value) : Prop :=
  arr.size = cs.length ∧ ∀ (j : Nat) (v : AV), cs[j]? = some v → v.one = true ∧ ∃ x, arr[j]? = some x ∧ VA1 P σ ρ S w v x

theorem foldl_set (off : Nat) : ∀ (l : List Value) (s : Nat) (arr : Array Value),
    ((l.zipIdx s).foldl (fun (cs : Array Value) (p : Value × Nat) => cs.setIfInBounds (off + p.2) p.1) arr).size = arr.size ∧
    ∀ k, k < arr.size → ((l.zipIdx s).foldl (fun (cs : Array Value) (p : Value × Nat) => cs.setIfInBounds (off + p.2) p.1) arr)[k]? =
      if off + s ≤ k ∧ k < off + s + l.length then l[k - (off + s)]? else arr[k]? := by
  intro l
  induction l with
  | nil => intro s arr; simp; intro k _ h1 h2; omega
  | cons v l ih =>
    intro s arr
    obtain ⟨h1, h2⟩ := ih (s + 1) (arr.setIfInBounds (off + s) v)
    refine ⟨by simpa [List.zipIdx_cons] using h1, fun k hk => ?_⟩
    simp only [List.zipIdx_cons, List.foldl_cons]
    rw [h2 k (by simpa using hk)]
    by_cases hk0 : k = off + s
    · subst hk0
      rw [if_neg (by omega), if_pos (by simp)]
      simp [hk]
    · by_cases hk1 : off + (s + 1) ≤ k ∧ k < off + (s + 1) + l.length
      · rw [if_pos hk1, if_pos (by simp; omega)]
        have : k - (off + s) = (k - (off + (s + 1))) + 1 := by omega
        rw [this]; rfl
      · rw [if_neg hk1, if_neg (by simp; omega)]
        rw [Array.getElem?_setIfInBounds_ne (fun e => hk0 e.symm)]

theorem fill_ok {place : Nat → Option (Nat × Nat)} : ∀ {ps : List (Nat × AV)} {qs : List (Nat × Value)} {cs cs' : List AV} {arr : Array Value}, Side P σ ρ S w cs arr → qs.length = ps.length →
    (∀ (j : Nat) (p : Nat × AV), ps[j]? = some p → ∃ q, qs[j]? = some q ∧ q.1 = p.1 ∧ VA3 P σ ρ S w p.2 q.2) → fillA place cs ps = some cs' →
    ∃ arr', Instr.fill place arr qs = some arr' ∧ Side P σ ρ S w cs' arr' := by
  intro ps
  induction ps with
  | nil =>
    intro qs cs cs' arr hs hl _ h
    cases qs with
    | nil => injection h with h; subst h; exact ⟨arr, rfl, hs⟩
    | cons _ _ => simp at hl
  | cons p ps ih =>
    intro qs cs cs' arr hs hl hp h
    cases qs with
    | nil => simp at hl
    | cons q qs =>
      obtain ⟨i, v⟩ := p
      obtain ⟨q', hq', hq1, hv⟩ := hp 0 _ rfl
      injection hq' with hq'; subst hq'
      obtain ⟨i', cv⟩ := q
      simp only at hq1 hv
      subst hq1
      unfold fillA at h
      unfold Instr.fill
      cases hpl : place i' with
      | none => rw [hpl] at h; cases h
      | some os =>
        obtain ⟨off, size⟩ := os
        rw [hpl] at h
        simp only at h ⊢
        split at h
        · cases h
        · rename_i hc
          simp only [ne_eq, decide_not, Bool.or_eq_true, Bool.not_eq_true', decide_eq_false_iff_not, decide_eq_true_eq, not_or, Classical.not_not, Bool.not_eq_false] at hc
          obtain ⟨⟨c1, c2⟩, c3⟩ := hc
          obtain ⟨d1, d2⟩ := cells_ok hv c3
          have e1 : cv.cells.size = size := by rw [d1]; exact c1
          have e2 : ¬ (off + cv.cells.size > arr.size) := by rw [d1, hs.1]; exact c2
          rw [if_neg (by simp [e1]; rw [hs.1]; omega)]
          have hf := foldl_set off cv.cells.toList 0 arr
          have hfold : (cv.cells.zipIdx.foldl (fun cs (c, j) => cs.setIfInBounds (off + j) c) arr) = ((cv.cells.toList.zipIdx 0).foldl (fun (cs : Array Value) (p : Value × Nat) => cs.setIfInBounds (off + p.2) p.1) arr) := by
            rw [← Array.foldl_toList]; simp
          rw [hfold]
          refine ih (cs := splice cs off v.cells) ?_ (by simpa using hl) (fun j p hj => hp (j + 1) p (by simpa using hj)) h
          have hal := hs.1
          refine ⟨by rw [hf.1, hs.1]; simp [splice]; omega, fun j u hj => ?_⟩
          have hjl : j < arr.size := by
            have := (List.getElem?_eq_some_iff.1 hj).1
            simp [splice] at this
            omega
          rw [hf.2 j hjl]
          unfold splice at hj
          rcases Nat.lt_or_ge j off with k1 | k1
          · rw [List.append_assoc, List.getElem?_append_left (by simp; omega), List.getElem?_take, if_pos k1] at hj
            rw [if_neg (by omega)]
            exact hs.2 j u hj
          · rcases Nat.lt_or_ge j (off + v.cells.length) with k2 | k2
            · rw [List.append_assoc, List.getElem?_append_right (by simp; omega), List.getElem?_append_left (by simp; omega)] at hj
              have e3 : (List.take off cs).length = off := by simp; omega
              rw [e3] at hj
              rw [if_pos (by simp; omega)]
              obtain ⟨h5, x, h6, h7⟩ := d2 _ u hj
              exact ⟨h5, x, by simpa using h6, h7⟩
            · rw [List.getElem?_append_right (by simp; omega)] at hj
              have e3 : (List.take off cs ++ v.cells).length = off + v.cells.length := by simp; omega
              rw [e3, List.getElem?_drop] at hj
              rw [if_neg (by simp; omega)]
              have e4 : off + v.cells.length + (j - (off + v.cells.length)) = j := by omega
              rw [e4] at hj
              exact hs.2 j u hj

theorem run_build_op {ev : Operand → Value} {t : TypeId} {parts : Array (Nat × Operand)} {cells : Array Value} (h : o.op = .build t parts) (hb : P.built t (parts.toList.map fun p => (p.1, ev p.2)) = some cells) :
    (execOp ev o).run P w = .ok (.value (.agg cells)) w := by
  have h1 := run_build (P := P) w t (parts.map fun (i, x) => (i, ev x)) cells (by simpa using hb)
  simp [execOp, h, h1]

theorem parts_ok (hf : FR P σ ρ S w fr a.tmps) {ty : Nat → Option TypeId} {parts : Array (Nat × Operand)} {ps : List (Nat × AV)}
    (h : (parts.toList.mapM fun p => partOf P fr (ty p.1) p) = some ps) :
    (parts.toList.map fun p => (p.1, a.eval p.2)).length = ps.length ∧
    ∀ (j : Nat) (p : Nat × AV), ps[j]? = some p → ∃ q, (parts.toList.map fun p => (p.1, a.eval p.2))[j]? = some q ∧ q.1 = p.1 ∧ VA3 P σ ρ S w p.2 q.2 := by
  obtain ⟨l1, l2⟩ := mapM_some_get h
  refine ⟨by simp [l1], fun j p hj => ?_⟩
  obtain ⟨⟨i, x⟩, hx, hp⟩ := mapM_some_back h j p hj
  unfold partOf at hp
  simp only at hp
  split at hp
  · obtain ⟨v, hv, hp⟩ := Option.map_eq_some_iff.1 hp
    subst hp
    exact ⟨(i, a.eval x), by rw [List.getElem?_map, hx]; rfl, rfl, evalT_ok hf hv⟩
  · cases hp

theorem zeroOf_agg {t : TypeId} {zs : List AV} (h : zeroOf P t = some (.agg zs)) : ∃ i arr, P.info? t = some i ∧ i.zero = some (.agg arr) ∧ Side P σ ρ S w zs arr := by
  obtain ⟨i, z, h1, h2, h3, _⟩ := zeroOf_ok (σ := σ) (ρ := ρ) (S := S) (w := w) h
  obtain ⟨arr, rfl, h4, h5⟩ : ∃ arr : Array Value, z = .agg arr ∧ arr.size = zs.length ∧ ∀ (j : Nat) (v : AV), zs[j]? = some v → v.one = true ∧ ∃ x, arr[j]? = some x ∧ VA1 P σ ρ S w v x := h3
  exact ⟨i, arr, h1, h2, h4, h5⟩

theorem op_build (hr : Rel P σ ρ S w) (hf : FR P σ ρ S w fr a.tmps) {t : TypeId} {parts : Array (Nat × Operand)} {fs : Array Field} {zs cs : List AV} {places : List (Nat × Nat)} {ps : List (Nat × AV)} (h : o.op = .build t parts)
    (hz : zeroOf P t = some (.agg zs)) (ht : P.underlying t = some (.struct fs)) (hpl : (fs.toList.mapM fun f => (P.info? f.type).map fun i => (f.offset, i.size)) = some places)
    (hps : (parts.toList.mapM fun p => partOf P fr ((fs[p.1]?).map (·.type)) p) = some ps)
    (hfill : fillA (fun i => places[i]?) zs ps = some cs) : OpOk P σ ρ S w a o (.agg cs) σ := by
  obtain ⟨i, arr, h1, h2, h3⟩ := zeroOf_agg (σ := σ) (ρ := ρ) (S := S) (w := w) hz
  obtain ⟨p1, p2⟩ := parts_ok hf (ty := fun i => (fs[i]?).map (·.type)) hps
  obtain ⟨arr', f1, f2⟩ := fill_ok h3 p1 p2 hfill
  refine OpOk.pure hr (run_build_op (cells := arr') h ?_) ⟨arr', rfl, f2.1, f2.2⟩
  unfold Program.built
  rw [h1, ht]
  simp only [h2, hpl]
  simpa [Value.cells] using f1

end
end Go.Den
