/- Each operation that the interpreter carries out is carried out so by the model: stores, addresses of parts. -/
import Derived.Test.YtdlfldeacoiokaaDn07
namespace Go.Den
open Go

section
variable {P : Program} {σ : Heap} {ρ : Gr} {S : Cells} {w : World} {fr : Fr} {a : Act} {o : Oper}


/-- A variable is written. -/
theorem Rel.setBox (hr : Rel P σ ρ S w) {id b c : Nat} {cs cs' : List AV} {arr arr' : Array Value} {T : TypeId} (hb : σ[id]? = some (.box cs)) (hid : ρ[id]? = some (some (b, c)))
    (hh : w.heap[b]? = some (.cells arr T (0, 0))) (hs : arr'.size = cs'.length)
    (hc : ∀ (j : Nat) (v : AV), cs'[j]? = some v → v.one = true ∧ ∃ x, arr'[j]? = some x ∧ VA1 P σ ρ S w v x) :
    Rel P (σ.set id (.box cs')) ρ S (w.setRow b arr') ∧ Ext σ ρ S w (σ.set id (.box cs')) ρ S (w.setRow b arr') := by
  have hnS : ∀ o, ¬ S b o := by
    obtain ⟨b', c', _, _, h1, _, _, _, h5⟩ := hr.box id cs hb
    rw [hid] at h1; injection h1 with h1; injection h1 with h1; injection h1 with h1 _
    subst h1; exact h5
  have hidlt : id < σ.length := (List.getElem?_eq_some_iff.1 hb).1
  have hoth : ∀ k, k ≠ b → (w.setRow b arr').heap[k]? = w.heap[k]? := fun k hk => setRow_other w b k arr' hk
  have hcellS : ∀ b' o', S b' o' → (w.setRow b arr').cell? ⟨b', o', none⟩ = w.cell? ⟨b', o', none⟩ := fun b' o' h =>
    cell_of_heap (hoth b' (by rintro rfl; exact hnS _ h))
  have hset : ∀ (i : Nat) (ob : Ob), (σ.set id (.box cs'))[i]? = some ob → (i = id ∧ ob = .box cs') ∨ (i ≠ id ∧ σ[i]? = some ob) := by
    intro i ob h
    rw [List.getElem?_set] at h
    split at h
    · rename_i e; subst e
      injection h with h; exact .inl ⟨rfl, h.symm⟩
    · rename_i e; exact .inr ⟨fun e' => e e'.symm, h⟩
  have hkeep : ∀ (i : Nat) (q : Ob), σ[i]? = some q → (∀ ds, q ≠ .box ds) → (σ.set id (.box cs'))[i]? = some q := fun i q h hq => by
    rw [List.getElem?_set_ne (by rintro rfl; rw [hb] at h; injection h with h; exact hq cs h.symm)]; exact h
  have he : Ext σ ρ S w (σ.set id (.box cs')) ρ S (w.setRow b arr') := by
    refine ⟨fun b' o' h => ⟨h, hcellS b' o' h⟩, fun i ds h => ⟨?_, rfl⟩, fun i t m h => .inl ⟨m, Nat.le_refl _, ?_, fun _ => rfl⟩, fun i r h => ⟨⟨r, hkeep i _ h (by simp)⟩, rfl⟩, fun i h => hkeep i _ h (by simp), fun k hk hn => hoth k ?_, fun i b c h => .inr ⟨i, c, h⟩, fun _ _ h => .inl h, by rw [setRow_size]; exact Nat.le_refl _, rfl, rfl, rfl⟩
    · by_cases e : i = id
      · subst e; exact ⟨cs', by simp [hidlt]⟩
      · exact ⟨ds, by rw [List.getElem?_set_ne (fun e' => e e'.symm)]; exact h⟩
    · have e : i ≠ id := by rintro rfl; rw [hb] at h; cases h
      rw [List.getElem?_set_ne (fun e' => e e'.symm)]; exact h
    · rintro rfl; exact hn id c hid
  refine ⟨⟨by simp [hr.len], ?_, ?_, ?_, ?_, fun i b' c' h => by rw [setRow_size]; exact hr.lt i b' c' h, hr.inj, ?_, hr.glob.mono he⟩, he⟩
  · intro i ds h
    rcases hset i _ h with ⟨rfl, h'⟩ | ⟨hne, h⟩
    · injection h' with h'; subst h'
      exact ⟨b, c, arr', T, hid, setRow_heap w b arr arr' T (0, 0) hh, hs, fun j v hj => let ⟨h1, x, h2, h3⟩ := hc j v hj; ⟨h1, x, h2, h3.mono he⟩, hnS⟩
    · obtain ⟨b', c', arr0, T0, h1, h2, h3, h4, h5⟩ := hr.box i ds h
      have hbb : b' ≠ b := by rintro rfl; exact hne (hr.inj _ _ _ _ _ h1 hid)
      exact ⟨b', c', arr0, T0, h1, (hoth b' hbb).trans h2, h3, fun j v hj => let ⟨h6, x, h7, h8⟩ := h4 j v hj; ⟨h6, x, h7, h8.mono he⟩, h5⟩
  · intro i et n b' c' h h'
    rcases hset i _ h with ⟨_, h⟩ | ⟨hne, h⟩
    · cases h
    · obtain ⟨arr0, T0, fs, h1, h2⟩ := hr.vec i et n b' c' h h'
      have hbb : b' ≠ b := by rintro rfl; exact hne (hr.inj _ _ _ _ _ h' hid)
      exact ⟨arr0, T0, fs, (hoth b' hbb).trans h1, h2⟩
  · intro i r h
    rcases hset i _ h with ⟨_, h⟩ | ⟨hne, h⟩
    · cases h
    · obtain ⟨b', c', o', h1, h2, h3, h4⟩ := hr.raw i r h
      have hbb : b' ≠ b := by rintro rfl; exact hne (hr.inj _ _ _ _ _ h1 hid)
      exact ⟨b', c', o', h1, (hoth b' hbb).trans h2, h3, h4⟩
  · intro i h
    rcases hset i _ h with ⟨_, h⟩ | ⟨_, h⟩
    · cases h
    · exact hr.hole i h
  · intro b' o' h
    obtain ⟨v, hv⟩ := hr.cells b' o' h
    exact ⟨v, by rw [hcellS b' o' h]; exact hv⟩

theorem one_oneCell {v : AV} {cv : Value} (h1 : v.one = true) (hv : VA1 P σ ρ S w v cv) : cv.oneCell' = true := by
  cases v with
  | e x =>
    have hx : VE P w S x cv := hv
    cases hx <;> first | rfl | (simp [AV.one] at h1)
  | nils t => obtain ⟨h, _⟩ := hv; subst h; rfl
  | own id et xs => obtain ⟨A, c, fs, b, o', f, h, _⟩ := VE_sl_inv hv.1; subst h; rfl
  | ptr id off => obtain ⟨b, c, _, _, h⟩ := hv; subst h; rfl
  | nilp => have h : cv = .pointer none := hv; subst h; rfl
  | pin et y off => obtain ⟨b, o', fs, f, h, _⟩ := hv; subst h; rfl
  | fn f => have h : cv = .func (.func f) #[] #[] := hv; subst h; rfl
  | clo f ps => obtain ⟨cap, h, _⟩ := hv; subst h; rfl
  | itr id => obtain ⟨b, c, _, _, h⟩ := hv; subst h; rfl
  | nsp id => rcases hv.2 with h | ⟨b, c, _, h⟩ <;> subst h <;> rfl
  | _ => simp [AV.one] at h1

theorem run_store_op {ev : Operand → Value} {x y : Operand} {t : TypeId} {b off : Nat} {arr : Array Value} {T : TypeId} (h : o.op = .store t x y) (e : ev x = .pointer (some ⟨b, off, none⟩))
    (hs : sizeB P t = some (ev y).cells.size) (hh : w.heap[b]? = some (.cells arr T (0, 0))) (hl : off + (ev y).cells.size ≤ arr.size) (h1 : ∀ v ∈ (ev y).cells.toList, v.oneCell' = true) :
    (execOp ev o).run P w = .ok .skip (w.setRow b (arr.toList.take off ++ (ev y).cells.toList ++ arr.toList.drop (off + (ev y).cells.toList.length)).toArray) := by
  have h2 := run_sizeOf (w := w) hs
  have h3 := run_storeCells_at P b off T (ev y).cells.toList 0 arr w hh (by simpa using hl) h1
  simp only [Nat.add_zero] at h3
  simp [execOp, h, Instr.storeAt, Instr.sureAddr, e, storeVar, h2, h3]

theorem op_store (hr : Rel P σ ρ S w) (hf : FR P σ ρ S w fr a.tmps) {t : TypeId} {x y : Operand} {id off n : Nat} {v : AV} {cs : List AV} (h : o.op = .store t x y) (hx : evalO fr x = some (.ptr id off))
    (hy : evalT P t fr y = some v) (hb : σ[id]? = some (.box cs)) (hs : sizeB P t = some n) (hn : v.cells.length = n) (hl : off + n ≤ cs.length) (h1 : v.cells.all AV.one = true)
    {k : Nat} {pc : List AV} {σ1 : Heap} (hp : promote v.cells k σ = some (pc, σ1)) :
    OpOk P σ ρ S w a o .undef (σ1.set id (.box (splice cs off pc))) := by
  obtain ⟨b, c, hid, _, e⟩ : VA1 P σ ρ S w (.ptr id off) (a.eval x) := evalO_ok hf hx
  have hv := evalT_ok hf hy
  generalize hcv : a.eval y = cv at hv
  obtain ⟨c1, c2⟩ := cells_ok hv h1
  obtain ⟨l, r1, e1, c3⟩ := promote_ok v.cells hp hr (arr := cv.cells.toList) (by simpa using c1) (fun j u hj => by
    obtain ⟨h3, y, hy, h4⟩ := c2 j u hj
    exact ⟨h3, y, by simpa using hy, h4⟩)
  obtain ⟨b0, c0, arr, T, g1, g2, g3, g4, _⟩ := hr.box id cs hb
  rw [hid] at g1; injection g1 with g1; injection g1 with g1; injection g1 with g1 _
  subst g1
  have hsz : cv.cells.size = n := by rw [c1, hn]
  have hb1 : ∃ cs1, σ1[id]? = some (.box cs1) ∧ ρ[id]? = some (some (b, c)) := by
    obtain ⟨⟨cs1, h2⟩, h3⟩ := e1.box id cs hb
    exact ⟨cs1, h2, h3.trans hid⟩
  obtain ⟨cs1, hb1, hid1⟩ := hb1
  have hsl : (splice cs off pc).length = cs.length := by
    simp [splice, l, hn]; omega
  have hvl : cv.cells.toList.length = n := by simpa using hsz
  obtain ⟨r2, e2⟩ := r1.setBox (cs' := splice cs off pc)
    (arr' := (arr.toList.take off ++ cv.cells.toList ++ arr.toList.drop (off + cv.cells.toList.length)).toArray) hb1 hid1 g2
    (by rw [hsl]; simp [g3, hvl]; omega)
    (fun j u hj => by
      have hal : arr.toList.length = cs.length := by simpa using g3
      have hpl : pc.length = n := by rw [l, hn]
      rw [List.getElem?_toArray]
      unfold splice at hj
      rw [hpl] at hj
      rw [hvl]
      rcases Nat.lt_or_ge j off with k1 | k1
      · rw [List.append_assoc, List.getElem?_append_left (by simp; omega), List.getElem?_take, if_pos k1] at hj
        rw [List.append_assoc, List.getElem?_append_left (by simp; omega), List.getElem?_take, if_pos k1]
        obtain ⟨h5, x, h6, h7⟩ := g4 j u hj
        exact ⟨h5, x, by rw [Array.getElem?_toList]; exact h6, h7.mono e1⟩
      · rcases Nat.lt_or_ge j (off + n) with k2 | k2
        · rw [List.append_assoc, List.getElem?_append_right (by simp; omega), List.getElem?_append_left (by simp; omega)] at hj
          rw [List.append_assoc, List.getElem?_append_right (by simp; omega), List.getElem?_append_left (by simp; omega)]
          have e3 : (List.take off cs).length = off := by simp; omega
          have e4 : (List.take off arr.toList).length = off := by simp; omega
          rw [e3] at hj; rw [e4]
          exact c3 (j - off) u hj
        · rw [List.getElem?_append_right (by simp; omega)] at hj
          rw [List.getElem?_append_right (by simp; omega)]
          have e3 : (List.take off cs ++ pc).length = off + n := by simp; omega
          have e4 : (List.take off arr.toList ++ cv.cells.toList).length = off + n := by simp; omega
          rw [e3, List.getElem?_drop] at hj; rw [e4, List.getElem?_drop]
          obtain ⟨h5, x, h6, h7⟩ := g4 _ u hj
          exact ⟨h5, x, by rw [Array.getElem?_toList]; exact h6, h7.mono e1⟩)
  subst hcv
  refine ⟨_, undef, _, _, _, run_store_op h e (by rw [hs, hsz]) g2 (by rw [hsz, g3]; exact hl) ?_, .inr ⟨rfl, rfl⟩, r2, e1.trans e2, trivial⟩
  intro u hu
  obtain ⟨j, hj⟩ := List.getElem?_of_mem hu
  have hjl : j < v.cells.length := by
    rw [← c1]
    have := (List.getElem?_eq_some_iff.1 hj).1
    simpa using this
  obtain ⟨h3, y, hy, h4⟩ := c2 j _ (List.getElem?_eq_getElem hjl)
  rw [Array.getElem?_toList] at hj
  rw [hj] at hy; injection hy with hy; subst hy
  exact one_oneCell h3 h4

end
end Go.Den
