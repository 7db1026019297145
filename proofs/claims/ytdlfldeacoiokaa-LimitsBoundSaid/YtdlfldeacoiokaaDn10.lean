/- Slices that the program makes: new rows of cells, rows that grow where they lie. -/
import Derived.Test.YtdlfldeacoiokaaDn09
namespace Go.Den
open Go

section
variable {P : Program} {σ : Heap} {ρ : Gr} {S : Cells} {w w' : World}

/-- A world with one block more. -/
structure NewBlock (w w' : World) (arr : Array Value) (T : TypeId) : Prop where
  heap : w'.heap = w.heap.push (.cells arr T (0, 0))
  os : w'.os = w.os
  tape : w'.tape = w.tape
  output : w'.output = w.output

theorem NewBlock.alloc (w : World) (arr : Array Value) (T : TypeId) : NewBlock w (w.alloc (.cells arr T)) arr T := ⟨rfl, rfl, rfl, rfl⟩
theorem NewBlock.drew (w : World) (arr : Array Value) (T : TypeId) : NewBlock w (w.drew.alloc (.cells arr T)) arr T := ⟨rfl, rfl, rfl, rfl⟩
theorem NewBlock.old {arr : Array Value} {T : TypeId} (h : NewBlock w w' arr T) {b : Nat} (hb : b < w.heap.size) : w'.heap[b]? = w.heap[b]? := by
  rw [h.heap, Array.getElem?_push, if_neg (by omega)]
theorem NewBlock.new {arr : Array Value} {T : TypeId} (h : NewBlock w w' arr T) : w'.heap[w.heap.size]? = some (.cells arr T (0, 0)) := by
  rw [h.heap]; simp
theorem NewBlock.size {arr : Array Value} {T : TypeId} (h : NewBlock w w' arr T) : w'.heap.size = w.heap.size + 1 := by
  rw [h.heap]; simp
theorem NewBlock.cell {arr : Array Value} {T : TypeId} (h : NewBlock w w' arr T) (j : Nat) : w'.cell? ⟨w.heap.size, j, none⟩ = arr[j]? := cell_of_row w' _ j arr T (0, 0) h.new

/-- The cells of a block up to a place, beside those of S. -/
def addRow (S : Cells) (b m : Nat) : Cells := fun b' o => S b' o ∨ (b' = b ∧ o < m)

/-- New cells that nobody may write any more. -/
theorem Rel.newCells (hr : Rel P σ ρ S w) {arr : Array Value} {T : TypeId} (hn : NewBlock w w' arr T) {m : Nat} (hm : m ≤ arr.size) :
    Rel P σ ρ (addRow S w.heap.size m) w' ∧ Ext σ ρ S w σ ρ (addRow S w.heap.size m) w' := by
  have hcS : ∀ b o, S b o → w'.cell? ⟨b, o, none⟩ = w.cell? ⟨b, o, none⟩ := fun b o h => by
    obtain ⟨v, hv⟩ := hr.cells b o h
    exact cell_of_heap (hn.old (cell_lt hv))
  have he : Ext σ ρ S w σ ρ (addRow S w.heap.size m) w' := by
    refine ⟨fun b o h => ⟨.inl h, hcS b o h⟩, fun id cs h => ⟨⟨cs, h⟩, rfl⟩, fun id t n h => .inl ⟨n, Nat.le_refl _, h, fun _ => rfl⟩, fun id r h => ⟨⟨r, h⟩, rfl⟩, fun id h => h, fun b hb _ => hn.old hb, fun id b c h => .inr ⟨id, c, h⟩, ?_, by rw [hn.size]; omega, hn.os, hn.tape, hn.output⟩
    rintro b o (h | ⟨rfl, h⟩)
    · exact .inl h
    · exact .inr (.inl (Nat.le_refl _))
  refine ⟨⟨hr.len, ?_, ?_, ?_, hr.hole, fun i b c h => by rw [hn.size]; have := hr.lt i b c h; omega, hr.inj, ?_, hr.glob.mono he⟩, he⟩
  · intro id cs h
    obtain ⟨b, c, arr', T', h1, h2, h3, h4, h5⟩ := hr.box id cs h
    refine ⟨b, c, arr', T', h1, (hn.old (heap_lt h2)).trans h2, h3, fun j v hj => let ⟨h6, x, h7, h8⟩ := h4 j v hj; ⟨h6, x, h7, h8.mono he⟩, ?_⟩
    rintro o (h | ⟨rfl, _⟩)
    · exact h5 o h
    · have := heap_lt h2; omega
  · intro id et n b c h h'
    obtain ⟨arr', T', fs, h1, h2, h3, h4, h5⟩ := hr.vec id et n b c h h'
    refine ⟨arr', T', fs, (hn.old (heap_lt h1)).trans h1, h2, h3, h4, ?_⟩
    rintro o (h | ⟨rfl, _⟩)
    · exact h5 o h
    · have := heap_lt h1; omega
  · intro id r h
    obtain ⟨b, c, o', h1, h2, h3, h4⟩ := hr.raw id r h
    refine ⟨b, c, o', h1, (hn.old (heap_lt h2)).trans h2, h3, ?_⟩
    rintro o (h | ⟨rfl, _⟩)
    · exact h4 o h
    · have := heap_lt h2; omega
  · rintro b o (h | ⟨rfl, h⟩)
    · obtain ⟨v, hv⟩ := hr.cells b o h
      exact ⟨v, by rw [hcS b o h]; exact hv⟩
    · exact ⟨arr[o], by rw [hn.cell]; exact Array.getElem?_eq_getElem (by omega)⟩

/-- A growing slice lies in a row that has just been made: one that moves there, or a new one. -/
theorem Rel.layRow (hr : Rel P σ ρ S w) {id : Nat} {et : TypeId} {n c : Nat} (hv : (∃ n0, σ[id]? = some (.vec et n0) ∧ n0 < n) ∨ σ[id]? = some .hole) {arr : Array Value} {T : TypeId} (hn : NewBlock w w' arr T) {fs : List TypeId}
    (hfs : flat P depth et = some fs) (hc : n ≤ c) (hl : c * fs.length ≤ arr.size) :
    Rel P (σ.set id (.vec et n)) (ρ.set id (some (w.heap.size, c))) (addRow S w.heap.size (n * fs.length)) w' ∧
      Ext σ ρ S w (σ.set id (.vec et n)) (ρ.set id (some (w.heap.size, c))) (addRow S w.heap.size (n * fs.length)) w' := by
  have hnl : n * fs.length ≤ arr.size := Nat.le_trans (Nat.mul_le_mul_right _ hc) hl
  obtain ⟨r1, e1⟩ := hr.newCells hn hnl
  have hid : id < σ.length := by rcases hv with ⟨_, hv, _⟩ | hv <;> exact (List.getElem?_eq_some_iff.1 hv).1
  have hidr : id < ρ.length := by rw [hr.len]; exact hid
  have hneo : ∀ {i : Nat} {q : Ob}, σ[i]? = some q → q ≠ .hole → (∀ et n, q ≠ .vec et n) → id ≠ i := fun {i q} h h1 h2 => by
    rintro rfl
    rcases hv with ⟨n0, hv, _⟩ | hv <;> rw [hv] at h <;> injection h with h
    · exact h2 _ _ h.symm
    · exact h1 h.symm
  have he : Ext σ ρ S w (σ.set id (.vec et n)) (ρ.set id (some (w.heap.size, c))) (addRow S w.heap.size (n * fs.length)) w' := by
    refine ⟨e1.cell, fun i cs h => ?_, fun i t m h => .inl ?_, fun i r h => ?_, fun i h => ?_, e1.old, ?_, e1.newS, e1.size, e1.os, e1.tape, e1.output⟩
    · have hne : id ≠ i := hneo h (by simp) (by simp)
      exact ⟨⟨cs, by rw [List.getElem?_set_ne hne]; exact h⟩, by rw [List.getElem?_set_ne hne]⟩
    · by_cases hne : id = i
      · subst hne
        rcases hv with ⟨n0, hv, h0⟩ | hv
        · rw [hv] at h; injection h with h; injection h with h1 h2; subst h1; subst h2
          exact ⟨n, by omega, by simp [hid], fun e => by omega⟩
        · rw [hv] at h; cases h
      · exact ⟨m, Nat.le_refl _, by rw [List.getElem?_set_ne hne]; exact h, fun _ => by rw [List.getElem?_set_ne hne]⟩
    · have hne : id ≠ i := hneo h (by simp) (by simp)
      exact ⟨⟨r, by rw [List.getElem?_set_ne hne]; exact h⟩, by rw [List.getElem?_set_ne hne]⟩
    · rw [List.getElem?_set_ne (hneo h (by simp) (by simp))]; exact h
    · intro i b c' h
      rcases set_cases h with ⟨_, h, _⟩ | ⟨_, h⟩
      · injection h with h; injection h with h1 h2; exact .inl (by omega)
      · exact .inr ⟨i, c', h⟩
  refine ⟨⟨by simp [hr.len], ?_, ?_, ?_, ?_, ?_, ?_, r1.cells, hr.glob.mono he⟩, he⟩
  · intro i cs h
    rcases set_cases h with ⟨_, h, _⟩ | ⟨hne, h⟩
    · cases h
    · obtain ⟨b, c', arr', T', h1, h2, h3, _, h5⟩ := r1.box i cs h
      obtain ⟨b0, c0, arr0, T0, g1, g2, g3, g4, g5⟩ := hr.box i cs h
      rw [h1] at g1; injection g1 with g1; injection g1 with g1; injection g1 with g1 g1'
      subst g1
      exact ⟨b, c', arr0, T0, by rw [List.getElem?_set_ne (fun e => hne e.symm)]; exact h1, (hn.old (heap_lt g2)).trans g2, g3, fun j v hj => let ⟨h6, x, h7, h8⟩ := g4 j v hj; ⟨h6, x, h7, h8.mono he⟩, h5⟩
  · intro i et' n' b c' h h'
    rcases set_cases h with ⟨rfl, h, _⟩ | ⟨hne, h⟩
    · injection h with h1 h2; subst h1; subst h2
      rcases set_cases h' with ⟨_, h', _⟩ | ⟨hne, _⟩
      · injection h' with h'; injection h' with h1 h2; subst h1; subst h2
        refine ⟨arr, T, fs, hn.new, hfs, hc, hl, ?_⟩
        rintro o (h | ⟨_, h⟩)
        · obtain ⟨v, hv⟩ := hr.cells _ _ h
          have := cell_lt hv
          omega
        · exact h
      · exact absurd rfl hne
    · rcases set_cases h' with ⟨rfl, _, _⟩ | ⟨_, h'⟩
      · exact absurd rfl hne
      · exact r1.vec i et' n' b c' h h'
  · intro i r h
    rcases set_cases h with ⟨_, h, _⟩ | ⟨hne, h⟩
    · cases h
    · obtain ⟨b, c', o', h1, h2⟩ := r1.raw i r h
      exact ⟨b, c', o', by rw [List.getElem?_set_ne (fun e => hne e.symm)]; exact h1, h2⟩
  · intro i h
    rcases set_cases h with ⟨_, h, _⟩ | ⟨hne, h⟩
    · cases h
    · rw [List.getElem?_set_ne (fun e => hne e.symm)]; exact hr.hole i h
  · intro i b c' h
    rcases set_cases h with ⟨_, h, _⟩ | ⟨_, h⟩
    · injection h with h; injection h with h1 h2; subst h1; rw [hn.size]; omega
    · exact r1.lt i b c' h
  · intro i j b c1 c2 h h'
    rcases set_cases h with ⟨h0, h, _⟩ | ⟨_, h⟩ <;> rcases set_cases h' with ⟨h0', h', _⟩ | ⟨_, h'⟩
    · omega
    · injection h with h; injection h with h1 h2
      have := hr.rho_lt h'
      omega
    · injection h' with h'; injection h' with h1 h2
      have := hr.rho_lt h
      omega
    · exact hr.inj i j b c1 c2 h h'

/-- A growing slice grows where it lies. -/
theorem Rel.growRow (hr : Rel P σ ρ S w) {id : Nat} {et : TypeId} {n0 b c : Nat} (hv : σ[id]? = some (.vec et n0)) (hid : ρ[id]? = some (some (b, c))) {arr arr' : Array Value} {T : TypeId} {fs : List TypeId} {n : Nat}
    (hfs : flat P depth et = some fs) (hh : w.heap[b]? = some (.cells arr T (0, 0))) (h0 : n0 ≤ n) (hc : n ≤ c) (hl : c * fs.length ≤ arr.size) (hs : arr'.size = arr.size)
    (hsame : ∀ j, j < n0 * fs.length → arr'[j]? = arr[j]?) :
    Rel P (σ.set id (.vec et n)) ρ (addRow S b (n * fs.length)) (w.setRow b arr') ∧
      Ext σ ρ S w (σ.set id (.vec et n)) ρ (addRow S b (n * fs.length)) (w.setRow b arr') := by
  have hnl : n * fs.length ≤ arr.size := Nat.le_trans (Nat.mul_le_mul_right _ hc) hl
  have hidl : id < σ.length := (List.getElem?_eq_some_iff.1 hv).1
  have hoth : ∀ k, k ≠ b → (w.setRow b arr').heap[k]? = w.heap[k]? := fun k hk => setRow_other w b k arr' hk
  have hnew : (w.setRow b arr').heap[b]? = some (.cells arr' T (0, 0)) := setRow_heap w b arr arr' T (0, 0) hh
  have hSb : ∀ o, S b o → o < n0 * fs.length := by
    obtain ⟨_, _, fs', _, g2, _, _, g5⟩ := hr.vec id et n0 b c hv hid
    rw [hfs] at g2; injection g2 with g2; subst g2
    exact g5
  have hcS : ∀ b' o, S b' o → (w.setRow b arr').cell? ⟨b', o, none⟩ = w.cell? ⟨b', o, none⟩ := fun b' o h => by
    by_cases hb : b' = b
    · subst hb
      rw [cell_of_row _ _ o _ _ _ hnew, cell_of_row _ _ o _ _ _ hh]
      exact hsame o (hSb o h)
    · exact cell_of_heap (hoth b' hb)
  have hkeep : ∀ (i : Nat) (q : Ob), σ[i]? = some q → (∀ et n, q ≠ .vec et n) → (σ.set id (.vec et n))[i]? = some q := fun i q h hq => by
    rw [List.getElem?_set_ne (by rintro rfl; rw [hv] at h; injection h with h; exact hq _ _ h.symm)]; exact h
  have he : Ext σ ρ S w (σ.set id (.vec et n)) ρ (addRow S b (n * fs.length)) (w.setRow b arr') := by
    refine ⟨fun b' o h => ⟨.inl h, hcS b' o h⟩, fun i cs h => ?_, fun i t m h => .inl ?_, fun i r h => ⟨⟨r, hkeep i _ h (by simp)⟩, rfl⟩, fun i h => hkeep i _ h (by simp), fun k hk hn => hoth k ?_, fun i b' c' h => .inr ⟨i, c', h⟩, ?_, by rw [setRow_size]; exact Nat.le_refl _, rfl, rfl, rfl⟩
    · have hne : id ≠ i := by rintro rfl; rw [hv] at h; cases h
      exact ⟨⟨cs, by rw [List.getElem?_set_ne hne]; exact h⟩, rfl⟩
    · by_cases hne : id = i
      · subst hne
        rw [hv] at h; injection h with h; injection h with h1 h2; subst h1; subst h2
        exact ⟨n, h0, by simp [hidl], fun _ => rfl⟩
      · exact ⟨m, Nat.le_refl _, by rw [List.getElem?_set_ne hne]; exact h, fun _ => rfl⟩
    · rintro rfl; exact hn id c hid
    · rintro b' o (h | ⟨rfl, h⟩)
      · exact .inl h
      · exact .inr (.inr ⟨id, c, hid⟩)
  refine ⟨⟨by simp [hr.len], ?_, ?_, ?_, ?_, fun i b' c' h => by rw [setRow_size]; exact hr.lt i b' c' h, hr.inj, ?_, hr.glob.mono he⟩, he⟩
  · intro i cs h
    rcases set_cases h with ⟨_, h, _⟩ | ⟨hne, h⟩
    · cases h
    · obtain ⟨b0, c0, arr0, T0, g1, g2, g3, g4, g5⟩ := hr.box i cs h
      have hbb : b0 ≠ b := by rintro rfl; exact hne (hr.inj _ _ _ _ _ g1 hid)
      refine ⟨b0, c0, arr0, T0, g1, (hoth b0 hbb).trans g2, g3, fun j v hj => let ⟨h6, x, h7, h8⟩ := g4 j v hj; ⟨h6, x, h7, h8.mono he⟩, ?_⟩
      rintro o (h | ⟨rfl, _⟩)
      · exact g5 o h
      · exact hbb rfl
  · intro i et' n' b' c' h h'
    rcases set_cases h with ⟨rfl, h, _⟩ | ⟨hne, h⟩
    · injection h with h1 h2; subst h1; subst h2
      rw [hid] at h'; injection h' with h'; injection h' with h'; injection h' with h1 h2; subst h1; subst h2
      refine ⟨arr', T, fs, hnew, hfs, hc, by rw [hs]; exact hl, ?_⟩
      rintro o (h | ⟨_, h⟩)
      · exact Nat.lt_of_lt_of_le (hSb o h) (Nat.mul_le_mul_right _ h0)
      · exact h
    · obtain ⟨arr0, T0, fs0, g1, g2, g3, g4, g5⟩ := hr.vec i et' n' b' c' h h'
      have hbb : b' ≠ b := by rintro rfl; exact hne (hr.inj _ _ _ _ _ h' hid)
      refine ⟨arr0, T0, fs0, (hoth b' hbb).trans g1, g2, g3, g4, ?_⟩
      rintro o (h | ⟨rfl, _⟩)
      · exact g5 o h
      · exact absurd rfl hbb
  · intro i r h
    rcases set_cases h with ⟨_, h, _⟩ | ⟨hne, h⟩
    · cases h
    · obtain ⟨b0, c0, o', g1, g2, g3, g4⟩ := hr.raw i r h
      have hbb : b0 ≠ b := by rintro rfl; exact hne (hr.inj _ _ _ _ _ g1 hid)
      refine ⟨b0, c0, o', g1, (hoth b0 hbb).trans g2, g3, ?_⟩
      rintro o (h | ⟨rfl, _⟩)
      · exact g4 o h
      · exact absurd rfl hbb
  · intro i h
    rcases set_cases h with ⟨_, h, _⟩ | ⟨_, h⟩
    · cases h
    · exact hr.hole i h
  · rintro b' o (h | ⟨rfl, h⟩)
    · obtain ⟨v, hv⟩ := hr.cells b' o h
      exact ⟨v, by rw [hcS b' o h]; exact hv⟩
    · exact ⟨arr'[o]'(by omega), by rw [cell_of_row _ _ o _ _ _ hnew]; exact Array.getElem?_eq_getElem (by omega)⟩
end
end Go.Den
