/- Dn3: texts ZeAr .. ZeAv in one. -/
import Derived.Test.YtapndkailgcboaaGreatDoorDn2
import Derived.Laws.MakeOwn
/- Arrays whose elements may be written: each operation is carried out so by the model. -/
namespace Go.Den
open Go

section
variable {P : Program} {σ : Heap} {ρ : Gr} {S : Cells} {w w' : World} {fr : Fr} {a : Act} {o : Oper}

/-- A world of which one block has turned. -/
structure TurnedAt (w w' : World) (b : Nat) (q : Obj) : Prop where
  here : w'.heap[b]? = some q
  other : ∀ k, k ≠ b → w'.heap[k]? = w.heap[k]?
  size : w'.heap.size = w.heap.size
  os : w'.os = w.os
  tape : w'.tape = w.tape
  output : w'.output = w.output

theorem TurnedAt.row {b : Nat} {arr arr' : Array Value} {T : TypeId} (h : w.heap[b]? = some (.cells arr T (0, 0))) : TurnedAt w (w.setRow b arr') b (.cells arr' T (0, 0)) :=
  ⟨setRow_heap w b arr arr' T (0, 0) h, fun k hk => setRow_other w b k arr' hk, setRow_size w b arr', rfl, rfl, rfl⟩

/-- An object turns where it lies. -/
theorem Rel.setRawAt (hr : Rel P σ ρ S w) {id b c : Nat} {r r' : Raw} {q : Obj} (hb : σ[id]? = some (.raw r)) (hid : ρ[id]? = some (some (b, c))) (ht : TurnedAt w w' b q)
    (hk : r'.kind = r.kind) (hz : r.size ≤ r'.size) (hok : RawOk P σ ρ S w c r' q) :
    Rel P (σ.set id (.raw r')) ρ S w' ∧ Ext σ ρ S w (σ.set id (.raw r')) ρ S w' := by
  have hnS : ∀ o, ¬ S b o := by
    obtain ⟨b', c', _, h1, _, _, h4⟩ := hr.raw id r hb
    rw [hid] at h1; injection h1 with h1; injection h1 with h1; injection h1 with h1 h1'
    subst h1; exact h4
  have hidlt : id < σ.length := (List.getElem?_eq_some_iff.1 hb).1
  have hcellS : ∀ b' o', S b' o' → w'.cell? ⟨b', o', none⟩ = w.cell? ⟨b', o', none⟩ := fun b' o' h =>
    cell_of_heap (ht.other b' (by rintro rfl; exact hnS _ h))
  have hkeep : ∀ (i : Nat) (q : Ob), σ[i]? = some q → (∀ r, q ≠ .raw r) → (σ.set id (.raw r'))[i]? = some q := fun i q h hq => by
    rw [List.getElem?_set_ne (by rintro rfl; rw [hb] at h; injection h with h; exact hq r h.symm)]; exact h
  have he : Ext σ ρ S w (σ.set id (.raw r')) ρ S w' := by
    refine ⟨fun b' o' h => ⟨h, hcellS b' o' h⟩, fun i ds h => ⟨⟨ds, hkeep i _ h (by simp)⟩, rfl⟩, fun i t m h => .inl ⟨m, Nat.le_refl _, hkeep i _ h (by simp), fun _ => rfl⟩, fun i q' h => ?_, fun i h => hkeep i _ h (by simp), fun k hk hn => ht.other k ?_, fun i b c h => .inr ⟨i, c, h⟩, fun _ _ h => .inl h, by rw [ht.size]; exact Nat.le_refl _, ht.os, ht.tape, ht.output⟩
    · by_cases e : i = id
      · subst e
        rw [hb] at h; injection h with h; injection h with h; subst h
        exact .inl ⟨r', hk, hz, by simp [hidlt], fun _ => rfl⟩
      · exact .inl ⟨q', rfl, Nat.le_refl _, by rw [List.getElem?_set_ne (fun e' => e e'.symm)]; exact h, fun _ => rfl⟩
    · rintro rfl; exact hn id c hid
  refine ⟨⟨by simp [hr.len], ?_, ?_, ?_, ?_, fun i b' c' h => by rw [ht.size]; exact hr.lt i b' c' h, hr.inj, ?_, hr.glob.mono he⟩, he⟩
  · intro i ds h
    rcases set_cases h with ⟨_, h, _⟩ | ⟨hne, h⟩
    · cases h
    · obtain ⟨b', c', arr0, T0, h1, h2, h3, h4, h5⟩ := hr.box i ds h
      have hbb : b' ≠ b := by rintro rfl; exact hne (hr.inj _ _ _ _ _ h1 hid)
      exact ⟨b', c', arr0, T0, h1, (ht.other b' hbb).trans h2, h3, fun j v hj => let ⟨h6, x, h7, h8⟩ := h4 j v hj; ⟨h6, x, h7, h8.mono he⟩, h5⟩
  · intro i et n b' c' h h'
    rcases set_cases h with ⟨_, h, _⟩ | ⟨hne, h⟩
    · cases h
    · obtain ⟨arr0, T0, fs, h1, h2⟩ := hr.vec i et n b' c' h h'
      have hbb : b' ≠ b := by rintro rfl; exact hne (hr.inj _ _ _ _ _ h' hid)
      exact ⟨arr0, T0, fs, (ht.other b' hbb).trans h1, h2⟩
  · intro i q' h
    rcases set_cases h with ⟨rfl, h, _⟩ | ⟨hne, h⟩
    · injection h with h; subst h
      exact ⟨b, c, q, hid, ht.here, hok.mono he, hnS⟩
    · obtain ⟨b', c', o', h1, h2, h3, h4⟩ := hr.raw i q' h
      have hbb : b' ≠ b := by rintro rfl; exact hne (hr.inj _ _ _ _ _ h1 hid)
      exact ⟨b', c', o', h1, (ht.other b' hbb).trans h2, h3.mono he, h4⟩
  · intro i h
    rcases set_cases h with ⟨_, h, _⟩ | ⟨_, h⟩
    · cases h
    · exact hr.hole i h
  · intro b' o' h
    obtain ⟨v, hv⟩ := hr.cells b' o' h
    exact ⟨v, by rw [hcellS b' o' h]; exact hv⟩

/-- An object lies in a row that has just been made: one that moves there, or a new one. -/
theorem Rel.layRaw (hr : Rel P σ ρ S w) {id c : Nat} {r' : Raw} (hv : (∃ r, σ[id]? = some (.raw r) ∧ r'.kind = r.kind ∧ r.size < r'.size) ∨ σ[id]? = some .hole) {arr : Array Value} {T : TypeId} (hn : NewBlock w w' arr T)
    (hok : RawOk P σ ρ S w c r' (.cells arr T (0, 0))) :
    Rel P (σ.set id (.raw r')) (ρ.set id (some (w.heap.size, c))) S w' ∧ Ext σ ρ S w (σ.set id (.raw r')) (ρ.set id (some (w.heap.size, c))) S w' := by
  have hid : id < σ.length := by rcases hv with ⟨_, hv, _⟩ | hv <;> exact (List.getElem?_eq_some_iff.1 hv).1
  have hidr : id < ρ.length := by rw [hr.len]; exact hid
  have hself : (ρ.set id (some (w.heap.size, c)))[id]? = some (some (w.heap.size, c)) := by rw [List.getElem?_set, if_pos rfl, if_pos hidr]
  have hneo : ∀ {i : Nat} {q : Ob}, σ[i]? = some q → q ≠ .hole → (∀ r, q ≠ .raw r) → id ≠ i := fun {i q} h h1 h2 => by
    rintro rfl
    rcases hv with ⟨r, hv, _⟩ | hv <;> rw [hv] at h <;> injection h with h
    · exact h2 _ h.symm
    · exact h1 h.symm
  have hnoS : ∀ o', ¬ S w.heap.size o' := fun o' hS => by
    obtain ⟨v, hv⟩ := hr.cells _ _ hS
    have := cell_lt hv
    omega
  have hcS : ∀ b o, S b o → w'.cell? ⟨b, o, none⟩ = w.cell? ⟨b, o, none⟩ := fun b o h => by
    obtain ⟨v, hv⟩ := hr.cells b o h
    exact cell_of_heap (hn.old (cell_lt hv))
  have he : Ext σ ρ S w (σ.set id (.raw r')) (ρ.set id (some (w.heap.size, c))) S w' := by
    refine ⟨fun b o h => ⟨h, hcS b o h⟩, fun i cs h => ?_, fun i t m h => .inl ?_, fun i r h => .inl ?_, fun i h => ?_, fun b hb _ => hn.old hb, ?_, fun _ _ h => .inl h, by rw [hn.size]; omega, hn.os, hn.tape, hn.output⟩
    · have hne : id ≠ i := hneo h (by simp) (by simp)
      exact ⟨⟨cs, by rw [List.getElem?_set_ne hne]; exact h⟩, by rw [List.getElem?_set_ne hne]⟩
    · have hne : id ≠ i := hneo h (by simp) (by simp)
      exact ⟨m, Nat.le_refl _, by rw [List.getElem?_set_ne hne]; exact h, fun _ => by rw [List.getElem?_set_ne hne]⟩
    · by_cases hne : id = i
      · subst hne
        rcases hv with ⟨r0, hv, hk, h0⟩ | hv
        · rw [hv] at h; injection h with h; injection h with h; subst h
          exact ⟨r', hk, by omega, by simp [hid], fun e => by omega⟩
        · rw [hv] at h; cases h
      · exact ⟨r, rfl, Nat.le_refl _, by rw [List.getElem?_set_ne hne]; exact h, fun _ => by rw [List.getElem?_set_ne hne]⟩
    · rw [List.getElem?_set_ne (hneo h (by simp) (by simp))]; exact h
    · intro i b c' h
      rcases set_cases h with ⟨_, h, _⟩ | ⟨_, h⟩
      · injection h with h; injection h with h1 h2; exact .inl (by omega)
      · exact .inr ⟨i, c', h⟩
  refine ⟨⟨by simp [hr.len], ?_, ?_, ?_, ?_, ?_, ?_, ?_, hr.glob.mono he⟩, he⟩
  · intro i cs h
    rcases set_cases h with ⟨_, h, _⟩ | ⟨hne, h⟩
    · cases h
    · obtain ⟨b, c', arr', T', h1, h2, h3, h4, h5⟩ := hr.box i cs h
      exact ⟨b, c', arr', T', by rw [List.getElem?_set_ne (fun e => hne e.symm)]; exact h1, (hn.old (heap_lt h2)).trans h2, h3, fun j v hj => let ⟨h6, x, h7, h8⟩ := h4 j v hj; ⟨h6, x, h7, h8.mono he⟩, h5⟩
  · intro i et n b c' h h'
    rcases set_cases h with ⟨_, h, _⟩ | ⟨hne, h⟩
    · cases h
    · rw [List.getElem?_set_ne (fun e => hne e.symm)] at h'
      obtain ⟨arr', T', fs, h1, h2⟩ := hr.vec i et n b c' h h'
      exact ⟨arr', T', fs, (hn.old (heap_lt h1)).trans h1, h2⟩
  · intro i r h
    rcases set_cases h with ⟨rfl, h, _⟩ | ⟨hne, h⟩
    · injection h with h; subst h
      exact ⟨w.heap.size, c, _, hself, hn.new, hok.mono he, hnoS⟩
    · obtain ⟨b, c', o', h1, h2, h3, h4⟩ := hr.raw i r h
      exact ⟨b, c', o', by rw [List.getElem?_set_ne (fun e => hne e.symm)]; exact h1, (hn.old (heap_lt h2)).trans h2, h3.mono he, h4⟩
  · intro i h
    rcases set_cases h with ⟨_, h, _⟩ | ⟨hne, h⟩
    · cases h
    · rw [List.getElem?_set_ne (fun e => hne e.symm)]; exact hr.hole i h
  · intro i b c' h
    rcases set_cases h with ⟨_, h, _⟩ | ⟨_, h⟩
    · injection h with h; injection h with h1 h2; subst h1; rw [hn.size]; omega
    · have := hr.lt i b c' h; rw [hn.size]; omega
  · intro i j b c1 c2 h h'
    rcases set_cases h with ⟨h0, h, _⟩ | ⟨_, h⟩ <;> rcases set_cases h' with ⟨h0', h', _⟩ | ⟨_, h'⟩
    · omega
    · injection h with h; injection h with h1 h2
      have := hr.lt j b c2 h'
      omega
    · injection h' with h'; injection h' with h1 h2
      have := hr.lt i b c1 h
      omega
    · exact hr.inj i j b c1 c2 h h'
  · intro b o' h
    obtain ⟨v, hv⟩ := hr.cells b o' h
    exact ⟨v, by rw [hcS b o' h]; exact hv⟩

/-! ### What lies over the cells -/

theorem ovAt_none {i j : Nat} : ∀ {ov : List (Nat × Nat × AV)}, (∀ p ∈ ov, p.1 ≠ i ∨ p.2.1 ≠ j) → ovAt ov i j = none
  | [], _ => rfl
  | (i0, j0, a) :: r, h => by
    have h1 := h _ (List.mem_cons_self ..)
    have h2 : ovAt r i j = none := ovAt_none fun p hp => h p (List.mem_cons_of_mem _ hp)
    unfold ovAt
    rw [h2]
    rcases h1 with h1 | h1
    · have : (i0 == i) = false := by simpa using h1
      rw [this]; cases (j0 == j) <;> rfl
    · have : (j0 == j) = false := by simpa using h1
      rw [this]; rfl

theorem ovAt_append {i j : Nat} : ∀ {u v : List (Nat × Nat × AV)}, ovAt (u ++ v) i j = match ovAt u i j with | some a => some a | none => ovAt v i j
  | [], v => rfl
  | (i0, j0, a) :: r, v => by
    have ih := ovAt_append (i := i) (j := j) (u := r) (v := v)
    simp only [List.cons_append, ovAt]
    rw [ih]
    cases (j0 == j) <;> cases (i0 == i) <;> rfl

theorem ovAt_mem {i j : Nat} {a : AV} : ∀ {ov : List (Nat × Nat × AV)}, ovAt ov i j = some a → (i, j, a) ∈ ov
  | [], h => by cases h
  | (i0, j0, b) :: r, h => by
    unfold ovAt at h
    cases hj : (j0 == j) <;> rw [hj] at h
    · exact List.mem_cons_of_mem _ (ovAt_mem h)
    · cases hi : (i0 == i) <;> rw [hi] at h
      · exact List.mem_cons_of_mem _ (ovAt_mem h)
      · injection h with h; subst h
        simp at hj hi; subst hj; subst hi
        exact List.mem_cons_self ..

theorem ovAt_shift {n i j : Nat} : ∀ {ov : List (Nat × Nat × AV)}, ovAt (ovShift n ov) (n + i) j = ovAt ov i j
  | [] => rfl
  | (i0, j0, a) :: r => by
    have ih := ovAt_shift (n := n) (i := i) (j := j) (ov := r)
    unfold ovShift at ih ⊢
    simp only [List.map_cons, ovAt]
    rw [ih]
    have : (n + i0 == n + i) = (i0 == i) := by rw [Bool.eq_iff_iff]; simp
    rw [this]

theorem ovAt_shift_lt {n i j : Nat} {ov : List (Nat × Nat × AV)} (h : i < n) : ovAt (ovShift n ov) i j = none := by
  refine ovAt_none fun p hp => .inl ?_
  unfold ovShift at hp
  obtain ⟨q, _, rfl⟩ := List.mem_map.1 hp
  show n + q.1 ≠ i
  omega

theorem ovAt_piece {off len i j : Nat} (hi : i < len) : ∀ {ov : List (Nat × Nat × AV)}, ovAt (ovPiece ov off len) i j = ovAt ov (off + i) j
  | [] => rfl
  | (i0, j0, a) :: r => by
    have ih := ovAt_piece (off := off) (len := len) (i := i) (j := j) hi (ov := r)
    unfold ovPiece at ih ⊢
    simp only [List.filter_cons]
    split
    · rename_i hc
      simp at hc
      simp only [List.map_cons, ovAt]
      rw [ih]
      have : (i0 - off == i) = (i0 == off + i) := by rw [Bool.eq_iff_iff]; simp; omega
      rw [this]
    · rename_i hc
      rw [ih]
      have : (i0 == off + i) = false := by
        simp at hc ⊢
        intro e; have := hc (by omega); omega
      simp only [ovAt]
      rw [this]
      cases (j0 == j) <;> rfl
end
end Go.Den

/- Arrays whose elements may be written: reading, addresses, pieces. -/
namespace Go.Den
open Go

section
variable {P : Program} {σ : Heap} {ρ : Gr} {S : Cells} {w w' : World} {fr : Fr} {a : Act} {o : Oper}

/-- An array as it lies in memory. -/
structure ArrIn (P : Program) (σ : Heap) (ρ : Gr) (S : Cells) (w : World) (id : Nat) (et : TypeId) (xs : List E) (ov : List (Nat × Nat × AV)) (b c : Nat) (arr : Array Value) (fs : List TypeId) : Prop where
  at_ : ρ[id]? = some (some (b, c))
  heap : w.heap[b]? = some (.cells arr et (0, 0))
  hfs : flat P depth et = some fs
  h0 : fs.length ≠ 0
  hc : xs.length ≤ c
  hs : c * fs.length ≤ arr.size
  hov : ∀ p ∈ ov, p.1 < xs.length
  hlen : ∀ (i : Nat) (y : E), xs[i]? = some y → y.cells.length = fs.length
  hok : ∀ (i : Nat) (y : E) (j : Nat) (ct : TypeId) (x : E), xs[i]? = some y → fs[j]? = some ct → y.cells[j]? = some x → ovAt ov i j = none → okCell P ct x = true
  hE : ∀ (i : Nat) (y : E) (j : Nat) (x : E), xs[i]? = some y → y.cells[j]? = some x → ∃ v, arr[i * fs.length + j]? = some v ∧ CellOk P σ ρ S w (ovAt ov i j) x v
  noS : ∀ o, ¬ S b o

theorem Rel.arrIn (hr : Rel P σ ρ S w) {id : Nat} {et : TypeId} {xs : List E} {ov : List (Nat × Nat × AV)} (hb : σ[id]? = some (.raw (.arr et xs ov))) : ∃ b c arr fs, ArrIn P σ ρ S w id et xs ov b c arr fs := by
  obtain ⟨b, c, q, h1, h2, ⟨arr, fs, rfl, h3, h4, h5, h6, h7, h8, h9, h10⟩, h11⟩ := hr.raw id _ hb
  exact ⟨b, c, arr, fs, h1, h2, h3, h4, h5, h6, h7, h8, h9, h10, h11⟩

theorem ArrIn.raw {id : Nat} {et : TypeId} {xs : List E} {ov : List (Nat × Nat × AV)} {b c : Nat} {arr : Array Value} {fs : List TypeId} (h : ArrIn P σ ρ S w id et xs ov b c arr fs) :
    RawOk P σ ρ S w c (.arr et xs ov) (.cells arr et (0, 0)) := ⟨arr, fs, rfl, h.hfs, h.h0, h.hc, h.hs, h.hov, h.hlen, h.hok, h.hE⟩

/-- A place in such an array that has not grown since. -/
theorem mv_at (hr : Rel P σ ρ S w) {id n off len : Nat} {et : TypeId} {xs : List E} {ov : List (Nat × Nat × AV)} {cv : Value} (hv : VA1 P σ ρ S w (.mv id et n off len) cv) (hb : σ[id]? = some (.raw (.arr et xs ov))) (hn : n = xs.length) :
    ∃ b c arr fs o, ArrIn P σ ρ S w id et xs ov b c arr fs ∧ cv = .slice (some ⟨b, o, none⟩) len (c - off) ∧ (c - off ≠ 0 → o = off * fs.length) ∧ off + len ≤ n ∧ n ≤ c := by
  obtain ⟨b, o, c, fs, h1, ⟨hfs, hlc⟩, ⟨xs', ov', h2, h3, h4⟩ | h2⟩ := hv
  · rw [hb] at h2; injection h2 with h2; injection h2 with h2; injection h2 with _ h2 h2'; subst h2; subst h2'
    obtain ⟨c0, h5, h6, h7, h8⟩ := h4 hn
    obtain ⟨b1, c1, arr, fs1, ha⟩ := hr.arrIn hb
    have e := ha.at_
    rw [h5] at e; injection e with e; injection e with e; injection e with e1 e2; subst e1; subst e2
    have e := ha.hfs
    rw [hfs] at e; injection e with e; subst e
    subst h7
    exact ⟨b, c0, arr, fs, o, ha, h1, h6, h8, by rw [hn]; exact ha.hc⟩
  · rw [hb] at h2; cases h2

theorem op_indexAddr_mv (hr : Rel P σ ρ S w) (hf : FR P σ ρ S w fr a.tmps) {t et : TypeId} {x i : Operand} {id n off len : Nat} {k : IntKind} {m : Int} (h : o.op = .indexAddr t x i) (ht : P.underlying t = some (.slice et))
    (hx : evalO fr x = some (.mv id et n off len)) (hi : evalO fr i = some (.e (.int k m))) (hsz : (flat P depth et).map List.length = sizeB P et) (h0 : 0 ≤ m) (h1 : m < len) :
    OpOk P σ ρ S w a o (.eptr id n (off + m.toNat) 0) σ := by
  have hv : VA1 P σ ρ S w (.mv id et n off len) (a.eval x) := evalO_ok hf hx
  have hv' := hv
  obtain ⟨b, o', c, fs, e, ⟨hfs, hlc⟩, hd⟩ := hv'
  rw [hfs] at hsz
  refine OpOk.pure hr (run_indexAddr h ht e (VA3_int (evalO_ok hf hi)) hsz.symm h0 h1) ⟨b, o' + m.toNat * fs.length, rfl, ?_⟩
  rcases hd with ⟨xs, ov, h2, h3, h4⟩ | h2
  · refine .inl ⟨et, xs, ov, fs, h2, hfs, h3, fun hn => ?_⟩
    obtain ⟨c0, h5, h6, h7, h8⟩ := h4 hn
    obtain ⟨b1, c1, arr, fs1, ha⟩ := hr.arrIn h2
    have e' := ha.at_
    rw [h5] at e'; injection e' with e'; injection e' with e'; injection e' with e1 e2; subst e2
    have := ha.hc
    refine ⟨c0, h5, ?_, by omega⟩
    rw [h6 (by omega), Nat.add_mul]
    rfl
  · exact .inr h2

theorem op_fieldAddr_eptr (hr : Rel P σ ρ S w) (hf : FR P σ ρ S w fr a.tmps) {s : TypeId} {x : Operand} {fs : Array Field} {f : Field} {i id n i' j m : Nat} (h : o.op = .fieldAddr s x i) (hs : P.underlying s = some (.struct fs))
    (hfi : fs[i]? = some f) (hn : sizeB P f.type = some m) (h0 : m ≠ 0) (hx : evalO fr x = some (.eptr id n i' j)) : OpOk P σ ρ S w a o (.eptr id n i' (j + f.offset)) σ := by
  have hv : VA1 P σ ρ S w (.eptr id n i' j) (a.eval x) := evalO_ok hf hx
  obtain ⟨b, o', e, hd⟩ := hv
  refine OpOk.pure hr (run_fieldAddr h hs hfi hn h0 e) ⟨b, o' + f.offset, rfl, ?_⟩
  rcases hd with ⟨et, xs, ov, fs', h2, hfs, h3, h4⟩ | h2
  · refine .inl ⟨et, xs, ov, fs', h2, hfs, h3, fun hn => ?_⟩
    obtain ⟨c0, h5, h6, h7⟩ := h4 hn
    exact ⟨c0, h5, by omega, h7⟩
  · exact .inr h2

theorem op_nilCheck_eptr (hr : Rel P σ ρ S w) (hf : FR P σ ρ S w fr a.tmps) {x : Operand} {id n i j : Nat} (h : o.op = .nilCheck x) (hx : evalO fr x = some (.eptr id n i j)) : OpOk P σ ρ S w a o (.eptr id n i j) σ := by
  have hv : VA1 P σ ρ S w (.eptr id n i j) (a.eval x) := evalO_ok hf hx
  have hv' := hv
  obtain ⟨b, o', e, hd⟩ := hv'
  exact OpOk.pure hr (run_nilCheck h rfl e) hv

theorem op_len_mv (hr : Rel P σ ρ S w) (hf : FR P σ ρ S w fr a.tmps) {args : Array Operand} {ats : Array TypeId} {id n off len : Nat} {et et' : TypeId} (h : o.op = .call { callee := .builtin .len, args := args, argTypes := ats })
    (hx : args.toList.map (evalO fr) = [some (.mv id et n off len)]) (ht : (ats[0]?).bind P.underlying = some (.slice et')) : OpOk P σ ρ S w a o (.e (.int .i64 len)) σ := by
  obtain ⟨t, ht1, ht2⟩ := Option.bind_eq_some_iff.1 ht
  obtain ⟨x, rfl, hx'⟩ := args_one hx
  have hv : VA1 P σ ρ S w (.mv id et n off len) (a.eval x) := evalO_ok hf hx'
  obtain ⟨b, o', c, fs, e, _⟩ := hv
  exact OpOk.pure hr (run_len h (by simpa using len_sl ht1 ht2 e)) (VE.int _ _)

theorem le_piece {off len n l h : Nat} (h8 : off + len ≤ n) (h1 : l ≤ h) (h2 : h ≤ len) : off + l + (h - l) ≤ n := by omega

theorem sub_piece {c l c0 off : Nat} (h : c = c0 - off) : c - l = c0 - (off + l) := by omega
theorem sub_pos {c l : Nat} (h : c - l ≠ 0) : c ≠ 0 := by omega

theorem op_slice_mv (hr : Rel P σ ρ S w) (hf : FR P σ ρ S w fr a.tmps) {t et : TypeId} {x : Operand} {lo hi : Option Operand} {id n off len : Nat} {l h : Int} (hop : o.op = .slice t x lo hi none) (ht : P.underlying t = some (.slice et))
    (hx : evalO fr x = some (.mv id et n off len)) (hsz : (flat P depth et).map List.length = sizeB P et) (hl : sliceL fr lo = some l) (hh : sliceH fr len hi = some h) (h0 : 0 ≤ l) (h1 : l ≤ h) (h2 : h ≤ len) :
    OpOk P σ ρ S w a o (.mv id et n (off + l.toNat) (h.toNat - l.toNat)) σ := by
  have hv : VA1 P σ ρ S w (.mv id et n off len) (a.eval x) := evalO_ok hf hx
  obtain ⟨b, o', c, fs, e, ⟨hfs, hc⟩, hd⟩ := hv
  rw [hfs] at hsz
  refine OpOk.pure hr (run_slice_sl hop ht e (run_sizeOf hsz.symm) (sliceL_ok hf hl) (sliceH_ok hf hh) h0 h1 h2 hc) ?_
  have q1 : l.toNat ≤ h.toNat := Int.toNat_le_toNat h1
  have q2 : h.toNat ≤ len := by omega
  by_cases hcl : c = l.toNat
  · rw [if_pos hcl]
    refine ⟨b, o', c - l.toNat, fs, rfl, ⟨hfs, Nat.sub_le_sub_right (Nat.le_trans q2 hc) _⟩, ?_⟩
    rcases hd with ⟨xs, ov, h2, h3, h4⟩ | h2
    · refine .inl ⟨xs, ov, h2, h3, fun hn => ?_⟩
      obtain ⟨c0, h5, h6, h7, h8⟩ := h4 hn
      exact ⟨c0, h5, (fun e => absurd (by rw [hcl, Nat.sub_self]) e), sub_piece h7, le_piece h8 q1 q2⟩
    · exact .inr h2
  · rw [if_neg hcl]
    refine ⟨b, o' + l.toNat * fs.length, c - l.toNat, fs, by simp [add_at], ⟨hfs, Nat.sub_le_sub_right (Nat.le_trans q2 hc) _⟩, ?_⟩
    rcases hd with ⟨xs, ov, h2, h3, h4⟩ | h2
    · refine .inl ⟨xs, ov, h2, h3, fun hn => ?_⟩
      obtain ⟨c0, h5, h6, h7, h8⟩ := h4 hn
      exact ⟨c0, h5, (fun e => by rw [h6 (sub_pos e), Nat.add_mul]), sub_piece h7, le_piece h8 q1 q2⟩
    · exact .inr h2

/-- A full piece of a slice. -/
theorem run_slice3 {ev : Operand → Value} {x mx : Operand} {t et : TypeId} {lo hi : Option Operand} {A : Option Addr} {n c sz : Nat} {km : IntKind} {l h m : Int} (hop : o.op = .slice t x lo hi (some mx)) (ht : P.underlying t = some (.slice et)) (e : ev x = .slice A n c)
    (hs : (sizeOf et).run P w = .ok sz w) (hl : BL ev lo l) (hh : BH ev hi n h) (hhi : hi.isSome = true) (hm : ev mx = .int km m) (h0 : 0 ≤ l) (h1 : l ≤ h) (h2 : h ≤ m) (h3 : m ≤ n) (h4 : n ≤ c) :
    (execOp ev o).run P w = .ok (.value (.slice (if m.toNat = l.toNat then A else A.map (·.add (l.toNat * sz))) (h.toNat - l.toNat) (m.toNat - l.toNat))) w := by
  have h5 : l ≤ ((h.toNat : Nat) : Int) := by omega
  have h6 : h ≤ ((m.toNat : Nat) : Int) := by omega
  have h7 : m ≤ (c : Int) := by omega
  rcases hl with ⟨rfl, rfl⟩ | ⟨x1, k1, rfl, ex⟩ <;> rcases hh with ⟨rfl, rfl⟩ | ⟨y1, k2, rfl, ey⟩
  · cases hhi
  · simp [execOp, hop, go_sem, Instr.sliceAt, Instr.slice, run_underlying ht, e, bound_ok hm (by omega) h7, bound_ok ey (by omega) h6, hs]
  · cases hhi
  · simp [execOp, hop, go_sem, Instr.sliceAt, Instr.slice, run_underlying ht, e, bound_ok hm (by omega) h7, bound_ok ey (by omega) h6, bound_ok ex h0 h5, hs]

theorem op_slice3_nil (hr : Rel P σ ρ S w) (hf : FR P σ ρ S w fr a.tmps) {t et : TypeId} {x mx : Operand} {lo hi : Option Operand} {v : AV} {xs : List E} {km : IntKind} {l h : Int} (hop : o.op = .slice t x lo hi (some mx)) (ht : P.underlying t = some (.slice et))
    (hx : evalO fr x = some v) (hv : v.seal1 = some (.sl et xs)) (hsz : (flat P depth et).map List.length = sizeB P et) (hl : sliceL fr lo = some l) (hh : sliceH fr xs.length hi = some h) (hhi : hi.isSome = true) (hm : evalO fr mx = some (.e (.int km 0))) (h0 : l = 0) (h1 : h = 0) :
    OpOk P σ ρ S w a o (.nilc et) σ := by
  subst h0; subst h1
  have hve := seal1_3 hv (evalO_ok hf hx)
  obtain ⟨A, c, fs, b, o', f, e, hfs, hc, _⟩ := VE_sl_inv hve
  rw [hfs] at hsz
  have := run_slice3 (w := w) hop ht e (run_sizeOf hsz.symm) (sliceL_ok hf hl) (sliceH_ok hf hh) hhi (VA3_int (evalO_ok hf hm)) (by omega) (by omega) (by omega) (by omega) hc
  exact OpOk.pure hr this ⟨⟨_, rfl⟩, fs, hfs⟩

theorem op_slice3 (hr : Rel P σ ρ S w) (hf : FR P σ ρ S w fr a.tmps) {t et : TypeId} {x mx : Operand} {lo hi : Option Operand} {v : AV} {xs : List E} {km : IntKind} {l h m : Int} (hop : o.op = .slice t x lo hi (some mx)) (ht : P.underlying t = some (.slice et))
    (hx : evalO fr x = some v) (hv : v.seal1 = some (.sl et xs)) (hsz : (flat P depth et).map List.length = sizeB P et) (hl : sliceL fr lo = some l) (hh : sliceH fr xs.length hi = some h) (hhi : hi.isSome = true) (hm : evalO fr mx = some (.e (.int km m)))
    (h0 : 0 ≤ l) (h1 : l ≤ h) (h2 : h ≤ m) (h3 : m ≤ xs.length) :
    OpOk P σ ρ S w a o (.e (.sl et ((xs.take h.toNat).drop l.toNat))) σ := by
  have hve := seal1_3 hv (evalO_ok hf hx)
  obtain ⟨A, c, fs, b, o', f, e, hfs, hc, _⟩ := VE_sl_inv hve
  rw [hfs] at hsz
  have := run_slice3 (w := w) hop ht e (run_sizeOf hsz.symm) (sliceL_ok hf hl) (sliceH_ok hf hh) hhi (VA3_int (evalO_ok hf hm)) h0 h1 h2 h3 hc
  refine OpOk.pure hr this ?_
  rw [e] at hve
  have hlen : ((xs.take h.toNat).drop l.toNat).length = h.toNat - l.toNat := by simp; omega
  by_cases hml : m.toNat = l.toNat
  · rw [if_pos hml]
    have hnil : (xs.take h.toNat).drop l.toNat = [] := List.eq_nil_of_length_eq_zero (by rw [hlen]; omega)
    have h8 : h.toNat - l.toNat = 0 := by omega
    rw [hnil, h8]
    exact VE.nilSlice hfs _ _
  · rw [if_neg hml]
    have h9 := VE_piece hve hfs l.toNat h.toNat (by omega) (by omega)
    rw [if_neg (by omega)] at h9
    obtain ⟨A', c', fs', b', o2, f', e', hfs', hc', hlen', hok', hA', hE'⟩ := VE_sl_inv h9
    injection e' with e1 e2 e3
    rw [e2]
    exact VE.sl et _ _ _ fs' b' o2 f' hfs' (by omega) hlen' hok' (by rw [e1]; exact hA') hE'
end
end Go.Den

/- Arrays whose elements may be written: elements read and written. -/
namespace Go.Den
open Go

section
variable {P : Program} {σ : Heap} {ρ : Gr} {S : Cells} {w w' : World} {fr : Fr} {a : Act} {o : Oper}

theorem eptr_at (hr : Rel P σ ρ S w) {id n i j : Nat} {et : TypeId} {xs : List E} {ov : List (Nat × Nat × AV)} {cv : Value} (hv : VA1 P σ ρ S w (.eptr id n i j) cv) (hb : σ[id]? = some (.raw (.arr et xs ov))) (hn : n = xs.length) :
    ∃ b c arr fs, ArrIn P σ ρ S w id et xs ov b c arr fs ∧ cv = .pointer (some ⟨b, i * fs.length + j, none⟩) ∧ i < n := by
  obtain ⟨b, o, h1, ⟨et', xs', ov', fs, h2, hfs, h3, h4⟩ | h2⟩ := hv
  · rw [hb] at h2; injection h2 with h2; injection h2 with h2; injection h2 with h2a h2 h2'; subst h2a; subst h2; subst h2'
    obtain ⟨c0, h5, h6, h7⟩ := h4 hn
    obtain ⟨b1, c1, arr, fs1, ha⟩ := hr.arrIn hb
    have e := ha.at_
    rw [h5] at e; injection e with e; injection e with e; injection e with e1 e2; subst e1; subst e2
    have e := ha.hfs
    rw [hfs] at e; injection e with e; subst e
    subst h6
    exact ⟨b, c0, arr, fs, ha, h1, h7⟩
  · rw [hb] at h2; cases h2

/-- A type's place in an element. -/
structure FitIn (P : Program) (t : TypeId) (fs : List TypeId) (j : Nat) (l : List (TypeId × Nat)) (ft : List TypeId) : Prop where
  hft : flat P depth t = some ft
  hsz : sizeB P t = some ft.length
  hl : l = ft.zipIdx.map fun p => (p.1, j + p.2)
  hle : j + ft.length ≤ fs.length ∨ ft = []
  hat : ∀ (k : Nat) (ct : TypeId), ft[k]? = some ct → fs[j + k]? = some ct

theorem fitA_inv {t et : TypeId} {j : Nat} {l : List (TypeId × Nat)} {fs : List TypeId} (hfs : flat P depth et = some fs) (h : fitA P t et j = some l) : ∃ ft, FitIn P t fs j l ft := by
  unfold fitA at h
  rw [hfs] at h
  split at h
  · rename_i fe ft hfe hft
    injection hfe with hfe; subst hfe
    split at h
    · rename_i hc
      injection h with h
      have hat : ∀ (k : Nat) (ct : TypeId), ft[k]? = some ct → fs[j + k]? = some ct := by
        intro k ct hk
        rw [← hc.1, List.getElem?_take] at hk
        split at hk
        · rwa [List.getElem?_drop] at hk
        · cases hk
      refine ⟨ft, hft, hc.2, h.symm, ?_, hat⟩
      cases ft with
      | nil => exact .inr rfl
      | cons c ft =>
        left
        have h1 := congrArg List.length hc.1
        simp at h1
        simp only [List.length_cons]
        omega
    · cases h
  · cases h

theorem FitIn.len {t : TypeId} {fs : List TypeId} {j : Nat} {l : List (TypeId × Nat)} {ft : List TypeId} (h : FitIn P t fs j l ft) : l.length = ft.length := by rw [h.hl]; simp
theorem FitIn.get {t : TypeId} {fs : List TypeId} {j : Nat} {l : List (TypeId × Nat)} {ft : List TypeId} (h : FitIn P t fs j l ft) {k : Nat} {p : TypeId × Nat} (hk : l[k]? = some p) : ft[k]? = some p.1 ∧ p.2 = j + k := by
  rw [h.hl, List.getElem?_map, List.getElem?_zipIdx] at hk
  cases hf : ft[k]? with
  | none => rw [hf] at hk; cases hk
  | some ct => rw [hf] at hk; simp at hk; subst hk; exact ⟨rfl, rfl⟩

/-- A cell of an element. -/
theorem ArrIn.cell {id : Nat} {et : TypeId} {xs : List E} {ov : List (Nat × Nat × AV)} {b c : Nat} {arr : Array Value} {fs : List TypeId} (ha : ArrIn P σ ρ S w id et xs ov b c arr fs)
    {i j : Nat} {ct : TypeId} {u : AV} (hi : i < xs.length) (hj : fs[j]? = some ct) (hu : cellA P ov (xs.getD i .nili) i (ct, j) = some u) :
    u.one = true ∧ ∃ v, w.cell? ⟨b, i * fs.length + j, none⟩ = some v ∧ VA1 P σ ρ S w u v := by
  have hy := List.getElem?_eq_getElem hi
  have hg : xs.getD i .nili = xs[i] := by simp [List.getD_eq_getElem?_getD, hy]
  rw [hg] at hu
  have hl := ha.hlen i _ hy
  have hjl : j < fs.length := (List.getElem?_eq_some_iff.1 hj).1
  have hx : xs[i].cells[j]? = some (xs[i].cells[j]'(by omega)) := List.getElem?_eq_getElem _
  obtain ⟨v, hv, hc⟩ := ha.hE i _ j _ hy hx
  have hcell : w.cell? ⟨b, i * fs.length + j, none⟩ = some v := by rw [cell_of_row w b _ arr et (0, 0) ha.heap]; exact hv
  unfold cellA at hu
  split at hu
  · rename_i a' he
    injection hu with hu; subst hu
    have he : ovAt ov i j = some a' := he
    rw [he] at hc
    exact ⟨hc.1, v, hcell, hc.2⟩
  · rename_i he
    have he : ovAt ov i j = none := he
    rw [he] at hc
    obtain ⟨x, hx', hu⟩ := Option.map_eq_some_iff.1 hu
    subst hu
    have hok := ha.hok i _ j ct _ hy hj hx he
    rw [E.cell_of hx] at hx'
    have := canon_ok hx' hok
    subst this
    exact ⟨okCell_one hok, v, hcell, hc⟩

theorem op_load_eptr (hr : Rel P σ ρ S w) (hf : FR P σ ρ S w fr a.tmps) {t et : TypeId} {x : Operand} {id n i j : Nat} {xs : List E} {ov : List (Nat × Nat × AV)} {v : AV} (h : o.op = .load t x) (hx : evalO fr x = some (.eptr id n i j))
    (hb : σ[id]? = some (.raw (.arr et xs ov))) (hn : n = xs.length) (hl : loadArr P t et xs ov i j = some v) : OpOk P σ ρ S w a o v σ := by
  obtain ⟨b, c, arr, fs, ha, e, hi⟩ := eptr_at hr (evalO_ok hf hx) hb hn
  have hi' : i < xs.length := by omega
  unfold loadArr at hl
  split at hl
  · rename_i l hfit
    obtain ⟨ft, F⟩ := fitA_inv ha.hfs hfit
    obtain ⟨cs, hcs, hw⟩ := Option.bind_eq_some_iff.1 hl
    obtain ⟨hlen, hget⟩ := mapM_some_get hcs
    have hln : cs.length = ft.length := by rw [hlen, F.len]
    have hcell : ∀ (k : Nat) (u : AV), cs[k]? = some u → u.one = true ∧ ∃ y, w.cell? ⟨b, i * fs.length + j + k, none⟩ = some y ∧ VA1 P σ ρ S w u y := by
      intro k u hk
      obtain ⟨p, hp, hpu⟩ := mapM_some_back hcs k u hk
      obtain ⟨f1, f2⟩ := F.get hp
      obtain ⟨ct, j'⟩ := p
      simp only at f1 f2
      subst f2
      have := ha.cell hi' (F.hat k ct f1) hpu
      rwa [← Nat.add_assoc] at this
    unfold wholeA at hw
    split at hw
    · rename_i hagg
      injection hw with hw; subst hw
      refine OpOk.pure hr (run_load_agg (vs := (List.range ft.length).map (fun k => (w.cell? ⟨b, i * fs.length + j + k, none⟩).getD undef)) h e (by rw [F.hsz]; simp) hagg ?_) ⟨_, rfl, by simp [hln], ?_⟩
      · intro k v hk
        obtain ⟨hk, rfl⟩ := map_range_get hk
        obtain ⟨_, y, hy, _⟩ := hcell k _ (List.getElem?_eq_getElem (by omega))
        rw [hy]; rfl
      · intro k v hk
        obtain ⟨h1, y, hy, h2⟩ := hcell k v hk
        have hkn : k < ft.length := by rw [← hln]; exact (List.getElem?_eq_some_iff.1 hk).1
        refine ⟨h1, y, ?_, h2⟩
        rw [List.getElem?_toArray, map_range_put _ hkn, hy]; rfl
    · rename_i hagg
      split at hw
      · rename_i u
        injection hw with hw; subst hw
        obtain ⟨_, y, hy, h2⟩ := hcell 0 _ rfl
        exact OpOk.pure hr (run_load_one h e F.hsz (by simpa using hagg) hy) h2.to3
      · cases hw
  · cases hl

theorem ovAt_zip_ne {i i' j' : Nat} (h : i' ≠ i) (ps : List ((TypeId × Nat) × AV)) : ovAt (ps.map fun p => (i, p.1.2, p.2)) i' j' = none :=
  ovAt_none fun p hp => by obtain ⟨q, _, rfl⟩ := List.mem_map.1 hp; exact .inl (Ne.symm h)

theorem ovAt_zip_out {i i' j j' : Nat} : ∀ (ft : List TypeId) (vs : List AV) (s : Nat), (j' < j + s ∨ j + s + ft.length ≤ j') → ovAt ((((ft.zipIdx s).map fun p => (p.1, j + p.2)).zip vs).map fun p => (i, p.1.2, p.2)) i' j' = none
  | [], _, _, _ => rfl
  | _ :: _, [], _, _ => rfl
  | ct :: ft, v :: vs, s, h => by
    simp only [List.zipIdx_cons, List.map_cons, List.zip_cons_cons, ovAt]
    have h1 : (j + s == j') = false := by simp; simp at h; omega
    rw [h1]
    exact ovAt_zip_out ft vs (s + 1) (by simp at h; omega)

theorem ovAt_zip_in {i j k : Nat} : ∀ (ft : List TypeId) (vs : List AV) (s : Nat), ft.length = vs.length → k < vs.length → ovAt ((((ft.zipIdx s).map fun p => (p.1, j + p.2)).zip vs).map fun p => (i, p.1.2, p.2)) i (j + s + k) = vs[k]?
  | [], [], _, _, h => by simp at h
  | ct :: ft, v :: vs, s, hl, h => by
    simp only [List.zipIdx_cons, List.map_cons, List.zip_cons_cons, ovAt]
    cases k with
    | zero => simp
    | succ k =>
      have h1 : (j + s == j + s + (k + 1)) = false := by simp
      rw [h1]
      have := ovAt_zip_in (i := i) (j := j) (k := k) ft vs (s + 1) (by simpa using hl) (by simpa using h)
      rw [show j + s + (k + 1) = j + (s + 1) + k by omega]
      simpa using this

theorem at_mul {i i' j j' m n : Nat} (hj : j < n) (hj' : j' + m ≤ n) (h : i' * n + j' ≤ i * n + j) (h2 : i * n + j < i' * n + j' + m) : i = i' := by
  rcases Nat.lt_trichotomy i i' with h3 | h3 | h3
  · have : (i + 1) * n ≤ i' * n := Nat.mul_le_mul_right _ h3
    rw [Nat.add_mul] at this; omega
  · exact h3
  · have : (i' + 1) * n ≤ i * n := Nat.mul_le_mul_right _ h3
    rw [Nat.add_mul] at this; omega

theorem splice_get {arr : Array Value} {off : Nat} {vs : List Value} (h : off + vs.length ≤ arr.size) (k : Nat) :
    ((arr.toList.take off ++ vs ++ arr.toList.drop (off + vs.length)).toArray)[k]? = if off ≤ k ∧ k < off + vs.length then vs[k - off]? else arr[k]? := by
  have hl : (arr.toList.take off).length = off := by rw [List.length_take, Array.length_toList]; omega
  rw [List.getElem?_toArray, List.append_assoc]
  rcases Nat.lt_or_ge k off with h1 | h1
  · rw [List.getElem?_append_left (by omega), List.getElem?_take, if_pos h1, if_neg (by omega), Array.getElem?_toList]
  · rw [List.getElem?_append_right (by omega), hl]
    rcases Nat.lt_or_ge k (off + vs.length) with h2 | h2
    · rw [List.getElem?_append_left (by omega), if_pos ⟨h1, h2⟩]
    · rw [List.getElem?_append_right (by omega), if_neg (by omega), List.getElem?_drop, Array.getElem?_toList]
      congr 1; omega

theorem splice_size {arr : Array Value} {off : Nat} {vs : List Value} (h : off + vs.length ≤ arr.size) :
    ((arr.toList.take off ++ vs ++ arr.toList.drop (off + vs.length)).toArray).size = arr.size := by
  simp; omega

theorem okCellsA_get {l : List (TypeId × Nat)} {vs : List AV} (h : okCellsA P l vs = true) {k : Nat} {p : TypeId × Nat} {v : AV} (hp : l[k]? = some p) (hv : vs[k]? = some v) : ∃ x, v = .e x ∧ okCell P p.1 x = true := by
  unfold okCellsA at h
  have := List.all_eq_true.1 h (p, v) (List.mem_of_getElem? (i := k) (by rw [List.getElem?_zip_eq_some]; exact ⟨hp, hv⟩))
  simp only at this
  split at this
  · exact ⟨_, rfl, this⟩
  · cases this

/-- An element's cells, with others from number j on. -/
theorem setCells_get {y : E} {et : TypeId} {fs : List TypeId} {j : Nat} {es : List E} (hfs : flat P depth et = some fs) (hy : y.cells.length = fs.length) (h0 : es ≠ []) (hj : j + es.length ≤ fs.length) (hone : ∀ x ∈ es, (AV.e x).one = true) :
    (y.setCells (isAggB P et) j es).cells.length = fs.length ∧ ∀ k, (y.setCells (isAggB P et) j es).cells[k]? = if j ≤ k ∧ k < j + es.length then es[k - j]? else y.cells[k]? := by
  unfold E.setCells
  split
  · have hl : (y.cells.take j).length = j := by rw [List.length_take]; omega
    have hcc : (E.agg (y.cells.take j ++ es ++ y.cells.drop (j + es.length))).cells = y.cells.take j ++ es ++ y.cells.drop (j + es.length) := rfl
    rw [hcc]
    generalize y.cells = ys at *
    refine ⟨by simp; omega, fun k => ?_⟩
    rw [List.append_assoc]
    rcases Nat.lt_or_ge k j with h1 | h1
    · rw [List.getElem?_append_left (by omega), List.getElem?_take, if_pos h1, if_neg (by omega)]
    · rw [List.getElem?_append_right (by omega), hl]
      rcases Nat.lt_or_ge k (j + es.length) with h2 | h2
      · rw [List.getElem?_append_left (by omega), if_pos ⟨h1, h2⟩]
      · rw [List.getElem?_append_right (by omega), if_neg (by omega), List.getElem?_drop]
        have : j + es.length + (k - j - es.length) = k := by omega
        rw [this]
  · rename_i hagg
    have h1 : fs = [et] := flat_one (by simpa using hagg) hfs
    subst h1
    have hpos : es.length ≠ 0 := fun e => h0 (List.eq_nil_of_length_eq_zero e)
    simp at hj
    have hj0 : j = 0 := by omega
    subst hj0
    match es, hpos, hj with
    | [x], _, _ =>
      have hx := hone x (List.mem_cons_self ..)
      have hc : x.cells = [x] := by cases x <;> first | rfl | (simp [AV.one] at hx)
      simp only [List.getD_cons_zero, hc]
      refine ⟨rfl, fun k => ?_⟩
      cases k with
      | zero => rfl
      | succ k =>
        simp
        rw [hy]; show 1 ≤ k + 1; omega
    | x :: y' :: r, _, h => simp at h

theorem op_store_eptr (hr : Rel P σ ρ S w) (hf : FR P σ ρ S w fr a.tmps) {t et : TypeId} {x y : Operand} {id n i j : Nat} {xs : List E} {ov : List (Nat × Nat × AV)} {v : AV} {l : List (TypeId × Nat)} (h : o.op = .store t x y) (hx : evalO fr x = some (.eptr id n i j))
    (hy : evalT P t fr y = some v) (hb : σ[id]? = some (.raw (.arr et xs ov))) (hn : n = xs.length) (hfit : fitA P t et j = some l) (hvl : v.cells.length = l.length) (h1 : v.cells.all AV.one = true) :
    OpOk P σ ρ S w a o .undef (σ.set id (.raw (.arr et (storeArr P et xs ov i l v.cells).1 (storeArr P et xs ov i l v.cells).2))) := by
  obtain ⟨b, c, arr, fs, ha, e, hi⟩ := eptr_at hr (evalO_ok hf hx) hb hn
  have hi' : i < xs.length := by omega
  obtain ⟨ft, F⟩ := fitA_inv ha.hfs hfit
  obtain ⟨d1, d2⟩ := cells_ok (evalT_ok hf hy) h1
  have hm : v.cells.length = ft.length := by rw [hvl, F.len]
  have hcs : (a.eval y).cells.toList.length = ft.length := by rw [Array.length_toList, d1, hm]
  have hjl : j + ft.length ≤ fs.length ∨ ft = [] := F.hle
  by_cases hft0 : ft = []
  · -- nothing is stored
    have hl0 : l = [] := by rw [F.hl, hft0]; rfl
    have hv0 : v.cells = [] := List.eq_nil_of_length_eq_zero (by rw [hvl, hl0]; rfl)
    have hs : storeArr P et xs ov i l v.cells = (xs, ov) := by
      unfold storeArr
      rw [hl0]
      split <;> simp
    rw [hs]
    have hset : σ.set id (.raw (.arr et xs ov)) = σ := List.ext_getElem? fun k => by
      rw [List.getElem?_set]
      split
      · rename_i e; subst e; rw [hb]; simp [(List.getElem?_eq_some_iff.1 hb).1]
      · rfl
    rw [hset]
    have hz : (a.eval y).cells = #[] := Array.eq_empty_of_size_eq_zero (by rw [d1, hv0]; rfl)
    have hsz : sizeB P t = some 0 := by rw [F.hsz, hft0]; rfl
    have h2 := run_sizeOf (w := w) hsz
    refine ⟨.skip, undef, w, ρ, S, ?_, .inr ⟨rfl, rfl⟩, hr, Ext.refl _ _ _ _, trivial⟩
    simp [execOp, h, Instr.storeAt, Instr.sureAddr, e, storeVar, h2, hz, storeCells]
  · have hjl : j + ft.length ≤ fs.length := hjl.resolve_right hft0
    have hoff : i * fs.length + j + (a.eval y).cells.toList.length ≤ arr.size := by
      rw [hcs]
      have q1 : (i + 1) * fs.length ≤ c * fs.length := Nat.mul_le_mul_right _ (by have := ha.hc; omega)
      rw [Nat.add_mul] at q1
      have := ha.hs
      omega
    have hrun := run_store_op (w := w) (o := o) (ev := a.eval) (T := et) h e (by rw [F.hsz, ← hm, ← d1]) ha.heap (by simpa using hoff) (fun u hu => by
      obtain ⟨k, hk⟩ := List.getElem?_of_mem hu
      have hk' : k < v.cells.length := by
        have := (List.getElem?_eq_some_iff.1 hk).1
        rw [hcs] at this; omega
      obtain ⟨g1, z, g2, g3⟩ := d2 k _ (List.getElem?_eq_getElem hk')
      rw [Array.getElem?_toList] at hk
      rw [hk] at g2; injection g2 with g2; subst g2
      exact one_oneCell g1 g3)
    have hT := TurnedAt.row (w := w) (arr' := (arr.toList.take (i * fs.length + j) ++ (a.eval y).cells.toList ++ arr.toList.drop (i * fs.length + j + (a.eval y).cells.toList.length)).toArray) ha.heap
    have hget := splice_get hoff
    have hsize := splice_size hoff
    generalize harr : (arr.toList.take (i * fs.length + j) ++ (a.eval y).cells.toList ++ arr.toList.drop (i * fs.length + j + (a.eval y).cells.toList.length)).toArray = arr' at hrun hT hget hsize
    rw [hcs] at hget
    -- the cells that stay
    have hstay : ∀ (i' j' : Nat), j' < fs.length → (i' ≠ i ∨ j' < j ∨ j + ft.length ≤ j') → arr'[i' * fs.length + j']? = arr[i' * fs.length + j']? := by
      intro i' j' hj' hd
      rw [hget, if_neg]
      rintro ⟨k1, k2⟩
      have := at_mul hj' hjl k1 k2
      subst this
      rcases hd with hd | hd | hd <;> omega
    -- the cells that turn
    have hturn : ∀ (k : Nat) (u : AV), v.cells[k]? = some u → u.one = true ∧ ∃ z, arr'[i * fs.length + (j + k)]? = some z ∧ VA1 P σ ρ S w u z := by
      intro k u hk
      obtain ⟨g1, z, g2, g3⟩ := d2 k u hk
      have hk' : k < ft.length := by rw [← hm]; exact (List.getElem?_eq_some_iff.1 hk).1
      refine ⟨g1, z, ?_, g3⟩
      rw [hget, if_pos (by omega)]
      have : i * fs.length + (j + k) - (i * fs.length + j) = k := by omega
      rw [this, Array.getElem?_toList]; exact g2
    suffices hok : RawOk P σ ρ S w c (.arr et (storeArr P et xs ov i l v.cells).1 (storeArr P et xs ov i l v.cells).2) (.cells arr' et (0, 0)) ∧ (storeArr P et xs ov i l v.cells).1.length = xs.length by
      obtain ⟨r1, e1⟩ := hr.setRawAt (r' := .arr et (storeArr P et xs ov i l v.cells).1 (storeArr P et xs ov i l v.cells).2) hb ha.at_ hT rfl (Nat.le_of_eq hok.2.symm) hok.1
      exact ⟨.skip, undef, _, ρ, S, hrun, .inr ⟨rfl, rfl⟩, r1, e1, trivial⟩
    unfold storeArr
    split
    · rename_i hc
      obtain ⟨c1, c2⟩ := hc
      cases hl : l with
      | nil => exact absurd (by have := F.len; rw [hl] at this; exact List.eq_nil_of_length_eq_zero this.symm) hft0
      | cons q l' =>
        have hq := F.get (k := 0) (p := q) (by rw [hl]; rfl)
        simp only
        have hqj : q.2 = j := by simpa using hq.2
        rw [hqj]
        have hesl : (v.cells.map AV.toE).length = ft.length := by rw [List.length_map, hm]
        have hes0 : v.cells.map AV.toE ≠ [] := fun e => hft0 (List.eq_nil_of_length_eq_zero (by rw [← hesl, e]; rfl))
        have hyi := List.getElem?_eq_getElem hi'
        have hg : xs.getD i .nili = xs[i] := by simp [List.getD_eq_getElem?_getD, hyi]
        rw [hg]
        have hcell : ∀ (k : Nat) (u : AV), v.cells[k]? = some u → ∃ x ct, u = .e x ∧ ft[k]? = some ct ∧ okCell P ct x = true := by
          intro k u hk
          have hk' : k < l.length := by rw [F.len, ← hm]; exact (List.getElem?_eq_some_iff.1 hk).1
          obtain ⟨x, hx, hxo⟩ := okCellsA_get c1 (List.getElem?_eq_getElem hk') hk
          exact ⟨x, _, hx, (F.get (List.getElem?_eq_getElem hk')).1, hxo⟩
        obtain ⟨s1, s2⟩ := setCells_get (P := P) (y := xs[i]) (j := j) (es := v.cells.map AV.toE) ha.hfs (ha.hlen i _ hyi) hes0 (by rw [hesl]; exact hjl) (by
          intro x hx
          obtain ⟨u, hu, rfl⟩ := List.mem_map.1 hx
          obtain ⟨k, hk⟩ := List.getElem?_of_mem hu
          obtain ⟨x, ct, rfl, _, hxo⟩ := hcell k u hk
          exact okCell_one hxo)
        have hnov : ∀ (k : Nat), k < ft.length → ∀ i', ovAt ov i' (j + k) = none := by
          intro k hk i'
          refine ovAt_none fun p hp => .inr fun e => ?_
          have := List.all_eq_true.1 c2 p hp
          have hk' : k < l.length := by rw [F.len]; exact hk
          have := List.all_eq_true.1 this (l[k]'hk') (List.getElem_mem _)
          rw [(F.get (List.getElem?_eq_getElem hk')).2] at this
          simp [e] at this
        refine ⟨⟨_, fs, rfl, ha.hfs, ha.h0, by rw [List.length_set]; exact ha.hc, by rw [hsize]; exact ha.hs, fun p hp => by rw [List.length_set]; exact ha.hov p hp, ?_, ?_, ?_⟩, by simp⟩
        · intro i' y' hy'
          rcases set_cases hy' with ⟨_, rfl, _⟩ | ⟨_, hy'⟩
          · exact s1
          · exact ha.hlen i' y' hy'
        · intro i' y' j' ct x hy' hct hx' hov
          rcases set_cases hy' with ⟨rfl, rfl, _⟩ | ⟨_, hy'⟩
          · rw [s2] at hx'
            split at hx'
            · rename_i hin
              rw [List.getElem?_map] at hx'
              obtain ⟨u, hu, hux⟩ := Option.map_eq_some_iff.1 hx'
              obtain ⟨x0, ct0, rfl, h5, h6⟩ := hcell _ u hu
              have := F.hat _ _ h5
              rw [show j + (j' - j) = j' by omega, hct] at this
              injection this with this; subst this
              have : x0 = x := hux
              subst this
              exact h6
            · exact ha.hok _ _ j' ct x hyi hct hx' hov
          · exact ha.hok i' y' j' ct x hy' hct hx' hov
        · intro i' y' j' x hy' hx'
          have hjl' : j' < fs.length := by
            have q := (List.getElem?_eq_some_iff.1 hx').1
            rcases set_cases hy' with ⟨_, rfl, _⟩ | ⟨_, hy'⟩
            · rw [s1] at q; exact q
            · rw [ha.hlen i' y' hy'] at q; exact q
          rcases set_cases hy' with ⟨rfl, rfl, _⟩ | ⟨hne, hy'⟩
          · rw [s2] at hx'
            split at hx'
            · rename_i hin
              rw [hesl] at hin
              rw [List.getElem?_map] at hx'
              obtain ⟨u, hu, hux⟩ := Option.map_eq_some_iff.1 hx'
              obtain ⟨g1, z, g2, g3⟩ := hturn _ u hu
              obtain ⟨x0, ct0, rfl, _, _⟩ := hcell _ u hu
              have : x0 = x := hux
              subst this
              have hnn := hnov (j' - j) (by omega) i'
              rw [show j + (j' - j) = j' by omega] at g2 hnn
              exact ⟨z, g2, by rw [hnn]; exact g3⟩
            · rename_i hin
              rw [hesl] at hin
              obtain ⟨z, g1, g2⟩ := ha.hE _ _ j' x hyi hx'
              exact ⟨z, by rw [hstay _ j' hjl' (.inr (by omega))]; exact g1, g2⟩
          · obtain ⟨z, g1, g2⟩ := ha.hE i' y' j' x hy' hx'
            exact ⟨z, by rw [hstay i' j' hjl' (.inl hne)]; exact g1, g2⟩
    · simp only
      rw [F.hl]
      have hnew := fun i' j' => ovAt_append (i := i') (j := j') (u := ((ft.zipIdx.map fun p => (p.1, j + p.2)).zip v.cells).map fun p => (i, p.1.2, p.2)) (v := ov)
      refine ⟨⟨_, fs, rfl, ha.hfs, ha.h0, ha.hc, by rw [hsize]; exact ha.hs, ?_, ha.hlen, ?_, ?_⟩, trivial⟩
      · intro p hp
        rcases List.mem_append.1 hp with hp | hp
        · obtain ⟨q, _, rfl⟩ := List.mem_map.1 hp; exact hi'
        · exact ha.hov p hp
      · intro i' y' j' ct x hy' hct hx' hov
        rw [hnew] at hov
        refine ha.hok i' y' j' ct x hy' hct hx' ?_
        split at hov
        · cases hov
        · exact hov
      · intro i' y' j' x hy' hx'
        have hjl' : j' < fs.length := by
          rw [← ha.hlen i' y' hy']; exact (List.getElem?_eq_some_iff.1 hx').1
        rw [hnew]
        by_cases hin : i' = i ∧ j ≤ j' ∧ j' < j + ft.length
        · obtain ⟨rfl, k1, k2⟩ := hin
          have hk : j' - j < v.cells.length := by omega
          have := ovAt_zip_in (i := i') (j := j) (k := j' - j) ft v.cells 0 hm.symm hk
          rw [show j + 0 + (j' - j) = j' by omega] at this
          rw [this, List.getElem?_eq_getElem hk]
          obtain ⟨g1, z, g2, g3⟩ := hturn _ _ (List.getElem?_eq_getElem hk)
          rw [show j + (j' - j) = j' by omega] at g2
          exact ⟨z, g2, g1, g3⟩
        · have hno : ovAt (((ft.zipIdx.map fun p => (p.1, j + p.2)).zip v.cells).map fun p => (i, p.1.2, p.2)) i' j' = none := by
            by_cases hii : i' = i
            · exact ovAt_zip_out ft v.cells 0 (by omega)
            · exact ovAt_zip_ne hii _
          rw [hno]
          obtain ⟨z, g1, g2⟩ := ha.hE i' y' j' x hy' hx'
          exact ⟨z, by rw [hstay i' j' hjl' (by omega)]; exact g1, g2⟩
end
end Go.Den

/- Arrays whose elements may be written: made, appended to, written out, handed back as data. -/
namespace Go.Den
open Go

section
variable {P : Program} {σ : Heap} {ρ : Gr} {S : Cells} {w w' : World} {fr : Fr} {a : Act} {o : Oper}

theorem run_makeSlice_op {ev : Operand → Value} {t : TypeId} {x y : Operand} {r : Value} (h : o.op = .makeSlice t x y) (hr : (Instr.makeSlice t (ev x) (ev y)).run P w = .ok r w') : (execOp ev o).run P w = .ok (.value r) w' := by
  simp [execOp, h, hr]

theorem madeCells_size (z : Array Value) (n : Nat) : (madeCells z n).size = n := by simp [madeCells]

theorem op_makeSlice_vec (hr : Rel P σ ρ S w) (hf : FR P σ ρ S w fr a.tmps) {t et : TypeId} {x y : Operand} {i : TypeInfo} {fs : List TypeId} {z : Value} {k : Nat} {kn kc : IntKind} {c : Int} {σ1 : Heap} (h : o.op = .makeSlice t x y)
    (ht : P.underlying t = some (.slice et)) (hi : P.info? et = some i) (hz : i.zero = some z) (hsz : i.size = fs.length) (hfs : flat P depth et = some fs) (hb : i.bytes ≠ 0)
    (hx : evalO fr x = some (.e (.int kn 0))) (hy : evalO fr y = some (.e (.int kc c))) (h0 : 0 ≤ c) (hby : c * i.bytes ≤ 140737488355328) (hfill : fillAt σ k (.vec et 0) = some σ1) :
    OpOk P σ ρ S w a o (.own k et []) σ1 := by
  obtain ⟨hh, rfl⟩ := fillAt_spec hfill
  have hkl := (List.getElem?_eq_some_iff.1 hh).1
  have hcb : c ≤ c * i.bytes := by
    have : c * 1 ≤ c * (i.bytes : Int) := Int.mul_le_mul_of_nonneg_left (by omega) h0
    omega
  have hrun := run_make w t et i z ht hi hz kn kc 0 c (Int.le_refl _) h0 (by rw [Int.mul_comm]; omega) (by omega)
  obtain ⟨r1, e1⟩ := hr.layRow (.inr hh) (NewBlock.alloc w (madeCells z.cells (c.toNat * i.size)) et) (et := et) (n := 0) (c := c.toNat) hfs (Nat.zero_le _) (by rw [madeCells_size, hsz]; exact Nat.le_refl _)
  refine ⟨_, _, _, _, _, run_makeSlice_op h (by rw [VA3_int (evalO_ok hf hx), VA3_int (evalO_ok hf hy)]; exact hrun), .inl rfl, r1, e1, VE.nilSlice hfs _ _, .inl ⟨0, by simp [hkl], Nat.le_refl _, fun _ => .inr ⟨w.heap.size, c.toNat, ?_, rfl⟩⟩⟩
  rw [List.getElem?_set, if_pos rfl, if_pos (by rw [hr.len]; exact hkl)]

theorem op_makeSlice_arr0 (hr : Rel P σ ρ S w) (hf : FR P σ ρ S w fr a.tmps) {t et : TypeId} {x y : Operand} {i : TypeInfo} {fs : List TypeId} {z : Value} {k : Nat} {kn kc : IntKind} {c : Int} {σ1 : Heap} (h : o.op = .makeSlice t x y)
    (ht : P.underlying t = some (.slice et)) (hi : P.info? et = some i) (hz : i.zero = some z) (hsz : i.size = fs.length) (hfs : flat P depth et = some fs) (h00 : fs.length ≠ 0) (hb : i.bytes ≠ 0)
    (hx : evalO fr x = some (.e (.int kn 0))) (hy : evalO fr y = some (.e (.int kc c))) (h0 : 0 ≤ c) (hby : c * i.bytes ≤ 140737488355328) (hfill : fillAt σ k (.raw (.arr et [] [])) = some σ1) :
    OpOk P σ ρ S w a o (.mv k et 0 0 0) σ1 := by
  obtain ⟨hh, rfl⟩ := fillAt_spec hfill
  have hkl := (List.getElem?_eq_some_iff.1 hh).1
  have hcb : c ≤ c * i.bytes := by
    have : c * 1 ≤ c * (i.bytes : Int) := Int.mul_le_mul_of_nonneg_left (by omega) h0
    omega
  have hrun := run_make w t et i z ht hi hz kn kc 0 c (Int.le_refl _) h0 (by rw [Int.mul_comm]; omega) (by omega)
  obtain ⟨r1, e1⟩ := hr.layRaw (c := c.toNat) (r' := .arr et [] []) (.inr hh) (NewBlock.alloc w (madeCells z.cells (c.toNat * i.size)) et)
    ⟨_, fs, rfl, hfs, h00, Nat.zero_le _, by rw [madeCells_size, hsz]; exact Nat.le_refl _, by simp, by simp, by simp, by simp⟩
  refine ⟨_, _, _, _, _, run_makeSlice_op h (by rw [VA3_int (evalO_ok hf hx), VA3_int (evalO_ok hf hy)]; exact hrun), .inl rfl, r1, e1, w.heap.size, 0, c.toNat, fs, rfl, ⟨hfs, Nat.zero_le _⟩, .inl ⟨_, _, by rw [List.getElem?_set, if_pos rfl, if_pos hkl], Nat.le_refl _, fun _ => ⟨c.toNat, ?_, by simp, by simp, by omega⟩⟩⟩
  rw [List.getElem?_set, if_pos rfl, if_pos (by rw [hr.len]; exact hkl)]

theorem cells_e {x : E} (h : (AV.e x).one = true) : x.cells = [x] := by cases x <;> first | rfl | (simp [AV.one] at h)

theorem op_makeSlice_arr (hr : Rel P σ ρ S w) (hf : FR P σ ρ S w fr a.tmps) {t et : TypeId} {x y : Operand} {i : TypeInfo} {fs : List TypeId} {z : AV} {k : Nat} {kn kc : IntKind} {n c : Int} {σ1 : Heap} (h : o.op = .makeSlice t x y)
    (ht : P.underlying t = some (.slice et)) (hi : P.info? et = some i) (hzo : zeroOf P et = some z) (hzl : z.cells.length = fs.length) (hzc : okCellsA P fs.zipIdx z.cells = true) (hsz : i.size = fs.length) (hfs : flat P depth et = some fs) (h00 : fs.length ≠ 0) (hb : i.bytes ≠ 0)
    (hx : evalO fr x = some (.e (.int kn n))) (hy : evalO fr y = some (.e (.int kc c))) (h0 : 0 ≤ n) (h1 : n ≤ c) (hby : c * i.bytes ≤ 140737488355328)
    (hfill : fillAt σ k (.raw (.arr et (List.replicate n.toNat (if isAggB P et then .agg (z.cells.map AV.toE) else z.toE)) [])) = some σ1) :
    OpOk P σ ρ S w a o (.mv k et n.toNat 0 n.toNat) σ1 := by
  obtain ⟨hh, rfl⟩ := fillAt_spec hfill
  have hkl := (List.getElem?_eq_some_iff.1 hh).1
  have hcb : c ≤ c * i.bytes := by
    have : c * 1 ≤ c * (i.bytes : Int) := Int.mul_le_mul_of_nonneg_left (by omega) (by omega)
    omega
  obtain ⟨i', zv, hi', hiz, hzv, hzall⟩ := zeroOf_ok (σ := σ) (ρ := ρ) (S := S) (w := w) hzo
  rw [hi] at hi'; injection hi' with hi'; subst hi'
  obtain ⟨z1, z2⟩ := cells_ok hzv hzall
  have hrun := run_make w t et i zv ht hi hiz kn kc n c h0 h1 (by rw [Int.mul_comm]; omega) (by omega)
  -- an element that is zero
  have hcell : ∀ (j : Nat) (u : AV), z.cells[j]? = some u → ∃ x ct, u = .e x ∧ fs[j]? = some ct ∧ okCell P ct x = true := by
    intro j u hj
    have hjl : j < fs.length := by rw [← hzl]; exact (List.getElem?_eq_some_iff.1 hj).1
    have hp : (fs.zipIdx)[j]? = some (fs[j], j) := by rw [List.getElem?_zipIdx]; simp [hjl]
    obtain ⟨x, hx, hxo⟩ := okCellsA_get hzc hp hj
    exact ⟨x, _, hx, List.getElem?_eq_getElem hjl, hxo⟩
  have hzero : ∀ y0 : E, y0 = (if isAggB P et then .agg (z.cells.map AV.toE) else z.toE) → y0.cells = z.cells.map AV.toE := by
    intro y0 hy0
    subst hy0
    split
    · rfl
    · rename_i hagg
      have h1 : fs = [et] := flat_one (by simpa using hagg) hfs
      subst h1
      obtain ⟨u, hu⟩ : ∃ u, z.cells = [u] := by
        match hq : z.cells, hzl with
        | [u], _ => exact ⟨u, rfl⟩
      obtain ⟨x, ct, rfl, _, hxo⟩ := hcell 0 u (by rw [hu]; rfl)
      have hne : ∀ cs, z ≠ .agg cs := by
        intro cs hzz
        rw [hzz] at hzo
        unfold zeroOf at hzo
        split at hzo <;> try (cases hzo; done)
        split at hzo <;> try (cases hzo; done)
        split at hzo
        · rename_i hh; exact hagg hh
        · split at hzo <;> try (cases hzo; done)
          rename_i c hcs
          split at hzo
          · injection hzo with hzo; subst hzo; rename_i hzz; rename_i z0 _ _ _; cases z0 <;> simp [isZero] at hzz
          · cases hzo
      have hz' : z = .e x := by
        have hzc1 : z.cells = [z] := by cases z <;> first | rfl | exact absurd rfl (hne _)
        rw [hzc1] at hu
        injection hu
      subst hz'
      have := cells_e (okCell_one hxo)
      simp [AV.toE, AV.cells, this]
  have hget : ∀ (m : Nat) (y0 : E), (List.replicate n.toNat (if isAggB P et then E.agg (z.cells.map AV.toE) else z.toE))[m]? = some y0 → m < n.toNat ∧ y0.cells = z.cells.map AV.toE := by
    intro m y0 hm
    rw [List.getElem?_replicate] at hm
    split at hm
    · injection hm with hm; exact ⟨by assumption, hzero _ hm.symm⟩
    · cases hm
  obtain ⟨r1, e1⟩ := hr.layRaw (c := c.toNat) (r' := .arr et (List.replicate n.toNat (if isAggB P et then E.agg (z.cells.map AV.toE) else z.toE)) []) (.inr hh) (NewBlock.alloc w (madeCells zv.cells (c.toNat * i.size)) et)
    ⟨_, fs, rfl, hfs, h00, by simp; omega, by rw [madeCells_size, hsz]; exact Nat.le_refl _, by simp, fun m y0 hm => by rw [(hget m y0 hm).2, List.length_map, hzl], fun m y0 j ct x hm hct hx _ => by
      rw [(hget m y0 hm).2, List.getElem?_map] at hx
      obtain ⟨u, hu, hux⟩ := Option.map_eq_some_iff.1 hx
      obtain ⟨x0, ct0, rfl, h5, h6⟩ := hcell j u hu
      rw [hct] at h5; injection h5 with h5; subst h5
      have : x0 = x := hux
      subst this; exact h6, fun m y0 j x hm hx => by
      obtain ⟨hmn, hyc⟩ := hget m y0 hm
      rw [hyc, List.getElem?_map] at hx
      obtain ⟨u, hu, hux⟩ := Option.map_eq_some_iff.1 hx
      obtain ⟨x0, ct0, rfl, h5, h6⟩ := hcell j u hu
      have : x0 = x := hux
      subst this
      have hjl : j < fs.length := by rw [← hzl]; exact (List.getElem?_eq_some_iff.1 hu).1
      obtain ⟨g1, v, g2, g3⟩ := z2 j _ hu
      have hlt : m * fs.length + j < c.toNat * fs.length := by
        have : (m + 1) * fs.length ≤ c.toNat * fs.length := Nat.mul_le_mul_right _ (by omega)
        rw [Nat.add_mul] at this; omega
      refine ⟨v, ?_, g3⟩
      unfold madeCells
      rw [hsz, range_zero_get (sz := fs.length) (by rw [z1, hzl]) h00 hlt, Nat.mul_comm, Nat.mul_add_mod, Nat.mod_eq_of_lt hjl]
      exact g2⟩
  refine ⟨_, _, _, _, _, run_makeSlice_op h (by rw [VA3_int (evalO_ok hf hx), VA3_int (evalO_ok hf hy)]; exact hrun), .inl rfl, r1, e1, w.heap.size, 0, c.toNat, fs, rfl, ⟨hfs, by omega⟩, .inl ⟨_, _, by rw [List.getElem?_set, if_pos rfl, if_pos hkl], by simp, fun _ => ⟨c.toNat, ?_, by simp, by simp, by omega⟩⟩⟩
  rw [List.getElem?_set, if_pos rfl, if_pos (by rw [hr.len]; exact hkl)]

/-- Values that are elements, and what lies over them, one behind the other. -/
structure LaidA (P : Program) (σ : Heap) (ρ : Gr) (S : Cells) (w : World) (fs : List TypeId) (ys : List E) (ov : List (Nat × Nat × AV)) (news : List Value) : Prop where
  len : news.length = ys.length * fs.length
  rows : ∀ (i : Nat) (y : E), ys[i]? = some y → y.cells.length = fs.length
  ok : ∀ (i : Nat) (y : E) (j : Nat) (ct : TypeId) (x : E), ys[i]? = some y → fs[j]? = some ct → y.cells[j]? = some x → ovAt ov i j = none → okCell P ct x = true
  hov : ∀ p ∈ ov, p.1 < ys.length
  val : ∀ (i : Nat) (y : E) (j : Nat) (x : E), ys[i]? = some y → y.cells[j]? = some x → ∃ v, news[i * fs.length + j]? = some v ∧ CellOk P σ ρ S w (ovAt ov i j) x v

theorem LaidA.ofData {et : TypeId} {fs : List TypeId} {ys : List E} {news : List Value} (hfs : flat P depth et = some fs) (hl : Laid P S w fs.length ys news) (hrows : ∀ (i : Nat) (y : E), ys[i]? = some y → okRow P et y = true) :
    LaidA P σ ρ S w fs ys [] news :=
  ⟨hl.1, fun i y hy => (okRow_inv hfs (hrows i y hy)).1, fun i y j ct x hy hct hx _ => (okRow_inv hfs (hrows i y hy)).2 j ct x hct hx, by simp, fun i y j x hy hx => hl.2 i y j x hy hx⟩

/-- An array with more elements. -/
theorem raw_append {id : Nat} {et : TypeId} {xs ys : List E} {ov ov2 : List (Nat × Nat × AV)} {b c c' : Nat} {arr arr' : Array Value} {fs : List TypeId} {news : List Value} (ha : ArrIn P σ ρ S w id et xs ov b c arr fs) (hl : LaidA P σ ρ S w fs ys ov2 news)
    (hc : xs.length + ys.length ≤ c') (hs : c' * fs.length ≤ arr'.size) (h1 : ∀ k, k < xs.length * fs.length → arr'[k]? = arr[k]?) (h2 : ∀ k, k < news.length → arr'[xs.length * fs.length + k]? = news[k]?) :
    RawOk P σ ρ S w c' (.arr et (xs ++ ys) (ovShift xs.length ov2 ++ ov)) (.cells arr' et (0, 0)) := by
  have hlo : ∀ (i j : Nat), i < xs.length → ovAt (ovShift xs.length ov2 ++ ov) i j = ovAt ov i j := fun i j hi => by
    rw [ovAt_append, ovAt_shift_lt hi]
  have hhi : ∀ (i j : Nat), ovAt (ovShift xs.length ov2 ++ ov) (xs.length + i) j = ovAt ov2 i j := fun i j => by
    rw [ovAt_append, ovAt_shift]
    have : ovAt ov (xs.length + i) j = none := ovAt_none fun p hp => .inl (by have := ha.hov p hp; omega)
    rw [this]
    cases ovAt ov2 i j <;> rfl
  have hcase : ∀ (i : Nat) (y : E), (xs ++ ys)[i]? = some y → (i < xs.length ∧ xs[i]? = some y) ∨ ∃ i', i = xs.length + i' ∧ ys[i']? = some y := by
    intro i y hy
    rcases Nat.lt_or_ge i xs.length with hi | hi
    · rw [List.getElem?_append_left hi] at hy; exact .inl ⟨hi, hy⟩
    · rw [List.getElem?_append_right hi] at hy; exact .inr ⟨i - xs.length, by omega, hy⟩
  refine ⟨arr', fs, rfl, ha.hfs, ha.h0, by simpa using hc, hs, ?_, ?_, ?_, ?_⟩
  · intro p hp
    rw [List.length_append]
    rcases List.mem_append.1 hp with hp | hp
    · unfold ovShift at hp
      obtain ⟨q, hq, rfl⟩ := List.mem_map.1 hp
      have := hl.hov q hq
      show xs.length + q.1 < _
      omega
    · have := ha.hov p hp; omega
  · intro i y hy
    rcases hcase i y hy with ⟨_, hy⟩ | ⟨i', rfl, hy'⟩
    · exact ha.hlen i y hy
    · exact hl.rows i' y hy'
  · intro i y j ct x hy hct hx hov
    rcases hcase i y hy with ⟨hi, hy⟩ | ⟨i', rfl, hy'⟩
    · exact ha.hok i y j ct x hy hct hx (by rwa [hlo i j hi] at hov)
    · exact hl.ok i' y j ct x hy' hct hx (by rwa [hhi] at hov)
  · intro i y j x hy hx
    rcases hcase i y hy with ⟨hi, hy⟩ | ⟨i', rfl, hy'⟩
    · obtain ⟨v, g1, g2⟩ := ha.hE i y j x hy hx
      have hjl : j < fs.length := by rw [← ha.hlen i y hy]; exact (List.getElem?_eq_some_iff.1 hx).1
      have hlt : i * fs.length + j < xs.length * fs.length := by
        have : (i + 1) * fs.length ≤ xs.length * fs.length := Nat.mul_le_mul_right _ hi
        rw [Nat.add_mul] at this; omega
      exact ⟨v, by rw [h1 _ hlt]; exact g1, by rw [hlo i j hi]; exact g2⟩
    · obtain ⟨v, g1, g2⟩ := hl.val i' y j x hy' hx
      refine ⟨v, ?_, by rw [hhi]; exact g2⟩
      rw [Nat.add_mul, Nat.add_assoc, h2 _ (List.getElem?_eq_some_iff.1 g1).1]
      exact g1

theorem op_append_arr (hr : Rel P σ ρ S w) {et t tx : TypeId} {x y : Operand} {i : TypeInfo} {fs : List TypeId} {z : Value} {id n : Nat} {xs ys : List E} {ov ov2 : List (Nat × Nat × AV)} {news : List Value} {cx : Value} (h : o.op = .call { callee := .builtin .append, args := #[x, y], argTypes := #[t, tx] })
    (T : AppTypes P et t tx i fs z) (hx : VA1 P σ ρ S w (.mv id et n 0 n) (a.eval x)) (hb : σ[id]? = some (.raw (.arr et xs ov))) (hn : n = xs.length) (hy : a.eval y = cx) (hs : Src P fs.length tx cx ys.length news w) (hl : LaidA P σ ρ S w fs ys ov2 news)
    (hbytes : (n + ys.length) * i.bytes ≤ 140737488355328) : OpOk P σ ρ S w a o (.mv id et (n + ys.length) 0 (n + ys.length)) (σ.set id (.raw (.arr et (xs ++ ys) (ovShift n ov2 ++ ov)))) := by
  obtain ⟨b, c, arr, fs', o', ha, e, ho, _, hnc⟩ := mv_at hr hx hb hn
  obtain ⟨ht, hi, hz, hzs, hsz, hfs, h0, hbb⟩ := T
  have e' := ha.hfs
  rw [hfs] at e'; injection e' with e'; subst e'
  have hs' : Src P i.size tx cx ys.length news w := by rw [hsz]; exact hs
  have hidl : id < σ.length := (List.getElem?_eq_some_iff.1 hb).1
  simp only [Nat.sub_zero] at e ho
  subst hn
  have hid2 : ∀ r, (σ.set id (.raw r))[id]? = some (.raw r) := fun r => by rw [List.getElem?_set, if_pos rfl, if_pos hidl]
  have hl2 : (xs ++ ys).length = xs.length + ys.length := List.length_append
  by_cases hm : ys.length = 0
  · have hys : ys = [] := List.eq_nil_of_length_eq_zero hm
    subst hys
    have hov2 : ov2 = [] := by
      cases ov2 with
      | nil => rfl
      | cons p l => have := hl.hov p (List.mem_cons_self ..); simp at this
    subst hov2
    have hn0 : news = [] := List.eq_nil_of_length_eq_zero (by rw [hl.len]; simp)
    subst hn0
    have hset : σ.set id (.raw (.arr et (xs ++ []) (ovShift xs.length [] ++ ov))) = σ := by
      rw [List.append_nil]
      exact List.ext_getElem? fun k => by
        rw [List.getElem?_set]
        split
        · rename_i e; subst e; rw [hb]; simp [ovShift]
        · rfl
    rw [hset]
    have hrun := run_append_nothing w t tx o.type et i ht hi (some ⟨b, o', none⟩) xs.length c (by omega) cx hs'
    refine OpOk.pure hr (run_append_op h (by rw [e, hy]; exact hrun)) ?_
    rw [← e]
    exact hx
  · have h63 := fits hbb hbytes
    by_cases hroom : xs.length + ys.length ≤ c
    · have ho0 : o' = 0 := by rw [ho (by omega), Nat.zero_mul]
      subst ho0
      have hfit : xs.length * i.size + news.length ≤ arr.size := by
        rw [hl.len, hsz, ← Nat.add_mul]
        exact Nat.le_trans (Nat.mul_le_mul_right _ hroom) ha.hs
      have hrun := run_append_room' (w := w) (ty := o.type) ht hi hs' hroom ha.heap hfit
      have hget := splice_get (arr := arr) (off := xs.length * i.size) (vs := news) hfit
      have hsize := splice_size (arr := arr) (off := xs.length * i.size) (vs := news) hfit
      have hT := TurnedAt.row (w := w) (arr' := (arr.toList.take (xs.length * i.size) ++ news ++ arr.toList.drop (xs.length * i.size + news.length)).toArray) ha.heap
      have hok := raw_append (c' := c) ha hl hroom (by rw [hsize]; exact ha.hs) (fun k hk => by rw [hget, if_neg (by rw [hsz]; omega)]) (fun k hk => by
        rw [hget, if_pos (by rw [hsz]; omega), hsz]; congr 1; omega)
      obtain ⟨r1, e1⟩ := hr.setRawAt (r' := .arr et (xs ++ ys) (ovShift xs.length ov2 ++ ov)) hb ha.at_ hT rfl (by show xs.length ≤ (xs ++ ys).length; omega) hok
      refine ⟨_, _, _, _, _, run_append_op h (by rw [e, hy]; exact hrun), .inl rfl, r1, e1, b, 0, c, fs, rfl, ⟨hfs, hroom⟩, .inl ⟨_, _, hid2 _, by omega, fun _ => ⟨c, ha.at_, by simp, by omega, by omega⟩⟩⟩
    · have hold : (Builtin.firstCells i.size xs.length (.slice (some ⟨b, o', none⟩) xs.length c)).run P w.drew = .ok (arr.toList.take (xs.length * fs.length)).toArray w.drew :=
        run_firstCells_some w.drew i.size xs.length ⟨b, o', none⟩ xs.length c (arr.toList.take (xs.length * fs.length)) (by
          rw [List.length_take, show arr.toList.length = arr.size from Array.length_toList, hsz]
          have q9 : xs.length * fs.length ≤ c * fs.length := Nat.mul_le_mul_right _ ha.hc
          have := ha.hs
          rw [Nat.min_eq_left (by omega)]) (fun j u hj => by
          rw [List.getElem?_take] at hj
          split at hj
          · rename_i hjl
            have hc0 : c ≠ 0 := by
              rintro rfl
              have := ha.hc
              have h9 : xs.length = 0 := by omega
              rw [h9] at hjl
              omega
            rw [ho hc0, add_at]
            show w.drew.cell? ⟨b, 0 * fs.length + j, none⟩ = some u
            rw [show w.drew.cell? ⟨b, 0 * fs.length + j, none⟩ = w.cell? ⟨b, 0 * fs.length + j, none⟩ from rfl, Nat.zero_mul, Nat.zero_add, cell_of_row w b j arr et (0, 0) ha.heap, ← Array.getElem?_toList]
            exact hj
          · cases hj)
      have hrun := run_append_grow_src w t tx o.type et i z ht hi hz (some ⟨b, o', none⟩) xs.length c _ hold cx ys.length news hs' (by omega) h63 (growslice_fits (by omega) hbytes)
      have hge := grownCap_ge w (xs.length + ys.length) c et
      have htl : (arr.toList.take (xs.length * fs.length)).length = xs.length * fs.length := by
        rw [List.length_take, show arr.toList.length = arr.size from Array.length_toList]
        have q9 : xs.length * fs.length ≤ c * fs.length := Nat.mul_le_mul_right _ ha.hc
        have := ha.hs
        rw [Nat.min_eq_left (by omega)]
      obtain ⟨g1, g2⟩ := grown_arr (cells := arr.toList.take (xs.length * fs.length) ++ news) (n := xs.length + ys.length) (m := grownCap w (xs.length + ys.length) c et) hzs (by rw [List.length_append, htl, hl.len, Nat.add_mul]) hge
      have hok := raw_append (c' := grownCap w (xs.length + ys.length) c et) ha hl hge (by rw [g1]; exact Nat.le_refl _) (fun k hk => by
        rw [g2 k (by rw [List.length_append, htl]; omega), List.getElem?_append_left (by omega), List.getElem?_take, if_pos hk, Array.getElem?_toList]) (fun k hk => by
        rw [g2 _ (by rw [List.length_append, htl]; omega), List.getElem?_append_right (by omega), htl]; congr 1; omega)
      obtain ⟨r1, e1⟩ := hr.layRaw (c := grownCap w (xs.length + ys.length) c et) (r' := .arr et (xs ++ ys) (ovShift xs.length ov2 ++ ov)) (.inl ⟨_, hb, rfl, by show xs.length < (xs ++ ys).length; omega⟩) (NewBlock.drew w _ et) hok
      refine ⟨_, _, _, _, _, run_append_op h (by rw [e, hy]; exact hrun), .inl rfl, r1, e1, w.heap.size, 0, _, fs, rfl, ⟨hfs, hge⟩, .inl ⟨_, _, hid2 _, by omega, fun _ => ⟨grownCap w (xs.length + ys.length) c et, ?_, by simp, by omega, by omega⟩⟩⟩
      rw [List.getElem?_set, if_pos rfl, if_pos (by rw [hr.len]; exact hidl)]

theorem op_append_nil_arr (hr : Rel P σ ρ S w) {et t tx : TypeId} {x y : Operand} {i : TypeInfo} {fs : List TypeId} {z : Value} {ys : List E} {news : List Value} {cx : Value} (h : o.op = .call { callee := .builtin .append, args := #[x, y], argTypes := #[t, tx] })
    (T : AppTypes P et t tx i fs z) {A : Option Addr} (hx : a.eval x = .slice A 0 0) (hy : a.eval y = cx) (hs : Src P fs.length tx cx ys.length news w) {ov : List (Nat × Nat × AV)} (hl : LaidA P σ ρ S w fs ys ov news) (hne : ys ≠ [])
    (hbytes : ys.length * i.bytes ≤ 140737488355328) {k : Nat} {σ1 : Heap} (hfill : fillAt σ k (.raw (.arr et ys ov)) = some σ1) : OpOk P σ ρ S w a o (.mv k et ys.length 0 ys.length) σ1 := by
  obtain ⟨hh, rfl⟩ := fillAt_spec hfill
  have hkl := (List.getElem?_eq_some_iff.1 hh).1
  obtain ⟨ht, hi, hz, hzs, hsz, hfs, h0, hb⟩ := T
  have hs' : Src P i.size tx cx ys.length news w := by rw [hsz]; exact hs
  have hm : ys.length ≠ 0 := fun e => hne (List.eq_nil_of_length_eq_zero e)
  have h63 := fits (n := 0) (m := ys.length) hb (by simpa using hbytes)
  have hrun := run_append_grow_src w t tx o.type et i z ht hi hz A 0 0 [] (run_firstCells_zero i.size 0 A) cx ys.length news hs' (by omega) h63 (growslice_fits (by omega) (by simpa using hbytes))
  simp only [Nat.zero_add, List.nil_append] at hrun
  have hge := grownCap_ge w ys.length 0 et
  obtain ⟨g1, g2⟩ := grown_arr (m := grownCap w ys.length 0 et) hzs hl.len hge
  obtain ⟨r1, e1⟩ := hr.layRaw (c := grownCap w ys.length 0 et) (r' := .arr et ys ov) (.inr hh) (NewBlock.drew w _ et)
    ⟨_, fs, rfl, hfs, h0, hge, by rw [g1]; exact Nat.le_refl _, hl.hov, hl.rows, hl.ok, fun i y j x hy hx => by
      obtain ⟨v, q1, q2⟩ := hl.val i y j x hy hx
      exact ⟨v, by rw [g2 _ (List.getElem?_eq_some_iff.1 q1).1]; exact q1, q2⟩⟩
  refine ⟨_, _, _, _, _, run_append_op h (by rw [hx, hy]; exact hrun), .inl rfl, r1, e1, w.heap.size, 0, grownCap w ys.length 0 et, fs, rfl, ⟨hfs, hge⟩, .inl ⟨_, _, by rw [List.getElem?_set, if_pos rfl, if_pos hkl], Nat.le_refl _, fun _ => ⟨grownCap w ys.length 0 et, ?_, by simp, by simp, by omega⟩⟩⟩
  rw [List.getElem?_set, if_pos rfl, if_pos (by rw [hr.len]; exact hkl)]
end
end Go.Den

/- Arrays whose elements may be written: handed on by an append, written out, handed back as data. -/
namespace Go.Den
open Go

section
variable {P : Program} {σ : Heap} {ρ : Gr} {S : Cells} {w w' : World} {fr : Fr} {a : Act} {o : Oper}

theorem CellOk.oneCell {v : Option AV} {x : E} {cv : Value} {ct : TypeId} (h : CellOk P σ ρ S w v x cv) (hok : v = none → okCell P ct x = true) : cv.oneCell' = true := by
  cases v with
  | none => exact VE_oneCell (okCell_one (hok rfl)) h
  | some u => exact one_oneCell h.1 h.2

/-- A piece of an array, as what an append hands on. -/
theorem src_arr (hr : Rel P σ ρ S w) {et tx : TypeId} {id n off len : Nat} {xs : List E} {ov : List (Nat × Nat × AV)} {cv : Value} {fs : List TypeId} (hfs : flat P depth et = some fs) (ht : P.underlying tx = some (.slice et)) (hv : VA1 P σ ρ S w (.mv id et n off len) cv) (hb : σ[id]? = some (.raw (.arr et xs ov))) (hn : n = xs.length) :
    ((xs.drop off).take len).length = len ∧ ∃ news, Src P fs.length tx cv len news w ∧ LaidA P σ ρ S w fs ((xs.drop off).take len) (ovPiece ov off len) news := by
  obtain ⟨b, c, arr, fs', o', ha, e, ho, hle, hnc⟩ := mv_at hr hv hb hn
  have e' := ha.hfs
  rw [hfs] at e'; injection e' with e'; subst e'
  have hl : ((xs.drop off).take len).length = len := by rw [List.length_take, List.length_drop]; omega
  have hget : ∀ (i : Nat) (y : E), ((xs.drop off).take len)[i]? = some y → i < len ∧ xs[off + i]? = some y := by
    intro i y hy
    rw [List.getElem?_take] at hy
    split at hy
    · rename_i hi; exact ⟨hi, by rwa [List.getElem?_drop] at hy⟩
    · cases hy
  have hcell : ∀ k, k < len * fs.length → ∃ (y x : E), xs[off + k / fs.length]? = some y ∧ y.cells[k % fs.length]? = some x ∧ (off + k / fs.length) * fs.length + k % fs.length = off * fs.length + k := by
    intro k hk
    have h1 : k / fs.length < len := Nat.div_lt_of_lt_mul (by rw [Nat.mul_comm]; exact hk)
    have h2 : k % fs.length < fs.length := Nat.mod_lt _ (by have := ha.h0; omega)
    have hy : xs[off + k / fs.length]? = some (xs[off + k / fs.length]'(by omega)) := List.getElem?_eq_getElem _
    have hl := ha.hlen _ _ hy
    refine ⟨_, _, hy, List.getElem?_eq_getElem (by rw [hl]; exact h2), ?_⟩
    rw [Nat.add_mul, Nat.add_assoc, Nat.div_add_mod' k fs.length]
  refine ⟨hl, (List.range (len * fs.length)).map fun k => arr.getD (off * fs.length + k) undef, ?_, ?_⟩
  · rw [e]
    refine Src.ofSlice w ht ⟨b, o', none⟩ len (c - off) _ (by simp) ?_ ?_
    · intro j u hj
      obtain ⟨hj', rfl⟩ := map_range_get hj
      have hlen0 : len ≠ 0 := by rintro rfl; simp at hj'
      rw [add_at, ho (by omega), cell_of_row w b _ arr et (0, 0) ha.heap]
      obtain ⟨y, x, h1, h2, h3⟩ := hcell j hj'
      obtain ⟨v, h4, _⟩ := ha.hE _ y _ x h1 h2
      rw [h3] at h4
      simp [h4]
    · intro u hu
      obtain ⟨k, hk⟩ := List.getElem?_of_mem hu
      obtain ⟨hk', rfl⟩ := map_range_get hk
      obtain ⟨y, x, h1, h2, h3⟩ := hcell k hk'
      obtain ⟨v, h4, h5⟩ := ha.hE _ y _ x h1 h2
      rw [h3] at h4
      have hj : k % fs.length < fs.length := Nat.mod_lt _ (by have := ha.h0; omega)
      have := h5.oneCell (ct := fs[k % fs.length]) (fun hov => ha.hok _ y _ _ x h1 (List.getElem?_eq_getElem hj) h2 hov)
      simpa [h4] using this
  · refine ⟨by simp [hl], fun i y hy => ha.hlen _ y (hget i y hy).2, fun i y j ct x hy hct hx hov => ?_, ?_, fun i y j x hy hx => ?_⟩
    · rw [ovAt_piece (hget i y hy).1] at hov
      exact ha.hok _ y j ct x (hget i y hy).2 hct hx hov
    · intro p hp
      unfold ovPiece at hp
      obtain ⟨q, hq, rfl⟩ := List.mem_map.1 hp
      obtain ⟨_, hq⟩ := List.mem_filter.1 hq
      simp at hq
      rw [hl]
      show q.1 - off < len
      omega
    · obtain ⟨hi, hy'⟩ := hget i y hy
      obtain ⟨v, g1, g2⟩ := ha.hE _ y j x hy' hx
      have hjl : j < fs.length := by rw [← ha.hlen _ y hy']; exact (List.getElem?_eq_some_iff.1 hx).1
      have hlt : i * fs.length + j < len * fs.length := by
        have : (i + 1) * fs.length ≤ len * fs.length := Nat.mul_le_mul_right _ hi
        rw [Nat.add_mul] at this; omega
      refine ⟨v, ?_, by rw [ovAt_piece hi]; exact g2⟩
      rw [map_range_put _ hlt]
      have : off * fs.length + (i * fs.length + j) = (off + i) * fs.length + j := by rw [Nat.add_mul, Nat.add_assoc]
      rw [this]
      simp [g1]

/-! ### Written out -/

theorem ovAt_ovOf {sz : Nat} (h0 : sz ≠ 0) {i j : Nat} (hj : j < sz) : ∀ (cs : List AV) (s : Nat),
    ovAt (((cs.zipIdx s).filter fun p => !p.1.isE).map fun p => (p.2 / sz, p.2 % sz, p.1)) i j = if s ≤ i * sz + j then (cs[i * sz + j - s]?).bind fun u => if u.isE then none else some u else none
  | [], s => by simp [ovAt]
  | u :: cs, s => by
    have ih := ovAt_ovOf h0 (i := i) hj cs (s + 1)
    rw [List.zipIdx_cons, List.filter_cons]
    by_cases hu : u.isE = true
    · simp only [hu, Bool.not_true, Bool.false_eq_true, if_false]
      rw [ih]
      by_cases h1 : s = i * sz + j
      · subst h1
        rw [if_neg (by omega), if_pos (Nat.le_refl _), Nat.sub_self]
        simp [hu]
      · by_cases h2 : s ≤ i * sz + j
        · rw [if_pos (by omega), if_pos h2]
          have : i * sz + j - s = (i * sz + j - (s + 1)) + 1 := by omega
          rw [this, List.getElem?_cons_succ]
        · rw [if_neg (by omega), if_neg h2]
    · have hu' : u.isE = false := by simpa using hu
      simp only [hu', Bool.not_false, if_true, List.map_cons, ovAt]
      rw [ih]
      by_cases h1 : s = i * sz + j
      · subst h1
        have e1 : (i * sz + j) % sz = j := by rw [Nat.mul_comm, Nat.mul_add_mod, Nat.mod_eq_of_lt hj]
        have e2 : (i * sz + j) / sz = i := by rw [Nat.mul_comm, Nat.mul_add_div (by omega), Nat.div_eq_of_lt hj, Nat.add_zero]
        rw [e1, e2]
        simp [hu']
      · have hno : ((s % sz == j) && (s / sz == i)) = false := by
          rw [Bool.eq_false_iff]
          intro hh
          simp at hh
          apply h1
          rw [← hh.1, ← hh.2]
          exact (Nat.div_add_mod' s sz).symm
        have hc : ∀ (x y : Option AV), (bif s % sz == j then (bif s / sz == i then x else y) else y) = y := by
          intro x y
          cases hq : (s % sz == j) <;> cases hq2 : (s / sz == i) <;> simp [hq, hq2] at hno ⊢
        rw [hc]
        by_cases h2 : s ≤ i * sz + j
        · rw [if_pos (by omega), if_pos h2]
          have : i * sz + j - s = (i * sz + j - (s + 1)) + 1 := by omega
          rw [this, List.getElem?_cons_succ]
        · rw [if_neg (by omega), if_neg h2]

theorem elems_rows {et : TypeId} {sz n : Nat} {es : List E} (hl : es.length = n * sz) (h1 : isAggB P et = false → sz = 1) (hone : ∀ (k : Nat) (x : E), es[k]? = some x → (AV.e x).one = true) {i : Nat} {y : E} (hy : (elems P et sz n es)[i]? = some y) : y.cells.length = sz := by
  have hi : i < n := by rw [← elems_length hl h1]; exact (List.getElem?_eq_some_iff.1 hy).1
  unfold elems at hy
  split at hy
  · have := chunk_get sz n es i y hy
    subst this
    simp only [E.cells]
    rw [List.length_take, List.length_drop, hl]
    have : (i + 1) * sz ≤ n * sz := Nat.mul_le_mul_right _ hi
    rw [Nat.add_mul] at this
    omega
  · rename_i hb
    rw [cells_e (hone i y hy), h1 (by simpa using hb)]
    rfl

theorem fillA_length {sz : Nat} : ∀ (ps : List (Nat × AV)) (cs cs' : List AV), fillA (fun i => some (i * sz, sz)) cs ps = some cs' → cs'.length = cs.length := by
  intro ps
  induction ps with
  | nil => intro cs cs' h; injection h with h; rw [h]
  | cons p ps ih =>
    intro cs cs' h
    obtain ⟨i, v⟩ := p
    unfold fillA at h
    simp only at h
    split at h
    · cases h
    · rename_i hc
      simp at hc
      rw [ih _ _ h]
      simp [splice]
      omega

theorem op_buildSlice_arr (hr : Rel P σ ρ S w) (hf : FR P σ ρ S w fr a.tmps) {t et : TypeId} {len sz : Nat} {parts : Array (Nat × Operand)} {z : AV} {ps : List (Nat × AV)} {fs : List TypeId} {cs : List AV} (h : o.op = .buildSlice t len parts)
    (ht : P.underlying t = some (.slice et)) (hz : zeroOf P et = some z) (hs : sizeB P et = some sz)
    (hps : (parts.toList.mapM fun p => partOf P fr (some et) p) = some ps) (hfs : flat P depth et = some fs)
    (h0 : sz ≠ 0) (h1 : len ≠ 0) (hsmall : len * sz ≤ 4096) (hzc : z.cells.length = sz) (hfl : fs.length = sz)
    (hfill : fillA (fun i => some (i * sz, sz)) ((List.range (len * sz)).map fun k => z.cells.getD (k % sz) .undef) ps = some cs)
    (hok : (cs.zipIdx.all fun p => match p.1 with | .e x => (fs[p.2 % sz]?).any fun ct => okCell P ct x | _ => true) = true) {k : Nat} {σ1 : Heap}
    (hfil : fillAt σ k (.raw (.arr et (elems P et sz len (cs.map AV.toE)) (ovOf sz cs))) = some σ1) :
    OpOk P σ ρ S w a o (.mv k et (elems P et sz len (cs.map AV.toE)).length 0 (elems P et sz len (cs.map AV.toE)).length) σ1 := by
  obtain ⟨i, zv, hi, hiz, hzv, hzall⟩ := zeroOf_ok (σ := σ) (ρ := ρ) (S := S) (w := w) hz
  obtain ⟨z1, z2⟩ := cells_ok hzv hzall
  have hside : Side P σ ρ S w ((List.range (len * sz)).map fun k => z.cells.getD (k % sz) .undef) ((Array.range (len * sz)).map (zv.cells[· % zv.cells.size]!)) := by
    refine ⟨by simp, fun j v hj => ?_⟩
    obtain ⟨hj', rfl⟩ := map_range_get hj
    have hm : j % sz < z.cells.length := by rw [hzc]; exact Nat.mod_lt _ (by omega)
    have hzg : z.cells[j % sz]? = some (z.cells.getD (j % sz) .undef) := by simp [List.getD_eq_getElem?_getD, hm]
    obtain ⟨h2, y, h3, h4⟩ := z2 _ _ hzg
    exact ⟨h2, y, by rw [range_zero_get (by rw [z1, hzc]) h0 hj']; exact h3, h4⟩
  obtain ⟨p1, p2⟩ := parts_ok hf (ty := fun _ => some et) hps
  obtain ⟨arr, f1, f2⟩ := fill_ok hside p1 p2 hfill
  have hrun := run_buildSlice (w := w) (ev := a.eval) h ht hs hi hiz hsmall (by
    intro e
    rcases Nat.mul_eq_zero.1 e with e | e
    · exact h1 e
    · exact h0 e) f1
  have hcl : cs.length = len * sz := by rw [fillA_length _ _ _ hfill]; simp
  have hel : (cs.map AV.toE).length = len * sz := by rw [List.length_map, hcl]
  have hagg : isAggB P et = false → sz = 1 := fun hb => by rw [← hfl, flat_one hb hfs]; rfl
  have hones : ∀ (k : Nat) (x : E), (cs.map AV.toE)[k]? = some x → (AV.e x).one = true := by
    intro k x hk
    rw [List.getElem?_map] at hk
    obtain ⟨v, hv, hx⟩ := Option.map_eq_some_iff.1 hk
    obtain ⟨ho, _⟩ := f2.2 k v hv
    cases v <;> simp [AV.toE] at hx <;> subst hx <;> first | exact ho | rfl
  have hxl : (elems P et sz len (cs.map AV.toE)).length = len := elems_length hel hagg
  have hrow := fun (i : Nat) (y : E) (hy : (elems P et sz len (cs.map AV.toE))[i]? = some y) => elems_rows hel hagg hones hy
  have has : arr.size = len * sz := by rw [f2.1, hcl]
  obtain ⟨hh, rfl⟩ := fillAt_spec hfil
  have hkl := (List.getElem?_eq_some_iff.1 hh).1
  -- a cell
  have hcellAt : ∀ (i : Nat) (y : E) (j : Nat) (x : E), (elems P et sz len (cs.map AV.toE))[i]? = some y → y.cells[j]? = some x → ∃ u, j < sz ∧ cs[i * sz + j]? = some u ∧ u.toE = x ∧ ovAt (ovOf sz cs) i j = if u.isE then none else some u := by
    intro i y j x hy hj
    have hjl : j < sz := by rw [← hrow i y hy]; exact (List.getElem?_eq_some_iff.1 hj).1
    have hk := elems_cell hel hagg hones hy hj hjl
    rw [List.getElem?_map] at hk
    obtain ⟨u, hu, hx⟩ := Option.map_eq_some_iff.1 hk
    refine ⟨u, hjl, hu, hx, ?_⟩
    have := ovAt_ovOf h0 hjl (i := i) cs 0
    unfold ovOf
    rw [this, if_pos (Nat.zero_le _), Nat.sub_zero, hu]
    rfl
  have hcell : ∀ (i : Nat) (y : E) (j : Nat) (x : E), (elems P et sz len (cs.map AV.toE))[i]? = some y → y.cells[j]? = some x →
      ∃ v, arr[i * fs.length + j]? = some v ∧ CellOk P σ ρ S w (ovAt (ovOf sz cs) i j) x v ∧ (ovAt (ovOf sz cs) i j = none → ∀ ct, fs[j]? = some ct → okCell P ct x = true) := by
    intro i y j x hy hj
    obtain ⟨u, hjl, hu, hx, hov⟩ := hcellAt i y j x hy hj
    obtain ⟨ho, v, hv, hva⟩ := f2.2 _ u hu
    refine ⟨v, by rw [hfl]; exact hv, ?_⟩
    rw [hov]
    cases hE : u.isE with
    | false => exact ⟨⟨ho, hva⟩, fun hh => by simp at hh⟩
    | true =>
      cases u <;> simp [AV.isE] at hE
      rename_i x0
      have : x0 = x := hx
      subst this
      refine ⟨hva, fun _ ct hct => ?_⟩
      have := List.all_eq_true.1 hok (.e x0, i * sz + j) (List.mem_of_getElem? (i := i * sz + j) (by rw [List.getElem?_zipIdx, hu]; simp))
      have e1 : (i * sz + j) % sz = j := by rw [Nat.mul_comm, Nat.mul_add_mod, Nat.mod_eq_of_lt hjl]
      simp only [e1, hct, Option.any_some] at this
      exact this
  obtain ⟨r1, e1⟩ := hr.layRaw (c := len) (r' := .arr et (elems P et sz len (cs.map AV.toE)) (ovOf sz cs)) (.inr hh) (NewBlock.alloc w arr et)
    ⟨_, fs, rfl, hfs, by omega, by omega, by rw [has, hfl]; exact Nat.le_refl _, by
      intro p hp
      unfold ovOf at hp
      obtain ⟨q, hq, rfl⟩ := List.mem_map.1 hp
      obtain ⟨hq, _⟩ := List.mem_filter.1 hq
      obtain ⟨m, hm⟩ := List.getElem?_of_mem hq
      rw [List.getElem?_zipIdx] at hm
      cases hc : cs[m]? with
      | none => rw [hc] at hm; cases hm
      | some u =>
        rw [hc] at hm
        simp at hm
        subst hm
        have := (List.getElem?_eq_some_iff.1 hc).1
        rw [hxl]
        show m / sz < len
        exact Nat.div_lt_of_lt_mul (by rw [Nat.mul_comm, ← hcl]; exact this), fun i y hy => by rw [hrow i y hy, hfl],
      fun i y j ct x hy hct hx hov => by
        obtain ⟨_, _, _, g⟩ := hcell i y j x hy hx
        exact g hov ct hct, fun i y j x hy hx => by
        obtain ⟨v, g1, g2, _⟩ := hcell i y j x hy hx
        exact ⟨v, g1, g2⟩⟩
  rw [hxl]
  refine ⟨_, _, _, _, _, hrun, .inl rfl, r1, e1, w.heap.size, 0, len, fs, rfl, ⟨hfs, Nat.le_refl _⟩, .inl ⟨_, _, by rw [List.getElem?_set, if_pos rfl, if_pos hkl], by rw [hxl]; omega, fun _ => ⟨len, ?_, by simp, by simp, by omega⟩⟩⟩
  rw [List.getElem?_set, if_pos rfl, if_pos (by rw [hr.len]; exact hkl)]

/-! ### As data -/

theorem meltA_spec {et : TypeId} {fs : List TypeId} (hfs : flat P depth et = some fs) : ∀ (ov : List (Nat × Nat × AV)) (xs ys : List E), meltA P et ov xs = some ys → (∀ (i : Nat) (y : E), xs[i]? = some y → y.cells.length = fs.length) →
    ys.length = xs.length ∧ (∀ (i : Nat) (y : E), ys[i]? = some y → y.cells.length = fs.length) ∧ ∀ (i : Nat) (y : E) (j : Nat) (x : E), ys[i]? = some y → y.cells[j]? = some x →
      (∃ u, ovAt ov i j = some u ∧ u.seal1 = some x ∧ ∀ ct, fs[j]? = some ct → okCell P ct x = true) ∨ (ovAt ov i j = none ∧ ∃ y0, xs[i]? = some y0 ∧ y0.cells[j]? = some x)
  | [], xs, ys, h, hl => by
    injection h with h; subst h
    exact ⟨rfl, hl, fun i y j x hy hx => .inr ⟨rfl, y, hy, hx⟩⟩
  | (i0, j0, u0) :: ov, xs, ys, h, hl => by
    unfold meltA at h
    split at h
    · rename_i zs x0 fe hz hx0 hfe
      rw [hfs] at hfe; injection hfe with hfe; subst hfe
      split at h
      · rename_i hok
        injection h with h; subst h
        obtain ⟨k1, k2, k3⟩ := meltA_spec hfs ov xs zs hz hl
        obtain ⟨ct0, hct0, hok0⟩ : ∃ ct, fs[j0]? = some ct ∧ okCell P ct x0 = true := by
          cases hq : fs[j0]? with
          | none => rw [hq] at hok; simp at hok
          | some ct => rw [hq] at hok; exact ⟨ct, rfl, by simpa using hok⟩
        have hj0 : j0 < fs.length := (List.getElem?_eq_some_iff.1 hct0).1
        have hset : ∀ y0, zs[i0]? = some y0 → (y0.setCells (isAggB P et) j0 [x0]).cells.length = fs.length ∧ ∀ k, (y0.setCells (isAggB P et) j0 [x0]).cells[k]? = if j0 ≤ k ∧ k < j0 + [x0].length then [x0][k - j0]? else y0.cells[k]? := fun y0 hy0 =>
          setCells_get hfs (k2 i0 y0 hy0) (by simp) (by simp; omega) (by simp; exact okCell_one hok0)
        refine ⟨by simp [k1], fun i y hy => ?_, fun i y j x hy hx => ?_⟩
        · rcases set_cases hy with ⟨rfl, rfl, hlt⟩ | ⟨_, hy⟩
          · have hy0 := List.getElem?_eq_getElem hlt
            have : zs.getD i .nili = zs[i] := by simp [List.getD_eq_getElem?_getD, hy0]
            rw [this]; exact (hset _ hy0).1
          · exact k2 i y hy
        · rcases set_cases hy with ⟨rfl, rfl, hlt⟩ | ⟨hne, hy⟩
          · have hy0 := List.getElem?_eq_getElem hlt
            have hg : zs.getD i .nili = zs[i] := by simp [List.getD_eq_getElem?_getD, hy0]
            rw [hg, (hset _ hy0).2] at hx
            simp only [ovAt]
            by_cases hj : j0 = j
            · subst hj
              rw [if_pos (by simp)] at hx
              simp at hx
              subst hx
              refine .inl ⟨u0, by simp, hx0, fun ct hct => ?_⟩
              rw [hct0] at hct; injection hct with hct; subst hct; exact hok0
            · rw [if_neg (by simp; omega)] at hx
              have : (j0 == j) = false := by simpa using hj
              rw [this]
              exact k3 i _ j x hy0 hx
          · have : (i0 == i) = false := by simp; exact fun e => hne e.symm
            simp only [ovAt, this]
            have := k3 i y j x hy hx
            cases (j0 == j) <;> exact this
      · cases h
    · cases h

/-- An array that nobody writes any more; of what lies over its cells less may be said. -/
theorem Rel.melt {σ0 : Heap} {S0 : Cells} (hr0 : Rel P σ0 ρ S0 w) (he0 : Ext σ0 ρ S0 w σ ρ S w) (hr : Rel P σ ρ S w) {id n : Nat} {et : TypeId} {xs ys : List E} {ov ov0 : List (Nat × Nat × AV)} (hb0 : σ0[id]? = some (.raw (.arr et xs ov0))) (hb : σ[id]? = some (.raw (.arr et xs ov0))) (hn : n = xs.length)
    (hno : ∀ i j, ovAt ov i j = none → ovAt ov0 i j = none) (hov : ∀ i j u, ovAt ov i j = some u → ∃ u0, ovAt ov0 i j = some u0 ∧ ∀ cv, VA1 P σ0 ρ S0 w u0 cv → VA1 P σ ρ S w u cv) (hm : meltA P et ov xs = some ys) :
    ∃ S', Rel P (σ.set id .dead) ρ S' w ∧ Ext σ ρ S w (σ.set id .dead) ρ S' w ∧ ∀ off len cv, VA1 P σ ρ S w (.mv id et n off len) cv → VE P w S' (.sl et ((ys.drop off).take len)) cv := by
  obtain ⟨b, c, arr, fs, ha⟩ := hr.arrIn hb
  obtain ⟨b0, c0, arr0, fs0, ha0⟩ := hr0.arrIn hb0
  have e1 := ha0.at_
  rw [ha.at_] at e1; injection e1 with e1; injection e1 with e1; injection e1 with e1 e2; subst e1; subst e2
  have e1 := ha0.heap
  rw [ha.heap] at e1; injection e1 with e1; injection e1 with e1; subst e1
  have e1 := ha0.hfs
  rw [ha.hfs] at e1; injection e1 with e1; subst e1
  obtain ⟨k1, k2, k3⟩ := meltA_spec ha.hfs ov xs ys hm ha.hlen
  have hidlt : id < σ.length := (List.getElem?_eq_some_iff.1 hb).1
  have hkeep : ∀ {i : Nat} {q : Ob}, σ[i]? = some q → (∀ r, q ≠ .raw r) → (σ.set id .dead)[i]? = some q := fun {i q} h hq => by
    rw [List.getElem?_set_ne (by rintro rfl; rw [hb] at h; injection h with h; exact hq _ h.symm)]; exact h
  have hxs : xs.length * fs.length ≤ arr.size := Nat.le_trans (Nat.mul_le_mul_right _ ha.hc) ha.hs
  have he : Ext σ ρ S w (σ.set id .dead) ρ (addRow S b (xs.length * fs.length)) w := by
    refine ⟨fun b o h => ⟨.inl h, rfl⟩, fun i cs h => ⟨⟨cs, hkeep h (by simp)⟩, rfl⟩, fun i t m h => .inl ⟨m, Nat.le_refl _, hkeep h (by simp), fun _ => rfl⟩, fun i r h => ?_, fun i h => hkeep h (by simp),
      fun _ _ _ => rfl, fun i b c h => .inr ⟨i, c, h⟩, ?_, Nat.le_refl _, rfl, rfl, rfl⟩
    · by_cases hi : i = id
      · subst hi
        rw [hb] at h; injection h with h; injection h with h; subst h
        exact .inr ⟨rfl, by simp [hidlt]⟩
      · exact .inl ⟨r, rfl, Nat.le_refl _, by rw [List.getElem?_set_ne (fun e => hi e.symm)]; exact h, fun _ => rfl⟩
    · rintro b' o (h | ⟨rfl, _⟩)
      · exact .inl h
      · exact .inr (.inr ⟨id, c, ha.at_⟩)
  have hr' : Rel P (σ.set id .dead) ρ (addRow S b (xs.length * fs.length)) w := by
    refine ⟨by simp [hr.len], fun i cs h => ?_, fun i et' n' b' c' h h' => ?_, fun i r h => ?_, fun i h => ?_, hr.lt, hr.inj, ?_, hr.glob.mono he⟩
    · rcases set_cases h with ⟨_, h, _⟩ | ⟨hi, h⟩
      · cases h
      · obtain ⟨b', c', arr', T, h1, h2, h3, h4, h5⟩ := hr.box i cs h
        have hbb : b' ≠ b := by rintro rfl; exact hi (hr.inj _ _ _ _ _ h1 ha.at_)
        refine ⟨b', c', arr', T, h1, h2, h3, fun j v hj => let ⟨h6, x, h7, h8⟩ := h4 j v hj; ⟨h6, x, h7, h8.mono he⟩, ?_, h5.2⟩
        rintro o (h | ⟨rfl, _⟩)
        · exact h5.1 o h
        · exact hbb rfl
    · rcases set_cases h with ⟨_, h, _⟩ | ⟨hi, h⟩
      · cases h
      · obtain ⟨arr', T, fs', h1, h2, h3, h4, h5⟩ := hr.vec i et' n' b' c' h h'
        have hbb : b' ≠ b := by rintro rfl; exact hi (hr.inj _ _ _ _ _ h' ha.at_)
        refine ⟨arr', T, fs', h1, h2, h3, h4, ?_, h5.2⟩
        rintro o (h | ⟨rfl, _⟩)
        · exact h5.1 o h
        · exact absurd rfl hbb
    · rcases set_cases h with ⟨_, h, _⟩ | ⟨hi, h⟩
      · cases h
      · obtain ⟨b', c', q, h1, h2, h3, h4⟩ := hr.raw i r h
        have hbb : b' ≠ b := by rintro rfl; exact hi (hr.inj _ _ _ _ _ h1 ha.at_)
        refine ⟨b', c', q, h1, h2, h3.mono he, ?_⟩
        rintro o (h | ⟨rfl, _⟩)
        · exact h4 o h
        · exact hbb rfl
    · rcases set_cases h with ⟨_, h, _⟩ | ⟨hi, h⟩
      · cases h
      · exact hr.hole i h
    · rintro b' o (h | ⟨rfl, h⟩)
      · exact hr.cells b' o h
      · exact ⟨arr[o]'(by omega), by rw [cell_of_row w _ o arr et (0, 0) ha.heap]; exact Array.getElem?_eq_getElem (by omega)⟩
  refine ⟨_, hr', he, fun off len cv hv => ?_⟩
  obtain ⟨b2, c2, arr2, fs2, o', ha2, e, ho, hle, hnc⟩ := mv_at hr hv hb hn
  have e1 := ha2.at_
  rw [ha.at_] at e1; injection e1 with e1; injection e1 with e1; injection e1 with e1 e2; subst e1; subst e2
  have e1 := ha2.hfs
  rw [ha.hfs] at e1; injection e1 with e1; subst e1
  have hrows : ∀ (i : Nat) (y : E), ys[i]? = some y → okRow P et y = true := by
    intro i y hy
    refine okRow_mk ha.hfs (k2 i y hy) fun j ct x hct hx => ?_
    rcases k3 i y j x hy hx with ⟨u, _, _, g⟩ | ⟨g1, y0, g2, g3⟩
    · exact g ct hct
    · exact ha.hok i y0 j ct x g2 hct g3 (hno i j g1)
  have hwhole : VE P w (addRow S b (xs.length * fs.length)) (.sl et ys) (.slice (some ⟨b, 0, none⟩) ys.length c) := by
    refine VE_row ha.hfs (by omega) ha.heap hrows (fun k hk => .inr ⟨rfl, by rwa [k1] at hk⟩) fun i y j x hy hx => ?_
    rcases k3 i y j x hy hx with ⟨u, g1, g2, _⟩ | ⟨g1, y0, g2, g3⟩
    · have hi : i < xs.length := by rw [← k1]; exact (List.getElem?_eq_some_iff.1 hy).1
      have hj : j < fs.length := by rw [← k2 i y hy]; exact (List.getElem?_eq_some_iff.1 hx).1
      have hy0 := List.getElem?_eq_getElem hi
      have hx0 : (xs[i]).cells[j]? = some ((xs[i]).cells[j]'(by rw [ha.hlen i _ hy0]; exact hj)) := List.getElem?_eq_getElem _
      obtain ⟨v, q1, q2⟩ := ha0.hE i _ j _ hy0 hx0
      obtain ⟨u0, g4, g5⟩ := hov i j u g1
      rw [g4] at q2
      exact ⟨v, q1, VE.mono he.cell (seal1_ok g2 (g5 v q2.2))⟩
    · obtain ⟨v, q1, q2⟩ := ha.hE i y0 j x g2 g3
      rw [hno i j g1] at q2
      exact ⟨v, q1, VE.mono he.cell q2⟩
  have hlen : ((ys.drop off).take len).length = len := by rw [List.length_take, List.length_drop]; omega
  have hlen' : ((ys.take (off + len)).drop off) = (ys.drop off).take len := by
    rw [List.take_drop]
  rw [e]
  by_cases hl0 : len = 0
  · subst hl0
    rw [List.take_zero]
    exact VE.nilSlice ha.hfs _ _
  · have h9 := VE_piece hwhole ha.hfs off (off + len) (by omega) (by omega)
    rw [hlen', if_neg (by omega)] at h9
    rw [ho (by omega)]
    have h10 : off + len - off = len := by omega
    rw [h10] at h9
    simpa [add_at] using h9
end
end Go.Den

