/- What the interpreter's values say of the model's memory, and that it stays said while the memory grows. -/
import Derived.Test.YtdlfldeacoiokaaDn01
import Derived.WalkKit
import Derived.Lib.LaidTab
import Derived.Lib.ItoaNum
namespace Go.Den
open Go

abbrev Gr := List (Option (Nat × Nat))
abbrev Cells := Nat → Nat → Prop

/-- A value in memory reads as a datum, by cells of S alone. -/
inductive VE (P : Program) (w : World) (S : Cells) : E → Value → Prop
  | int (k : IntKind) (n : Int) : VE P w S (.int k n) (.int k n)
  | bool (b : Bool) : VE P w S (.bool b) (.bool b)
  | str (s : List UInt8) (b : ByteArray) (h : b.data.toList = s) : VE P w S (.str s) (.string b)
  | sl (et : TypeId) (xs : List E) (A : Option Addr) (c : Nat) (fs : List TypeId) (b o : Nat) (f : Nat → Nat → Value)
      (hfs : flat P depth et = some fs) (hc : xs.length ≤ c)
      (hlen : ∀ (i : Nat) (y : E), xs[i]? = some y → y.cells.length = fs.length)
      (hok : ∀ (i : Nat) (y : E) (j : Nat) (ct : TypeId) (x : E), xs[i]? = some y → fs[j]? = some ct → y.cells[j]? = some x → okCell P ct x = true)
      (hA : ∀ (i : Nat) (y : E) (j : Nat) (x : E), xs[i]? = some y → y.cells[j]? = some x → A = some ⟨b, o, none⟩ ∧ S b (o + i * fs.length + j) ∧ w.cell? ⟨b, o + i * fs.length + j, none⟩ = some (f i j))
      (hE : ∀ (i : Nat) (y : E) (j : Nat) (x : E), xs[i]? = some y → y.cells[j]? = some x → VE P w S x (f i j)) :
      VE P w S (.sl et xs) (.slice A xs.length c)
  | agg (cs : List E) (arr : Array Value) (f : Nat → Value) (h1 : arr.size = cs.length)
      (h2 : ∀ (j : Nat) (x : E), cs[j]? = some x → arr[j]? = some (f j)) (h3 : ∀ (j : Nat) (x : E), cs[j]? = some x → VE P w S x (f j)) : VE P w S (.agg cs) (.agg arr)
  | ifc (t : TypeId) (x : E) (v : Value) (h : VE P w S x v) : VE P w S (.ifc t x) (.iface t v)
  | nili : VE P w S .nili .nilIface

theorem VE.mono {P : Program} {w w' : World} {S S' : Cells} (hm : ∀ b o, S b o → S' b o ∧ w'.cell? ⟨b, o, none⟩ = w.cell? ⟨b, o, none⟩) {x : E} {v : Value}
    (h : VE P w S x v) : VE P w' S' x v := by
  induction h with
  | int k n => exact .int k n
  | bool b => exact .bool b
  | str s b h => exact .str s b h
  | sl et xs A c fs b o f hfs hc hlen hok hA _ ih =>
    exact .sl et xs A c fs b o f hfs hc hlen hok (fun i y j x h1 h2 => ⟨(hA i y j x h1 h2).1, (hm _ _ (hA i y j x h1 h2).2.1).1, by rw [(hm _ _ (hA i y j x h1 h2).2.1).2]; exact (hA i y j x h1 h2).2.2⟩) ih
  | agg cs arr f h1 h2 _ ih => exact .agg cs arr f h1 h2 ih
  | ifc t x v _ ih => exact .ifc t x v ih
  | nili => exact .nili

/-- Where a growing slice lies. -/
def place (ρ : Gr) (id n : Nat) (cv : Value) : Prop :=
  (ρ[id]? = some none ∧ cv = .slice none 0 0 ∧ n = 0) ∨ ∃ b c, ρ[id]? = some (some (b, c)) ∧ cv = .slice (some ⟨b, 0, none⟩) n c

def VA1 (P : Program) (σ : Heap) (ρ : Gr) (S : Cells) (w : World) : AV → Value → Prop
  | .e x, cv => VE P w S x cv
  | .nils et, cv => cv = .slice none 0 0 ∧ ∃ fs, flat P depth et = some fs
  | .own id et xs, cv => VE P w S (.sl et xs) cv ∧ ((∃ n, σ[id]? = some (.vec et n) ∧ xs.length ≤ n ∧ (n = xs.length → place ρ id xs.length cv)) ∨ σ[id]? = some .dead)
  | .ptr id off, cv => ∃ b c, ρ[id]? = some (some (b, c)) ∧ (∃ cs, σ[id]? = some (.box cs)) ∧ cv = .pointer (some ⟨b, off, none⟩)
  | .nilp, cv => cv = .pointer none
  | .pin et y off, cv => ∃ (b o : Nat) (fs : List TypeId) (f : Nat → Value), cv = .pointer (some ⟨b, o + off, none⟩) ∧ flat P depth et = some fs ∧ y.cells.length = fs.length ∧
      (∀ (j : Nat) (ct : TypeId) (x : E), fs[j]? = some ct → y.cells[j]? = some x → okCell P ct x = true) ∧
      (∀ (j : Nat) (x : E), y.cells[j]? = some x → S b (o + j) ∧ w.cell? ⟨b, o + j, none⟩ = some (f j) ∧ VE P w S x (f j))
  | .fn f, cv => cv = .func (.func f) #[] #[]
  | .clo f ps, cv => ∃ cap : Array Value, cv = .func (.func f) #[] cap ∧ cap.size = ps.length ∧ ∀ (j : Nat) (p : Nat × Nat), ps[j]? = some p →
      ∃ b c, ρ[p.1]? = some (some (b, c)) ∧ (∃ cs, σ[p.1]? = some (.box cs)) ∧ cap[j]? = some (.pointer (some ⟨b, p.2, none⟩))
  | .itr id, cv => ∃ b c, ρ[id]? = some (some (b, c)) ∧ (∃ r, σ[id]? = some (.raw r)) ∧ cv = .pointer (some ⟨b, 0, none⟩)
  | .nsp id, cv => (∃ cs, σ[id]? = some (.box cs)) ∧ (cv = .pointer none ∨ ∃ b c, ρ[id]? = some (some (b, c)) ∧ cv = .pointer (some ⟨b, 0, none⟩))
  | .undef, _ => True
  | .agg _, _ => False
  | .tup _, _ => False

def VA2 (P : Program) (σ : Heap) (ρ : Gr) (S : Cells) (w : World) : AV → Value → Prop
  | .agg cs, cv => ∃ arr : Array Value, cv = .agg arr ∧ arr.size = cs.length ∧ ∀ (j : Nat) (v : AV), cs[j]? = some v → v.one = true ∧ ∃ x, arr[j]? = some x ∧ VA1 P σ ρ S w v x
  | v, cv => VA1 P σ ρ S w v cv

def VA3 (P : Program) (σ : Heap) (ρ : Gr) (S : Cells) (w : World) : AV → Value → Prop
  | .tup vs, cv => ∃ arr : Array Value, cv = .tuple arr ∧ arr.size = vs.length ∧ ∀ (j : Nat) (v : AV), vs[j]? = some v → ∃ x, arr[j]? = some x ∧ VA2 P σ ρ S w v x
  | v, cv => VA2 P σ ρ S w v cv

/-- An object that is no row of cells, as it lies in memory. -/
def RawOk : Raw → Obj → Prop
  | .iter s pos, o => ∃ b : ByteArray, o = .stringIter b pos ∧ b.data.toList = s

/-- Tables of the library that are read; what they hold. -/
def tabs : List (String × Array Value) := [("internal/strconv.uint64pow10", (Lib.pow10Tab.map fun z => Value.int .u64 z).toArray)]

/-- The tables lie where they lay, and no object lies there. -/
def TabsOk (P : Program) (ρ : Gr) (w : World) : Prop :=
  ∀ p ∈ tabs, ∀ g, P.globalNamed p.1 = some g → w.var? P p.1 = some p.2 ∧ g < w.heap.size ∧ ∀ (id c : Nat), ρ[id]? ≠ some (some (g, c))

/-- The objects as they lie in memory. -/
structure Rel (P : Program) (σ : Heap) (ρ : Gr) (S : Cells) (w : World) : Prop where
  len : ρ.length = σ.length
  box : ∀ (id : Nat) (cs : List AV), σ[id]? = some (.box cs) → ∃ b c arr T, ρ[id]? = some (some (b, c)) ∧ w.heap[b]? = some (.cells arr T (0, 0)) ∧ arr.size = cs.length ∧
    (∀ (j : Nat) (v : AV), cs[j]? = some v → v.one = true ∧ ∃ x, arr[j]? = some x ∧ VA1 P σ ρ S w v x) ∧ ∀ o, ¬ S b o
  vec : ∀ (id : Nat) (et : TypeId) (n b c : Nat), σ[id]? = some (.vec et n) → ρ[id]? = some (some (b, c)) → ∃ arr T fs, w.heap[b]? = some (.cells arr T (0, 0)) ∧ flat P depth et = some fs ∧
    n ≤ c ∧ c * fs.length ≤ arr.size ∧ ∀ o, S b o → o < n * fs.length
  raw : ∀ (id : Nat) (r : Raw), σ[id]? = some (.raw r) → ∃ b c o, ρ[id]? = some (some (b, c)) ∧ w.heap[b]? = some o ∧ RawOk r o ∧ ∀ o, ¬ S b o
  hole : ∀ (id : Nat), σ[id]? = some .hole → ρ[id]? = some none
  lt : ∀ (id b c : Nat), ρ[id]? = some (some (b, c)) → b < w.heap.size
  inj : ∀ (i j b c c' : Nat), ρ[i]? = some (some (b, c)) → ρ[j]? = some (some (b, c')) → i = j
  cells : ∀ (b o : Nat), S b o → ∃ v, w.cell? ⟨b, o, none⟩ = some v
  glob : TabsOk P ρ w

/-- What was said stays said: the objects are there, the cells that data reads are as they were, nothing else that was there has turned. -/
structure Ext (σ : Heap) (ρ : Gr) (S : Cells) (w : World) (σ' : Heap) (ρ' : Gr) (S' : Cells) (w' : World) : Prop where
  cell : ∀ (b o : Nat), S b o → S' b o ∧ w'.cell? ⟨b, o, none⟩ = w.cell? ⟨b, o, none⟩
  box : ∀ (id : Nat) (cs : List AV), σ[id]? = some (.box cs) → (∃ cs', σ'[id]? = some (.box cs')) ∧ ρ'[id]? = ρ[id]?
  vec : ∀ (id : Nat) (et : TypeId) (n : Nat), σ[id]? = some (.vec et n) → (∃ n', n ≤ n' ∧ σ'[id]? = some (.vec et n') ∧ (n' = n → ρ'[id]? = ρ[id]?)) ∨ σ'[id]? = some .dead
  raw : ∀ (id : Nat) (r : Raw), σ[id]? = some (.raw r) → (∃ r', σ'[id]? = some (.raw r')) ∧ ρ'[id]? = ρ[id]?
  dead : ∀ (id : Nat), σ[id]? = some .dead → σ'[id]? = some .dead
  old : ∀ (b : Nat), b < w.heap.size → (∀ (id c : Nat), ρ[id]? ≠ some (some (b, c))) → w'.heap[b]? = w.heap[b]?
  fresh : ∀ (id b c : Nat), ρ'[id]? = some (some (b, c)) → w.heap.size ≤ b ∨ ∃ (i c' : Nat), ρ[i]? = some (some (b, c'))
  newS : ∀ (b o : Nat), S' b o → S b o ∨ w.heap.size ≤ b ∨ ∃ (i c : Nat), ρ[i]? = some (some (b, c))
  size : w.heap.size ≤ w'.heap.size
  os : w'.os = w.os
  tape : w'.tape = w.tape
  output : w'.output = w.output

theorem TabsOk.mono {P : Program} {σ σ' : Heap} {ρ ρ' : Gr} {S S' : Cells} {w w' : World} (h : TabsOk P ρ w) (he : Ext σ ρ S w σ' ρ' S' w') : TabsOk P ρ' w' := by
  intro p hp g hg
  obtain ⟨h1, h2, h3⟩ := h p hp g hg
  refine ⟨?_, Nat.lt_of_lt_of_le h2 he.size, fun id c hc => ?_⟩
  · rw [← h1]
    unfold World.var?
    rw [hg]
    simp only [Option.bind_some]
    rw [he.old g h2 h3]
  · rcases he.fresh id g c hc with h4 | ⟨i, c', h4⟩
    · omega
    · exact h3 i c' h4

theorem TabsOk.mono' {P : Program} {ρ ρ' : Gr} {w : World} (h : TabsOk P ρ w) (hs : ∀ (id b c : Nat), ρ'[id]? = some (some (b, c)) → ∃ i : Nat, ρ[i]? = some (some (b, c))) : TabsOk P ρ' w := by
  intro p hp g hg
  obtain ⟨h1, h2, h3⟩ := h p hp g hg
  refine ⟨h1, h2, fun id c hc => ?_⟩
  obtain ⟨i, h4⟩ := hs id g c hc
  exact h3 i c h4

theorem Ext.refl (σ : Heap) (ρ : Gr) (S : Cells) (w : World) : Ext σ ρ S w σ ρ S w :=
  ⟨fun _ _ h => ⟨h, rfl⟩, fun _ _ h => ⟨⟨_, h⟩, rfl⟩, fun _ _ n h => .inl ⟨n, Nat.le_refl _, h, fun _ => rfl⟩, fun _ _ h => ⟨⟨_, h⟩, rfl⟩, fun _ h => h, fun _ _ _ => rfl, fun i _ c h => .inr ⟨i, c, h⟩, fun _ _ h => .inl h, Nat.le_refl _, rfl, rfl, rfl⟩

theorem Ext.trans {σ σ1 σ2 : Heap} {ρ ρ1 ρ2 : Gr} {S S1 S2 : Cells} {w w1 w2 : World} (h : Ext σ ρ S w σ1 ρ1 S1 w1) (k : Ext σ1 ρ1 S1 w1 σ2 ρ2 S2 w2) :
    Ext σ ρ S w σ2 ρ2 S2 w2 where
  cell b o hs := ⟨(k.cell b o (h.cell b o hs).1).1, (k.cell b o (h.cell b o hs).1).2.trans (h.cell b o hs).2⟩
  box id cs hb := by
    obtain ⟨⟨cs1, h1⟩, h2⟩ := h.box id cs hb
    obtain ⟨h3, h4⟩ := k.box id cs1 h1
    exact ⟨h3, h4.trans h2⟩
  vec id et n hv := by
    rcases h.vec id et n hv with ⟨n1, l1, h1, e1⟩ | h1
    · rcases k.vec id et n1 h1 with ⟨n2, l2, h2, e2⟩ | h2
      · refine .inl ⟨n2, Nat.le_trans l1 l2, h2, fun he => ?_⟩
        have hn1 : n1 = n := by omega
        subst hn1
        exact (e2 he).trans (e1 rfl)
      · exact .inr h2
    · exact .inr (k.dead id h1)
  raw id r hb := by
    obtain ⟨⟨r1, h1⟩, h2⟩ := h.raw id r hb
    obtain ⟨h3, h4⟩ := k.raw id r1 h1
    exact ⟨h3, h4.trans h2⟩
  dead id hd := k.dead id (h.dead id hd)
  old b hb hn := by
    rw [k.old b (Nat.lt_of_lt_of_le hb h.size) ?_, h.old b hb hn]
    intro id c hc
    rcases h.fresh id b c hc with h1 | ⟨i, c', h1⟩
    · omega
    · exact hn i c' h1
  fresh id b c hc := by
    rcases k.fresh id b c hc with h1 | ⟨i, c', h1⟩
    · exact .inl (Nat.le_trans h.size h1)
    · exact h.fresh i b c' h1
  newS b o hs := by
    rcases k.newS b o hs with h1 | h1 | ⟨i, c, h1⟩
    · exact h.newS b o h1
    · exact .inr (.inl (Nat.le_trans h.size h1))
    · rcases h.fresh i b c h1 with h2 | h2
      · exact .inr (.inl h2)
      · exact .inr (.inr h2)
  size := Nat.le_trans h.size k.size
  os := k.os.trans h.os
  tape := k.tape.trans h.tape
  output := k.output.trans h.output

section
variable {P : Program} {σ σ' : Heap} {ρ ρ' : Gr} {S S' : Cells} {w w' : World}

theorem VA1.mono (h : Ext σ ρ S w σ' ρ' S' w') {v : AV} {cv : Value} (hv : VA1 P σ ρ S w v cv) : VA1 P σ' ρ' S' w' v cv := by
  cases v with
  | e x => exact VE.mono h.cell hv
  | nils et => exact hv
  | own id et xs =>
    obtain ⟨h1, ⟨n, h2, h3, h4⟩ | h2⟩ := hv
    · rcases h.vec id et n h2 with ⟨n', l, h5, h6⟩ | h5
      · refine ⟨VE.mono h.cell h1, .inl ⟨n', h5, by omega, fun he => ?_⟩⟩
        have hn : n = xs.length := by omega
        have := h4 hn
        unfold place at *
        rw [h6 (by omega)]
        exact this
      · exact ⟨VE.mono h.cell h1, .inr h5⟩
    · exact ⟨VE.mono h.cell h1, .inr (h.dead id h2)⟩
  | ptr id off =>
    obtain ⟨b, c, h1, ⟨cs, h2⟩, h3⟩ := hv
    obtain ⟨h4, h5⟩ := h.box id cs h2
    exact ⟨b, c, h5.trans h1, h4, h3⟩
  | nilp => exact hv
  | pin et y off =>
    obtain ⟨b, o, fs, f, h1, h2, h3, h4, h5⟩ := hv
    exact ⟨b, o, fs, f, h1, h2, h3, h4, fun j x hj => ⟨(h.cell _ _ (h5 j x hj).1).1, (h.cell _ _ (h5 j x hj).1).2.trans (h5 j x hj).2.1, VE.mono h.cell (h5 j x hj).2.2⟩⟩
  | fn f => exact hv
  | clo f ps =>
    obtain ⟨cap, h1, h2, h3⟩ := hv
    refine ⟨cap, h1, h2, fun j p hj => ?_⟩
    obtain ⟨b, c, h4, ⟨cs, h5⟩, h6⟩ := h3 j p hj
    obtain ⟨h7, h8⟩ := h.box p.1 cs h5
    exact ⟨b, c, h8.trans h4, h7, h6⟩
  | itr id =>
    obtain ⟨b, c, h1, ⟨r, h2⟩, h3⟩ := hv
    obtain ⟨h4, h5⟩ := h.raw id r h2
    exact ⟨b, c, h5.trans h1, h4, h3⟩
  | nsp id =>
    obtain ⟨⟨cs, h1⟩, h2⟩ := hv
    obtain ⟨h3, h4⟩ := h.box id cs h1
    exact ⟨h3, h2.imp (fun h => h) fun ⟨b, c, h5, h6⟩ => ⟨b, c, h4.trans h5, h6⟩⟩
  | undef => trivial
  | agg cs => exact hv.elim
  | tup vs => exact hv.elim

theorem VA2_eq {v : AV} {cv : Value} (h : ∀ cs, v ≠ .agg cs) : VA2 P σ ρ S w v cv = VA1 P σ ρ S w v cv := by
  cases v <;> first | rfl | exact absurd rfl (h _)
theorem VA3_eq {v : AV} {cv : Value} (h : ∀ cs, v ≠ .tup cs) : VA3 P σ ρ S w v cv = VA2 P σ ρ S w v cv := by
  cases v <;> first | rfl | exact absurd rfl (h _)
theorem VA1.not_agg {v : AV} {cv : Value} (h : VA1 P σ ρ S w v cv) : ∀ cs, v ≠ .agg cs := by rintro cs rfl; exact h.elim
theorem VA1.not_tup {v : AV} {cv : Value} (h : VA1 P σ ρ S w v cv) : ∀ cs, v ≠ .tup cs := by rintro cs rfl; exact h.elim
theorem VA2.not_tup {v : AV} {cv : Value} (h : VA2 P σ ρ S w v cv) : ∀ cs, v ≠ .tup cs := by rintro cs rfl; exact h.elim

theorem VA2.mono (h : Ext σ ρ S w σ' ρ' S' w') {v : AV} {cv : Value} (hv : VA2 P σ ρ S w v cv) : VA2 P σ' ρ' S' w' v cv := by
  by_cases hh : ∃ cs, v = .agg cs
  · obtain ⟨cs, rfl⟩ := hh
    obtain ⟨arr, h1, h2, h3⟩ := hv
    refine ⟨arr, h1, h2, fun j v hj => ?_⟩
    obtain ⟨ho, x, h4, h5⟩ := h3 j v hj
    exact ⟨ho, x, h4, h5.mono h⟩
  · have hn : ∀ cs, v ≠ .agg cs := fun cs e => hh ⟨cs, e⟩
    rw [VA2_eq hn] at *
    exact hv.mono h

theorem VA3.mono (h : Ext σ ρ S w σ' ρ' S' w') {v : AV} {cv : Value} (hv : VA3 P σ ρ S w v cv) : VA3 P σ' ρ' S' w' v cv := by
  by_cases hh : ∃ cs, v = .tup cs
  · obtain ⟨vs, rfl⟩ := hh
    obtain ⟨arr, h1, h2, h3⟩ := hv
    refine ⟨arr, h1, h2, fun j v hj => ?_⟩
    obtain ⟨x, h4, h5⟩ := h3 j v hj
    exact ⟨x, h4, h5.mono h⟩
  · have hn : ∀ cs, v ≠ .tup cs := fun cs e => hh ⟨cs, e⟩
    rw [VA3_eq hn] at *
    exact hv.mono h

theorem VA1.to2 {v : AV} {cv : Value} (h : VA1 P σ ρ S w v cv) : VA2 P σ ρ S w v cv := by rw [VA2_eq h.not_agg]; exact h
theorem VA2.to3 {v : AV} {cv : Value} (h : VA2 P σ ρ S w v cv) : VA3 P σ ρ S w v cv := by rw [VA3_eq h.not_tup]; exact h
theorem VA1.to3 {v : AV} {cv : Value} (h : VA1 P σ ρ S w v cv) : VA3 P σ ρ S w v cv := h.to2.to3
end

/-- The frame's slots. -/
def FR (P : Program) (σ : Heap) (ρ : Gr) (S : Cells) (w : World) (fr : Fr) (tm : Array Value) : Prop :=
  tm.size = fr.length ∧ ∀ (t : Nat) (v : AV), fr[t]? = some v → ∃ cv, tm[t]? = some cv ∧ VA3 P σ ρ S w v cv

theorem FR.mono {P : Program} {σ σ' : Heap} {ρ ρ' : Gr} {S S' : Cells} {w w' : World} (h : Ext σ ρ S w σ' ρ' S' w') {fr : Fr} {tm : Array Value}
    (hf : FR P σ ρ S w fr tm) : FR P σ' ρ' S' w' fr tm :=
  ⟨hf.1, fun t v ht => let ⟨cv, h1, h2⟩ := hf.2 t v ht; ⟨cv, h1, h2.mono h⟩⟩

theorem FR.set {P : Program} {σ : Heap} {ρ : Gr} {S : Cells} {w : World} {fr : Fr} {tm : Array Value} (hf : FR P σ ρ S w fr tm) (d : Nat) {v : AV} {cv : Value}
    (hv : VA3 P σ ρ S w v cv) : FR P σ ρ S w (fr.set d v) (tm.setIfInBounds d cv) := by
  refine ⟨by simp [hf.1], fun t u ht => ?_⟩
  rw [List.getElem?_set] at ht
  rw [Array.getElem?_setIfInBounds]
  split at ht
  · rename_i e
    subst e
    split at ht
    · injection ht with ht
      subst ht
      exact ⟨cv, by simp [hf.1, *], hv⟩
    · cases ht
  · rename_i e
    rw [if_neg e]
    exact hf.2 t u ht

theorem FR.put {P : Program} {σ : Heap} {ρ : Gr} {S : Cells} {w : World} {fr : Fr} {a : Act} (hf : FR P σ ρ S w fr a.tmps) (d : Option Nat) {v : AV} {cv : Value}
    (hv : VA3 P σ ρ S w v cv) : FR P σ ρ S w (put fr d v) (a.put d cv).tmps := by
  cases d with
  | none => exact hf
  | some d => exact hf.set d hv

end Go.Den
