/- Dn7: texts Ze26 .. Ze38 in one. -/
import Derived.Test.YtapndkailgcboaaGreatDoorDn6
import Derived.ProofKit
import Derived.Deep.Slices
import Derived.Lib.Join
import Derived.Lib.ItoaNum
import Derived.Sort.Grow
import Derived.Below
import Derived.Deep.Draws
import Derived.Lib.Bytealg
import Derived.Lib.AtoiAll
import Derived.Lib.LaidTab
import Derived.Lib.Split
import Derived.Lib.IndexBytes
import Derived.Laws.RangeAny
import Derived.KernelRfl
/- Arguments, as a claim's row hands them in, are data. -/
namespace Go.Den
open Go Go.ChangeShapes Go.WideShapes Go.RowKit

/-- Two lists, alike in length, joined one by one. -/
inductive All2 {α β : Type} (R : α → β → Prop) : List α → List β → Prop
  | nil : All2 R [] []
  | cons {a : α} {b : β} {as : List α} {bs : List β} (h : R a b) (t : All2 R as bs) : All2 R (a :: as) (b :: bs)

section
variable {α β : Type} {R : α → β → Prop}
theorem All2.append {as : List α} {bs : List β} {as' : List α} {bs' : List β} (h : All2 R as bs) (h' : All2 R as' bs') : All2 R (as ++ as') (bs ++ bs') := by
  induction h with
  | nil => exact h'
  | cons x _ ih => exact .cons x ih
theorem All2.length {as : List α} {bs : List β} (h : All2 R as bs) : as.length = bs.length := by
  induction h with
  | nil => rfl
  | cons _ _ ih => simp [ih]
theorem All2.get {as : List α} {bs : List β} (h : All2 R as bs) : ∀ {j : Nat} {a : α} {b : β}, as[j]? = some a → bs[j]? = some b → R a b := by
  induction h with
  | nil => intro j a b h; simp at h
  | cons x _ ih =>
    intro j a b h1 h2
    cases j with
    | zero => simp at h1 h2; subst h1; subst h2; exact x
    | succ j => exact ih (by simpa using h1) (by simpa using h2)
end

/-- A cell's datum is of its type, and within its bounds. -/
inductive CellTy (P : Program) : TypeId → E → Prop
  | int (ct : TypeId) (k : IntKind) (n : Int) (h : P.underlying ct = some (.int k)) (hw : (Lit.int k n).wf = true) : CellTy P ct (.int k n)
  | bool (ct : TypeId) (b : Bool) (h : P.underlying ct = some .bool) : CellTy P ct (.bool b)
  | str (ct : TypeId) (s : List UInt8) (h : P.underlying ct = some .string) (hl : s.length ≤ maxLen) : CellTy P ct (.str s)
  | sl (ct et : TypeId) (ys : List E) (fs : List TypeId) (h : P.underlying ct = some (.slice et)) (hl : ys.length ≤ maxLen) (hf : flat P depth et = some fs)
      (hy : ∀ (i : Nat) (y : E), ys[i]? = some y → y.cells.length = fs.length ∧ (isAggB P et = true → y = .agg y.cells) ∧ (isAggB P et = false → y.cells = [y]))
      (hc : ∀ (i : Nat) (y : E) (j : Nat) (t : TypeId) (c : E), ys[i]? = some y → fs[j]? = some t → y.cells[j]? = some c → CellTy P t c) : CellTy P ct (.sl et ys)

theorem CellTy.ok {P : Program} {ct : TypeId} {x : E} (h : CellTy P ct x) : okCell P ct x = true := by
  cases h <;> simp [okCell, *]

def laidF (P : Program) : Nat → List Field → Option Nat
  | n, [] => some n
  | n, f :: fs => if f.offset = n then laidF P (n + P.cellsOf f.type) fs else none

theorem laidF_le {P : Program} : ∀ (fs : List Field) (n m : Nat), laidF P n fs = some m → n ≤ m
  | [], n, m, h => by injection h with h; omega
  | f :: fs, n, m, h => by
    unfold laidF at h
    split at h
    · have := laidF_le fs _ _ h; omega
    · cases h

/-- Types whose values are data, laid as they are read; their parts' types are in the list. -/
def shapeOk (P : Program) (L : List TypeId) (t : TypeId) : Bool :=
  match P.underlying t with
  | some (.int _) | some .bool | some .string => true
  | some (.slice e) => L.contains e && (flat P depth e).map List.length == some (P.cellsOf e)
  | some (.struct fs) => laidF P 0 fs.toList == some (P.cellsOf t) && fs.toList.all fun f => L.contains f.type
  | _ => false
def shapesB (P : Program) (L : List TypeId) : Bool := L.all (shapeOk P L)

/-- A row out of its cells. -/
def mkRow (P : Program) (t : TypeId) (es : List E) : E := if isAggB P t then .agg es else es.headD .nili

theorem flat_agg {P : Program} {t : TypeId} (ha : isAggB P t = false) {ft : List TypeId} {d : Nat} (h : flat P d t = some ft) : ft = [t] := flat_one ha h

theorem CellTy.not_agg {P : Program} {ct : TypeId} {x : E} (h : CellTy P ct x) : x.cells = [x] := by cases h <;> rfl

theorem mkRow_spec {P : Program} {t : TypeId} {ft : List TypeId} {es : List E} {d : Nat} (hf : flat P d t = some ft) (h : All2 (CellTy P) ft es) :
    (mkRow P t es).cells = es ∧ (isAggB P t = true → mkRow P t es = .agg es) ∧ (isAggB P t = false → ∃ x, es = [x] ∧ mkRow P t es = x ∧ CellTy P t x) := by
  unfold mkRow
  cases ha : isAggB P t with
  | true => exact ⟨rfl, fun _ => rfl, fun h => by cases h⟩
  | false =>
    have := flat_one ha hf
    subst this
    cases h with
    | cons hx ht =>
      cases ht
      refine ⟨?_, fun h => by (cases h), fun _ => ⟨_, rfl, ?_, hx⟩⟩ <;> simp only [Bool.false_eq_true, if_false, List.headD_cons]
      exact hx.not_agg

/-- Nothing in a datum is longer. -/
inductive SizeE (N : Nat) : E → Prop
  | int (k : IntKind) (n : Int) : SizeE N (.int k n)
  | bool (b : Bool) : SizeE N (.bool b)
  | str (s : List UInt8) (h : s.length ≤ N) : SizeE N (.str s)
  | sl (et : TypeId) (ys : List E) (h : ys.length ≤ N) (hy : ∀ y ∈ ys, ∀ c ∈ y.cells, SizeE N c) : SizeE N (.sl et ys)

/-- A property of readings, at their types, that bounds what they hold. -/
structure Hered {H : Type} (P : Program) (L : List TypeId) (Q : TypeId → DataW H → Prop) (N : Nat) : Prop where
  str : ∀ (t : TypeId) (b : List UInt8), Q t (.lit (.string b)) → b.length ≤ N
  sl : ∀ (t e : TypeId) (es sp : List (DataW H)), P.underlying t = some (.slice e) → e ∈ L → Q t (.slice es sp) → es.length ≤ N ∧ ∀ d ∈ es, Q e d
  agg : ∀ (t : TypeId) (fs : Array Field) (ps : List (DataW H)), P.underlying t = some (.struct fs) → Q t (.agg ps) → ∀ (i : Nat) (f : Field) (d : DataW H), fs[i]? = some f → ps[i]? = some d → Q f.type d
def SizedBy {H : Type} (P : Program) (L : List TypeId) (t : TypeId) (d : DataW H) (e : E) : Prop := ∀ (Q : TypeId → DataW H → Prop) (N : Nat), Hered P L Q N → Q t d → SizeE N e

/-- The reading's own reach. -/
def Reached {H : Type} (P : Program) (t : TypeId) (d : DataW H) : Prop := (d.weights P t).all (· ≤ reachBytes) = true
theorem weightsAll_mem {H : Type} {P : Program} {e : TypeId} : ∀ {l : List (DataW H)}, (DataW.weightsAll P e l).all (· ≤ reachBytes) = true → ∀ d ∈ l, Reached P e d
  | [], _, d, h => by cases h
  | x :: l, ha, d, h => by
    unfold DataW.weightsAll at ha
    rw [List.all_append, Bool.and_eq_true] at ha
    rcases List.mem_cons.1 h with rfl | h
    · exact ha.1
    · exact weightsAll_mem ha.2 d h
theorem weightsEach_get {H : Type} {P : Program} : ∀ {ts : List TypeId} {l : List (DataW H)}, (DataW.weightsEach P ts l).all (· ≤ reachBytes) = true → ∀ (i : Nat) (t : TypeId) (d : DataW H), ts[i]? = some t → l[i]? = some d → Reached P t d
  | [], _, _, i, t, d, h, _ => by simp at h
  | _ :: _, [], _, i, t, d, _, h => by simp at h
  | t' :: ts, x :: l, ha, i, t, d, h1, h2 => by
    unfold DataW.weightsEach at ha
    rw [List.all_append, Bool.and_eq_true] at ha
    cases i with
    | zero =>
      simp at h1 h2
      subst h1; subst h2
      exact ha.1
    | succ i => exact weightsEach_get ha.2 i t d (by simpa using h1) (by simpa using h2)
theorem reached_hered {H : Type} {P : Program} {L : List TypeId} (hL : L.all (fun t => decide (0 < P.bytesOf t)) = true) : Hered (H := H) P L (Reached P) reachBytes := by
  refine ⟨fun t b h => ?_, fun t e es sp ht he h => ?_, fun t fs ps ht h i f d hf hd => ?_⟩
  · unfold Reached DataW.weights at h
    simpa using h
  · unfold Reached DataW.weights at h
    simp only [ht, List.all_cons, List.all_append, Bool.and_eq_true, decide_eq_true_eq] at h
    have h0 : 0 < P.bytesOf e := by simpa using List.all_eq_true.1 hL e he
    refine ⟨?_, weightsAll_mem h.2.1⟩
    have h1 : es.length * 1 ≤ (es.length + sp.length) * P.bytesOf e := Nat.mul_le_mul (by omega) (by omega)
    omega
  · unfold Reached DataW.weights at h
    simp only [ht] at h
    exact weightsEach_get h i _ _ (by simp [hf]) hd

section
variable {H : Type} {enc : TypeId × Value → H} {P : Program} {w : World} {base : Nat} {spare : Nat → Bool} {held : Bool}

def AllCells (w : World) : Cells := fun b o => ∃ v, w.cell? ⟨b, o, none⟩ = some v

theorem open_fields {C : E → Prop} {d : Nat} {cs : List Value} : ∀ (l : List Field) (n m : Nat) (fts : List (List TypeId)), laidF P n l = some m → (l.mapM fun f => flat P d f.type) = some fts → m ≤ cs.length →
    (∀ f ∈ l, ∀ ft, flat P d f.type = some ft → ∃ es, All2 (VE P w (AllCells w)) es ((cs.drop f.offset).take (P.cellsOf f.type)) ∧ All2 (CellTy P) ft es ∧ ∀ e ∈ es, C e) →
    ∃ es, All2 (VE P w (AllCells w)) es ((cs.drop n).take (m - n)) ∧ All2 (CellTy P) fts.flatten es ∧ ∀ e ∈ es, C e
  | [], n, m, fts, h1, h2, _, _ => by
    injection h1 with h1; subst h1
    simp at h2; subst h2
    exact ⟨[], by simpa using All2.nil, .nil, by simp⟩
  | f :: l, n, m, fts, h1, h2, hm, h => by
    unfold laidF at h1
    split at h1
    · rename_i ho
      rw [List.mapM_cons] at h2
      obtain ⟨ft, hft, h2⟩ := Option.bind_eq_some_iff.1 h2
      obtain ⟨fts', hfts, h2⟩ := Option.bind_eq_some_iff.1 h2
      injection h2 with h2; subst h2
      obtain ⟨es, e1, e2, c1⟩ := h f (by simp) ft hft
      obtain ⟨es', e3, e4, c2⟩ := open_fields l _ m fts' h1 hfts hm fun f' hf' => h f' (by simp [hf'])
      have hle := laidF_le l _ _ h1
      refine ⟨es ++ es', ?_, by simpa using e2.append e4, fun e he => by rcases List.mem_append.1 he with he | he; exact c1 e he; exact c2 e he⟩
      have : (cs.drop n).take (m - n) = ((cs.drop f.offset).take (P.cellsOf f.type)) ++ ((cs.drop (n + P.cellsOf f.type)).take (m - (n + P.cellsOf f.type))) := by
        rw [ho, ← List.drop_drop]
        conv => lhs; rw [show m - n = P.cellsOf f.type + (m - (n + P.cellsOf f.type)) by omega]
        rw [List.take_add]
      rw [this]
      exact e1.append e3
    · cases h1

theorem open_cells {L : List TypeId} (hL : shapesB P L = true) : ∀ (n : Nat) (t : TypeId) (cs : List Value) (x : DataW H × List MemPlace) (d : Nat) (ft : List TypeId), DataW.trod enc P w base spare held n t cs = some x → t ∈ L → flat P d t = some ft →
    ∃ es, All2 (VE P w (AllCells w)) es cs ∧ All2 (CellTy P) ft es ∧ ∀ e ∈ es, SizedBy P L t x.1 e := by
  intro n
  induction n with
  | zero => intro t cs x d ft h; simp [DataW.trod] at h
  | succ n ih =>
    intro t cs x d ft h ht hf
    have hs := List.all_eq_true.1 hL t ht
    · cases d with
      | zero => cases hf
      | succ d =>
        unfold shapeOk at hs
        split at hs
        · rename_i kd hu
          obtain ⟨m, rfl, _, hw⟩ := DataW.trod_int hu h
          unfold flat at hf
          simp only [hu] at hf
          injection hf with hf; subst hf
          exact ⟨[.int kd m], .cons (.int kd m) .nil, .cons (.int t kd m hu hw) .nil, fun e he Q N _ _ => by simp at he; subst he; exact .int _ _⟩
        · rename_i hu
          obtain ⟨b, rfl, _⟩ := DataW.trod_bool hu h
          unfold flat at hf
          simp only [hu] at hf
          injection hf with hf; subst hf
          exact ⟨[.bool b], .cons (.bool b) .nil, .cons (.bool t b hu) .nil, fun e he Q N _ _ => by simp at he; subst he; exact .bool _⟩
        · rename_i hu
          obtain ⟨s, rfl, hxe, hl⟩ := DataW.trod_string hu h
          unfold flat at hf
          simp only [hu] at hf
          injection hf with hf; subst hf
          exact ⟨[.str s.data.toList], .cons (.str _ s rfl) .nil, .cons (.str t _ hu (by simpa using hl)) .nil, fun e he Q N hQ hq => by simp only [List.mem_singleton] at he; subst he; rw [hxe] at hq; exact .str _ (hQ.str _ _ hq)⟩
        · rename_i e hu
          unfold flat at hf
          simp only [hu] at hf
          injection hf with hf; subst hf
          rw [Bool.and_eq_true] at hs
          obtain ⟨hse, hfe⟩ := hs
          simp only [beq_iff_eq, Option.map_eq_some_iff] at hfe
          obtain ⟨fs, hfs, hfl⟩ := hfe
          rcases DataW.trod_slice hu h with ⟨rfl, _⟩ | ⟨a, len, cap, elems, rest, n', hn', rfl, hxe, _, hlc, hcm, hel, hx, _, _⟩
          · exact ⟨[.sl e []], .cons (VE.nilSlice hfs none 0) .nil, .cons (.sl t e [] fs hu (by simp) hfs (by simp) (by simp)) .nil, fun e' he Q N _ _ => by simp only [List.mem_singleton] at he; subst he; exact .sl _ _ (by simp) (by simp)⟩
          · injection hn' with hn'; subst hn'
            obtain ⟨V, hV⟩ := Go.Deep.choose_lt (α := List E × List Value) (p := fun i p => w.cells? base (a.add (i * P.cellsOf e)) (P.cellsOf e) = some p.2 ∧ All2 (VE P w (AllCells w)) p.1 p.2 ∧ All2 (CellTy P) fs p.1 ∧ ∃ z, elems[i]? = some z ∧ ∀ c ∈ p.1, SizedBy P L e z.1 c) (n := len) (fun i hi => by
              have h1 := hx i hi
              rw [List.getElem?_eq_getElem (by omega)] at h1
              obtain ⟨cs', h2, h3⟩ := Option.bind_eq_some_iff.1 h1
              obtain ⟨es, h4, h5, h6⟩ := ih e cs' _ depth fs h3 (by simpa using hse) hfs
              exact ⟨(es, cs'), h2, h4, h5, _, List.getElem?_eq_getElem (by omega), h6⟩)
            have hrow : ∀ (i : Nat) (y : E), ((List.range len).map fun i => mkRow P e (V i).1)[i]? = some y → i < len ∧ y = mkRow P e (V i).1 := fun i y hy => by
              obtain ⟨h1, h2⟩ := map_range_get hy
              exact ⟨h1, h2.symm⟩
            have hspot : ∀ (i j : Nat), i < len → j < P.cellsOf e → a.spot = none := fun i j hi hj => by
              obtain ⟨h1, h2, h3, _⟩ := hV 0 (by omega)
              obtain ⟨_, h4, h5⟩ := World.cells?_some h1
              have h6 := h5 0 (by omega)
              rw [List.getElem?_eq_getElem (by omega)] at h6
              simp only [Nat.zero_mul, Addr.add, if_pos] at h6
              unfold World.cell? at h6
              split at h6
              · split at h6
                · cases h6
                · rename_i hsp
                  cases hh : a.spot with
                  | none => rfl
                  | some _ => rw [hh] at hsp; exact absurd rfl hsp
              · cases h6
            refine ⟨[.sl e ((List.range len).map fun i => mkRow P e (V i).1)], .cons ?_ .nil, .cons ?_ .nil, ?_⟩
            · have hbase := VE.sl (P := P) (w := w) (S := AllCells w) e ((List.range len).map fun i => mkRow P e (V i).1) (some a) cap fs a.block a.off (fun i j => (V i).2.getD j undef) hfs (by simpa using hlc)
                (fun i y hy => by
                  obtain ⟨hi, rfl⟩ := hrow i y hy
                  rw [(mkRow_spec hfs (hV i hi).2.2.1).1, ← (hV i hi).2.2.1.length])
                (fun i y j ct x hy hct hx' => by
                  obtain ⟨hi, rfl⟩ := hrow i y hy
                  rw [(mkRow_spec hfs (hV i hi).2.2.1).1] at hx'
                  exact ((hV i hi).2.2.1.get hct hx').ok)
                (fun i y j x hy hx' => by
                  obtain ⟨hi, rfl⟩ := hrow i y hy
                  rw [(mkRow_spec hfs (hV i hi).2.2.1).1] at hx'
                  obtain ⟨h1, h2, h3, _⟩ := hV i hi
                  obtain ⟨_, h4, h5⟩ := World.cells?_some h1
                  have hj : j < P.cellsOf e := by rw [← h4, ← h2.length]; exact (List.getElem?_eq_some_iff.1 hx').1
                  have hsp := hspot i j hi hj
                  have ha : a = ⟨a.block, a.off, none⟩ := by
                    obtain ⟨ab, ao, as⟩ := a
                    simp at hsp; subst hsp; rfl
                  have hc : w.cell? ⟨a.block, a.off + i * fs.length + j, none⟩ = some ((V i).2.getD j undef) := by
                    have := h5 j hj
                    rw [ha, add_at, add_at] at this
                    rw [hfl, this]
                    simp [List.getD_eq_getElem?_getD, List.getElem?_eq_getElem (show j < (V i).2.length by omega)]
                  exact ⟨by rw [← ha], ⟨_, hc⟩, hc⟩)
                (fun i y j x hy hx' => by
                  obtain ⟨hi, rfl⟩ := hrow i y hy
                  rw [(mkRow_spec hfs (hV i hi).2.2.1).1] at hx'
                  have hj : j < (V i).2.length := by rw [← (hV i hi).2.1.length]; exact (List.getElem?_eq_some_iff.1 hx').1
                  exact (hV i hi).2.1.get hx' (by simp [List.getD_eq_getElem?_getD, List.getElem?_eq_getElem hj]))
              simpa using hbase
            · refine .sl t e _ fs hu (by simp; omega) hfs (fun i y hy => ?_) (fun i y j ct c hy hct hc => ?_)
              · obtain ⟨hi, rfl⟩ := hrow i y hy
                obtain ⟨h1, h2, h3⟩ := mkRow_spec hfs (hV i hi).2.2.1
                refine ⟨by rw [h1, ← (hV i hi).2.2.1.length], fun ha => by rw [h1]; exact h2 ha, fun ha => ?_⟩
                obtain ⟨x, hx1, hx2, hx3⟩ := h3 ha
                rw [hx2]; exact hx3.not_agg
              · obtain ⟨hi, rfl⟩ := hrow i y hy
                rw [(mkRow_spec hfs (hV i hi).2.2.1).1] at hc
                exact (hV i hi).2.2.1.get hct hc
            · intro e' he Q N hQ hq
              simp only [List.mem_singleton] at he
              subst he
              rw [hxe] at hq
              obtain ⟨q1, q2⟩ := hQ.sl _ _ _ _ hu (by simpa using hse) hq
              rw [List.length_map, hel] at q1
              refine .sl _ _ (by simpa using q1) fun y hy c hc => ?_
              obtain ⟨i, hi0⟩ := List.mem_iff_getElem?.1 hy
              obtain ⟨hi, rfl⟩ := hrow i y hi0
              obtain ⟨_, _, h3, z, hz, h4⟩ := hV i hi
              rw [(mkRow_spec hfs h3).1] at hc
              exact h4 c hc Q N hQ (q2 _ (List.mem_map_of_mem (List.mem_of_getElem? hz)))
        · rename_i fs hu
          rw [Bool.and_eq_true] at hs
          obtain ⟨hl, hall⟩ := hs
          unfold flat at hf
          simp only [hu, Option.map_eq_some_iff] at hf
          obtain ⟨fts, hfts, rfl⟩ := hf
          obtain ⟨xs, n', hn', hxe, hcl, hxl, hx⟩ := DataW.trod_struct hu h
          injection hn' with hn'; subst hn'
          have hl' : laidF P 0 fs.toList = some (P.cellsOf t) := by simpa using hl
          obtain ⟨es, h1, h2, h3⟩ := open_fields (C := SizedBy P L t x.1) (w := w) (cs := cs) fs.toList 0 (P.cellsOf t) fts hl' hfts (by omega) fun f hfm ft hft => by
            obtain ⟨i, hi⟩ := List.mem_iff_getElem?.1 hfm
            have hi' : fs[i]? = some f := by simpa using hi
            have := hx i f hi'
            rw [List.getElem?_eq_getElem (by rw [hxl]; exact (Array.getElem?_eq_some_iff.1 hi').1)] at this
            obtain ⟨es, k1, k2, k3⟩ := ih f.type _ _ d ft this (by simpa using List.all_eq_true.1 hall f hfm) hft
            refine ⟨es, k1, k2, fun e he Q N hQ hq => k3 e he Q N hQ ?_⟩
            rw [hxe] at hq
            exact hQ.agg _ _ _ hu hq i f _ hi' (by rw [List.getElem?_map, List.getElem?_eq_getElem (by rw [hxl]; exact (Array.getElem?_eq_some_iff.1 hi').1)]; rfl)
          refine ⟨es, ?_, h2, h3⟩
          simpa [← hcl] using h1
        · cases hs

/-- An argument, as the interpreter takes it. -/
def argOf (P : Program) (t : TypeId) (es : List E) : AV := if isAggB P t then .agg (es.map AV.e) else .e (es.headD .nili)

theorem okWide_agg {r : Reach} {b0 : Nat} {t : TypeId} {v : Value} (ha : isAggB P t = true) (hval : Value.okWide P w r b0 t v) : ∃ cs, v = .agg cs := by
  unfold isAggB at ha
  unfold Value.okWide at hval
  split at ha
  · rename_i fs hu; rw [hu] at hval; obtain ⟨cs, h, _⟩ := hval; exact ⟨cs, h⟩
  · rename_i n e hu; rw [hu] at hval; obtain ⟨cs, h, _⟩ := hval; exact ⟨cs, h⟩
  · cases ha

theorem open_data {r : Reach} {b0 : Nat} {t : TypeId} {v : Value} {d : DataW H} {ps : List MemPlace} {ft : List TypeId} {L : List TypeId} (hL : shapesB P L = true) (hs : t ∈ L) (hf : flat P depth t = some ft)
    (hval : Value.okWide P w r b0 t v) (hd : DataW.Trod enc P w base spare held t v d ps) :
    ∃ es, All2 (CellTy P) ft es ∧ VA2 P [] [] (AllCells w) w (argOf P t es) v ∧ ∀ e ∈ es, SizedBy P L t d e := by
  obtain ⟨n, hn⟩ := hd
  obtain ⟨es, h1, h2, h9⟩ := open_cells hL n t _ _ depth ft hn hs hf
  refine ⟨es, h2, ?_, h9⟩
  unfold argOf
  cases ha : isAggB P t with
  | true =>
    obtain ⟨cs, rfl⟩ := okWide_agg ha hval
    have h1' : All2 (VE P w (AllCells w)) es cs.toList := h1
    refine ⟨cs, rfl, by rw [List.length_map, h1'.length]; simp, fun j u hj => ?_⟩
    rw [List.getElem?_map] at hj
    obtain ⟨x, hx, rfl⟩ := Option.map_eq_some_iff.1 hj
    have hjl : j < cs.toList.length := by rw [← h1'.length]; exact (List.getElem?_eq_some_iff.1 hx).1
    have hjf : j < ft.length := by rw [h2.length]; exact (List.getElem?_eq_some_iff.1 hx).1
    have hty := h2.get (List.getElem?_eq_getElem hjf) hx
    refine ⟨okCell_one hty.ok, cs.toList[j], by rw [← Array.getElem?_toList]; exact List.getElem?_eq_getElem hjl, ?_⟩
    exact h1'.get hx (List.getElem?_eq_getElem hjl)
  | false =>
    have := flat_one ha hf
    subst this
    cases h2 with
    | cons hx ht =>
      cases ht
      rename_i x
      have hc : v.cells.toList = [v] := by
        have hl := h1.length
        cases v with
        | agg cs =>
          exfalso
          unfold Value.okWide at hval
          unfold isAggB at ha
          cases hx <;> simp_all [Cell.okWide, Cell.ok]
        | _ => rfl
      rw [hc] at h1
      cases h1 with
      | cons hv _ => exact VA1.to2 (show VA1 P [] [] (AllCells w) w (.e x) v from hv)

end
end Go.Den

/- From a run of the interpreter to a row: a law that returns true, whatever data it is handed, and leaves all that was there. -/
namespace Go.Den
open Go Go.ChangeShapes Go.WideShapes Go.RowKit

section
variable {H : Type} {enc : TypeId × Value → H} {P : Program}

theorem trodAll_stays (hl : laidOutB P = true) {W W' : World} (hb : Below W.heap.size W W') : ∀ {ts : List TypeId} {vs : List Value} {ds : List (DataW H)} {ps : List MemPlace},
    (∀ t ∈ ts, P.readableRec t = true ∧ t < P.types.size) → DataW.TrodAll enc P W 0 (fun _ => true) true ts vs ds ps → (∀ x ∈ ps, x.block < W.heap.size) →
    DataW.TrodAll enc P W' 0 (fun b => decide (b < W.heap.size)) true ts vs ds ps
  | [], _, _, _, _, h, _ => by
    obtain ⟨rfl, rfl, rfl⟩ := trodAll_nil h
    rfl
  | t :: ts, _, _, _, ht, h, hlt => by
    obtain ⟨v, vs, d, ds, p, q, rfl, rfl, rfl, h1, h2⟩ := trodAll_cons h
    exact ⟨p, q, Below.trod hl (ht t (by simp)).1 (ht t (by simp)).2 h1 hb (fun x hx => hlt x (by simp [hx])), trodAll_stays hl hb (fun t' h' => ht t' (by simp [h'])) h2 (fun x hx => hlt x (by simp [hx])), rfl⟩

theorem trodAll_len {w : World} {base : Nat} {sp : Nat → Bool} {held : Bool} : ∀ {ts : List TypeId} {vs : List Value} {ds : List (DataW H)} {ps : List MemPlace}, DataW.TrodAll enc P w base sp held ts vs ds ps → ds.length = ts.length
  | [], _, _, _, h => by obtain ⟨_, rfl, _⟩ := trodAll_nil h; rfl
  | _ :: _, _, _, _, h => by
    obtain ⟨v, vs', d, ds', p', q', _, rfl, _, _, h2⟩ := trodAll_cons h
    simp [trodAll_len h2]

/-- A parameter's types, as the interpreter needs them. -/
def paramB (P : Program) (L : List TypeId) (t : TypeId) : Bool := L.contains t && (flat P depth t).isSome && P.readableRec t && decide (t < P.types.size)

def ParamTy (P : Program) (t : TypeId) (es : List E) : Prop := ∃ ft, flat P depth t = some ft ∧ All2 (CellTy P) ft es

theorem trodAll_open {w : World} {base : Nat} {r : Reach} {L : List TypeId} (hL : shapesB P L = true) : ∀ {ts : List TypeId} {vs : List Value} {ds : List (DataW H)} {ps : List MemPlace},
    (∀ t ∈ ts, paramB P L t = true) → DataW.TrodAll enc P w 0 (fun _ => true) true ts vs ds ps → (∀ (j : Nat) (t : TypeId) (v : Value), ts[j]? = some t → vs[j]? = some v → Value.okWide P w r base t v) →
    ∃ ess : List (List E), All2 (ParamTy P) ts ess ∧ vs.length = (List.zipWith (argOf P) ts ess).length ∧
      (∀ (j : Nat) (a : AV), (List.zipWith (argOf P) ts ess)[j]? = some a → ∃ v, vs[j]? = some v ∧ VA2 P [] [] (AllCells w) w a v) ∧
      ∀ (Q : TypeId → DataW H → Prop) (N : Nat), Hered P L Q N → (∀ (i : Nat) (t : TypeId) (d : DataW H), ts[i]? = some t → ds[i]? = some d → Q t d) → ∀ es ∈ ess, ∀ e ∈ es, SizeE N e
  | [], _, _, _, _, h, _ => by
    obtain ⟨rfl, rfl, rfl⟩ := trodAll_nil h
    exact ⟨[], .nil, rfl, by simp, by simp⟩
  | t :: ts, _, _, _, ht, h, hval => by
    obtain ⟨v, vs, d, ds, p, q, rfl, rfl, rfl, h1, h2⟩ := trodAll_cons h
    obtain ⟨ess, k1, k2, k3, k4⟩ := trodAll_open hL (fun t' h' => ht t' (by simp [h'])) h2 (fun j t' v' e1 e2 => hval (j + 1) t' v' (by simpa using e1) (by simpa using e2))
    have hp := ht t (by simp)
    unfold paramB at hp
    simp only [Bool.and_eq_true, decide_eq_true_eq] at hp
    obtain ⟨ft, hft⟩ := Option.isSome_iff_exists.1 hp.1.1.2
    obtain ⟨es, e1, e2, e3⟩ := open_data hL (by simpa using hp.1.1.1) hft (hval 0 t v rfl rfl) h1
    refine ⟨es :: ess, .cons ⟨ft, hft, e1⟩ k1, by simpa using k2, ?_, ?_⟩
    · intro j a ha
      cases j with
      | zero => simp at ha; subst ha; exact ⟨v, rfl, e2⟩
      | succ j => exact k3 j a (by simpa using ha)
    · intro Q N hQ hd es' he' e he
      rcases List.mem_cons.1 he' with rfl | he'
      · exact e3 e he Q N hQ (hd 0 t d rfl rfl)
      · exact k4 Q N hQ (fun i t' d' h1 h2 => hd (i + 1) t' d' (by simpa using h1) (by simpa using h2)) es' he' e he

/-- .. where what they are handed is bounded. -/
def LawRunsTo (N : Nat) (P : Program) (H : Hints) (n : FuncId) (ts : List TypeId) : Prop :=
  ∀ ess : List (List E), All2 (ParamTy P) ts ess → (∀ es ∈ ess, ∀ e ∈ es, SizeE N e) → ∃ k, runK P H k none n (List.zipWith (argOf P) ts ess) [] = some (.ret (.e (.bool true)), [])
/-- What the law's runs must come to. -/
def LawRuns (P : Program) (H : Hints) (n : FuncId) (ts : List TypeId) : Prop :=
  ∀ ess : List (List E), All2 (ParamTy P) ts ess → ∃ k, runK P H k none n (List.zipWith (argOf P) ts ess) [] = some (.ret (.e (.bool true)), [])

theorem Rel.empty {w : World} (hT : TabsOk P [] w) : Rel P [] [] (AllCells w) w :=
  ⟨rfl, fun id cs h => by simp at h, fun id et n b c h => by simp at h, fun id r h => by simp at h, fun id h => by simp at h, fun id b c h => by simp at h, fun i j b c c' h => by simp at h, fun _ _ h => h, hT⟩

theorem law_contract_at {Hn : Hints} {L : List TypeId} (hL : shapesB P L = true) {n : FuncId} {f : Func} {s : ChangeSpec} {conds : List PathCond} {tb : TypeId} (hm : P.follows .mixedOrders = true) (hN : Named P) (hprim : PrimOk P Hn)
    (hl : laidOutB P = true) (hps : f.params.toList.all (paramB P L) = true) (hres : f.resultTypes = #[tb]) (hb : P.underlying tb = some .bool) (hvars : s.vars = [])
    (hfn : ∀ ds : List (DataW H), ds.length = f.params.toList.length → s.fn H ds = { results := [.lit (.bool true)], args := ds })
    (W : World) (hT : TabsOk P [] W) (base : Nat) (args : Array Value) (ds gs : List (DataW H)) (hrun : ∀ ess : List (List E), All2 (ParamTy P) f.params.toList ess → (∀ (Q : TypeId → DataW H → Prop) (N : Nat), Hered P L Q N → (∀ (i : Nat) (t : TypeId) (d : DataW H), f.params.toList[i]? = some t → ds[i]? = some d → Q t d) → ∀ es ∈ ess, ∀ e ∈ es, SizeE N e) →
      ∃ k, runK P Hn k none n (List.zipWith (argOf P) f.params.toList ess) [] = some (.ret (.e (.bool true)), [])) (before : List MemPlace)
    (hval : ∀ (j : Nat) t v, f.params[j]? = some t → args[j]? = some v → Value.okWide P W .any base t v)
    (hW : DataW.Whole enc P f.params.toList s.vars false W args.toList ds gs before) (_ : conds.all (PathCond.test P ⟨f.params.toList, ds, s.plain.varTypes P, gs⟩) = true) :
    Calls P n args W fun e W' => ∃ v, e = .returned v ∧ s.post enc P f false true false false W args v W' := by
  obtain ⟨p, q, hA, hV, hbefore, hfz, hnd⟩ := id hW
  have hV' : DataW.TrodVars enc P W (fun _ => true) [] gs q := by rw [← hvars]; exact hV
  obtain ⟨rfl, rfl⟩ := trodVars_none hV'
  have hps' : ∀ t ∈ f.params.toList, paramB P L t = true := List.all_eq_true.1 hps
  obtain ⟨ess, h1, h2, h3, h4⟩ := trodAll_open (r := .any) (base := base) hL hps' hA fun j t v e1 e2 => hval j t v (by simpa using e1) (by simpa using e2)
  obtain ⟨k, hk⟩ := hrun ess h1 h4
  obtain ⟨_, hc⟩ := (runK_ok hm hN hprim k).1 none n _ _ _ _ hk
  refine (hc [] (AllCells W) W args (Rel.empty hT) ⟨by simpa using h2, ?_⟩).mono ?_
  · intro j a ha
    obtain ⟨v, e1, e2⟩ := h3 j a ha
    exact ⟨v, by simpa using e1, e2⟩
  · rintro e W' ⟨ρ', S', r1, r2, cv, rfl, r3⟩
    have hcv : VE P W' S' (.bool true) cv := r3
    cases hcv
    have hbelow : Below W.heap.size W W' := ⟨r2.os, r2.tape, r2.output, r2.size, fun b hb => r2.old b hb (fun id c => by simp)⟩
    have hlt : ∀ x ∈ p, x.block < W.heap.size := fun x hx => hW.lt x (by rw [hbefore]; simp [hx])
    have hdl : ds.length = f.params.toList.length := trodAll_len hA
    have hspec := hfn ds hdl
    refine ⟨.bool true, rfl, ds, [], before, [], p, [], hW, ?_, ?_, ?_, hbelow.frame _, fun h => by cases h⟩
    · rw [List.append_nil, hspec, hres]
      exact trodAll_mk1 (shut_bool hb true)
    · rw [List.append_nil, hspec]
      exact trodAll_stays hl hbelow (fun t ht => by
        have := hps' t ht
        unfold paramB at this
        simp only [Bool.and_eq_true, decide_eq_true_eq] at this
        exact ⟨this.1.2, this.2⟩) hA hlt
    · rw [List.append_nil, hspec, hvars]
      rfl

theorem law_contract {Hn : Hints} {L : List TypeId} (hL : shapesB P L = true) {n : FuncId} {f : Func} {s : ChangeSpec} {conds : List PathCond} {tb : TypeId} (hm : P.follows .mixedOrders = true) (hN : Named P) (hprim : PrimOk P Hn)
    (hl : laidOutB P = true) (hps : f.params.toList.all (paramB P L) = true) (hres : f.resultTypes = #[tb]) (hb : P.underlying tb = some .bool) (hvars : s.vars = [])
    (hfn : ∀ ds : List (DataW H), ds.length = f.params.toList.length → s.fn H ds = { results := [.lit (.bool true)], args := ds })
    (hrun : LawRuns P Hn n f.params.toList) (W : World) (hT : TabsOk P [] W) (base : Nat) (args : Array Value) (ds gs : List (DataW H)) (before : List MemPlace)
    (hval : ∀ (j : Nat) t v, f.params[j]? = some t → args[j]? = some v → Value.okWide P W .any base t v)
    (hW : DataW.Whole enc P f.params.toList s.vars false W args.toList ds gs before) (_ : conds.all (PathCond.test P ⟨f.params.toList, ds, s.plain.varTypes P, gs⟩) = true) :
    Calls P n args W fun e W' => ∃ v, e = .returned v ∧ s.post enc P f false true false false W args v W' :=
  law_contract_at hL hm hN hprim hl hps hres hb hvars hfn W hT base args ds gs (fun ess h _ => hrun ess h) before hval hW ‹_›

theorem law_contract_to {N : Nat} {Q : TypeId → DataW H → Prop} {Hn : Hints} {L : List TypeId} (hQ : Hered P L Q N) (hL : shapesB P L = true) {n : FuncId} {f : Func} {s : ChangeSpec} {conds : List PathCond} {tb : TypeId} (hm : P.follows .mixedOrders = true) (hN : Named P) (hprim : PrimOk P Hn)
    (hl : laidOutB P = true) (hps : f.params.toList.all (paramB P L) = true) (hres : f.resultTypes = #[tb]) (hb : P.underlying tb = some .bool) (hvars : s.vars = [])
    (hfn : ∀ ds : List (DataW H), ds.length = f.params.toList.length → s.fn H ds = { results := [.lit (.bool true)], args := ds })
    (hrun : LawRunsTo N P Hn n f.params.toList) (W : World) (hT : TabsOk P [] W) (base : Nat) (args : Array Value) (ds gs : List (DataW H)) (before : List MemPlace) (hds : ∀ (i : Nat) (t : TypeId) (d : DataW H), f.params.toList[i]? = some t → ds[i]? = some d → Q t d)
    (hval : ∀ (j : Nat) t v, f.params[j]? = some t → args[j]? = some v → Value.okWide P W .any base t v)
    (hW : DataW.Whole enc P f.params.toList s.vars false W args.toList ds gs before) (_ : conds.all (PathCond.test P ⟨f.params.toList, ds, s.plain.varTypes P, gs⟩) = true) :
    Calls P n args W fun e W' => ∃ v, e = .returned v ∧ s.post enc P f false true false false W args v W' :=
  law_contract_at hL hm hN hprim hl hps hres hb hvars hfn W hT base args ds gs (fun ess h hs => hrun ess h (hs Q N hQ hds)) before hval hW ‹_›
end
end Go.Den

/- The interpreter without a bound on its steps: what it comes to from some number of steps on. -/
namespace Go.Den
open Go

/-- From some number on. -/
def Later (p : Nat → Prop) : Prop := ∃ k0, ∀ k, k0 ≤ k → p k

theorem Later.all {p : Nat → Prop} (h : ∀ k, p k) : Later p := ⟨0, fun k _ => h k⟩
theorem Later.mono {p q : Nat → Prop} (h : Later p) (hpq : ∀ k, p k → q k) : Later q := let ⟨k0, hk⟩ := h; ⟨k0, fun k hl => hpq k (hk k hl)⟩
theorem Later.and {p q : Nat → Prop} (h : Later p) (h' : Later q) : Later fun k => p k ∧ q k :=
  let ⟨k0, hk⟩ := h; let ⟨k1, hk'⟩ := h'; ⟨max k0 k1, fun k hl => ⟨hk k (by omega), hk' k (by omega)⟩⟩

/-- What a tree comes to, it comes to where its calls do from some number on. -/
theorem go_ev {R : Type} {run : RunF} {loop : Code → Fr → Heap → Option Out} {rk : Nat → RunF} {lk : Nat → Code → Fr → Heap → Option Out} {lr : Res → Heap → Option R} {lo : Out → Option R} {r : R}
    (hr : ∀ md f a s q, run md f a s = some q → Later fun k => rk k md f a s = some q) (hl : ∀ b fr s q, loop b fr s = some q → Later fun k => lk k b fr s = some q) :
    ∀ {t : T}, t.go run loop lr lo = some r → Later fun k => t.go (rk k) (lk k) lr lo = some r
  | .fail, h => by cases h
  | .res _ _, h => Later.all fun _ => h
  | .out _, h => Later.all fun _ => h
  | .br b x y, h => by
    cases b with
    | true => exact go_ev (t := x) hr hl h
    | false => exact go_ev (t := y) hr hl h
  | .call m f as σ k, h => by
    obtain ⟨q, h1, h2⟩ := Option.bind_eq_some_iff.1 h
    refine ((hr m f as σ q h1).and (go_ev (t := k q) hr hl h2)).mono fun j hj => ?_
    show (rk j m f as σ).bind _ = _
    rw [hj.1]
    exact hj.2
  | .loop b fr σ k, h => by
    obtain ⟨q, h1, h2⟩ := Option.bind_eq_some_iff.1 h
    refine ((hl b fr σ q h1).and (go_ev (t := k q) hr hl h2)).mono fun j hj => ?_
    show (lk j b fr σ).bind _ = _
    rw [hj.1]
    exact hj.2

section
variable (P : Program) (H : Hints)

open Classical in
noncomputable def run (md : Mode) (f : FuncId) (args : List AV) (σ : Heap) : Option (Res × Heap) :=
  if h : ∃ r, Later fun k => runK P H k md f args σ = some r then some h.choose else none
open Classical in
noncomputable def loop (f : FuncId) (m : Nat) (b : Code) (fr : Fr) (σ : Heap) : Option Out :=
  if h : ∃ r, Later fun k => loopK P H k f m b fr σ = some r then some h.choose else none

variable {P H}
theorem Later.uniq {α : Type} {g : Nat → Option α} {x y : α} (h : Later fun k => g k = some x) (h' : Later fun k => g k = some y) : x = y := by
  obtain ⟨k0, hk⟩ := h.and h'
  obtain ⟨h1, h2⟩ := hk k0 (Nat.le_refl _)
  rw [h1] at h2; injection h2

theorem run_iff {md : Mode} {f : FuncId} {args : List AV} {σ : Heap} {r : Res × Heap} : run P H md f args σ = some r ↔ Later fun k => runK P H k md f args σ = some r := by
  unfold run
  constructor
  · intro h
    split at h
    · rename_i hh; injection h with h; rw [← h]; exact hh.choose_spec
    · cases h
  · intro h
    have hh : ∃ r, Later fun k => runK P H k md f args σ = some r := ⟨r, h⟩
    rw [dif_pos hh, hh.choose_spec.uniq h]

theorem loop_iff {f : FuncId} {m : Nat} {b : Code} {fr : Fr} {σ : Heap} {r : Out} : loop P H f m b fr σ = some r ↔ Later fun k => loopK P H k f m b fr σ = some r := by
  unfold loop
  constructor
  · intro h
    split at h
    · rename_i hh; injection h with h; rw [← h]; exact hh.choose_spec
    · cases h
  · intro h
    have hh : ∃ r, Later fun k => loopK P H k f m b fr σ = some r := ⟨r, h⟩
    rw [dif_pos hh, hh.choose_spec.uniq h]

theorem Later.shift {p : Nat → Prop} (h : Later fun k => p (k + 1)) : Later p := by
  obtain ⟨k0, hk⟩ := h
  refine ⟨k0 + 1, fun k hl => ?_⟩
  obtain ⟨j, rfl⟩ : ∃ j, k = j + 1 := ⟨k - 1, by omega⟩
  exact hk j (by omega)

/-- A function's equation: its body, at the limit. -/
theorem run_of_body {md : Mode} {f : FuncId} {args : List AV} {σ : Heap} {r : Res × Heap} (h : bodyRun P H (run P H) (loop P H) md f args σ = some r) : run P H md f args σ = some r := by
  rw [run_iff]
  refine Later.shift ?_
  have e : ∀ k, runK P H (k + 1) md f args σ = bodyRun P H (runK P H k) (loopK P H k) md f args σ := fun k => by rw [runK]
  simp only [e]
  exact go_ev (fun md f a s q h => run_iff.1 h) (fun b fr s q h => loop_iff.1 h) h

theorem loop_of_body {f : FuncId} {m : Nat} {b : Code} {fr : Fr} {σ : Heap} {r : Out} (h : bodyLoop P H (run P H) (loop P H) f m b fr σ = some r) : loop P H f m b fr σ = some r := by
  rw [loop_iff]
  refine Later.shift ?_
  have e : ∀ k, loopK P H (k + 1) f m b fr σ = bodyLoop P H (runK P H k) (loopK P H k) f m b fr σ := fun k => by rw [loopK]
  simp only [e]
  exact go_ev (fun md f a s q h => run_iff.1 h) (fun b fr s q h => loop_iff.1 h) h

/-- A run with a bound is a run. -/
theorem lawRuns_of {n : FuncId} {ts : List TypeId} (h : ∀ ess : List (List E), All2 (ParamTy P) ts ess → run P H none n (List.zipWith (argOf P) ts ess) [] = some (.ret (.e (.bool true)), [])) : LawRuns P H n ts := by
  intro ess he
  obtain ⟨k0, hk⟩ := run_iff.1 (h ess he)
  exact ⟨k0, hk k0 (Nat.le_refl _)⟩

theorem Later.here {p : Prop} (h : Later fun _ => p) : p := let ⟨k0, hk⟩ := h; hk k0 (Nat.le_refl _)

theorem runK_step : ∀ k, (∀ md f a s r, runK P H k md f a s = some r → runK P H (k + 1) md f a s = some r) ∧ (∀ f m b fr s o, loopK P H k f m b fr s = some o → loopK P H (k + 1) f m b fr s = some o)
  | 0 => ⟨fun md f a s r h => by simp [runK] at h, fun f m b fr s o h => by simp [loopK] at h⟩
  | k + 1 => by
    obtain ⟨h1, h2⟩ := runK_step k
    constructor
    · intro md f args σ r h
      rw [runK] at h ⊢
      exact Later.here (go_ev (rk := fun _ => runK P H (k + 1)) (lk := fun _ => loopK P H (k + 1) f σ.length) (fun md f a s q h => Later.all fun _ => h1 _ _ _ _ _ h) (fun b fr s q h => Later.all fun _ => h2 _ _ _ _ _ _ h) h)
    · intro f m b fr σ r h
      rw [loopK] at h ⊢
      exact Later.here (go_ev (rk := fun _ => runK P H (k + 1)) (lk := fun _ => loopK P H (k + 1) f m) (fun md f a s q h => Later.all fun _ => h1 _ _ _ _ _ h) (fun b fr s q h => Later.all fun _ => h2 _ _ _ _ _ _ h) h)

theorem run_of_runK {k : Nat} {md : Mode} {f : FuncId} {args : List AV} {σ : Heap} {r : Res × Heap} (h : runK P H k md f args σ = some r) : run P H md f args σ = some r := by
  rw [run_iff]
  refine ⟨k, fun j hj => ?_⟩
  induction j with
  | zero => have : k = 0 := by omega
            subst this; exact h
  | succ j ih =>
    by_cases he : k = j + 1
    · subst he; exact h
    · exact (runK_step j).1 _ _ _ _ _ (ih (by omega))

/-- What the limit says is so. -/
theorem run_ok (hm : P.follows .mixedOrders = true) (hN : Named P) (hprim : PrimOk P H) : RunOk P (run P H) := by
  intro md f args σ r σ' h
  obtain ⟨k0, hk⟩ := run_iff.1 h
  exact (runK_ok hm hN hprim k0).1 md f args σ r σ' (hk k0 (Nat.le_refl _))
end

/-! ### For laws -/

@[simp] theorem val_bool (b : Bool) : (Res.ret (.e (.bool b))).val.data.toBool = b := rfl
@[simp] theorem val_int (k : IntKind) (n : Int) : (Res.ret (.e (.int k n))).val.data.toInt = n := rfl

theorem CellTy.int_inv {P : Program} {ct : TypeId} {k : IntKind} (hu : P.underlying ct = some (.int k)) {x : E} (h : CellTy P ct x) : ∃ n, x = .int k n ∧ (Lit.int k n).wf = true := by
  cases h <;> simp_all
theorem CellTy.bool_inv {P : Program} {ct : TypeId} (hu : P.underlying ct = some .bool) {x : E} (h : CellTy P ct x) : ∃ b, x = .bool b := by
  cases h <;> simp_all
theorem CellTy.str_inv {P : Program} {ct : TypeId} (hu : P.underlying ct = some .string) {x : E} (h : CellTy P ct x) : ∃ s, x = .str s ∧ s.length ≤ maxLen := by
  cases h <;> simp_all
theorem CellTy.sl_inv {P : Program} {ct et : TypeId} (hu : P.underlying ct = some (.slice et)) {x : E} (h : CellTy P ct x) : ∃ ys fs, x = .sl et ys ∧ ys.length ≤ maxLen ∧ flat P depth et = some fs ∧
    (∀ (i : Nat) (y : E), ys[i]? = some y → y.cells.length = fs.length ∧ (isAggB P et = true → y = .agg y.cells) ∧ (isAggB P et = false → y.cells = [y])) ∧
    (∀ (i : Nat) (y : E) (j : Nat) (t : TypeId) (c : E), ys[i]? = some y → fs[j]? = some t → y.cells[j]? = some c → CellTy P t c) := by
  cases h with
  | sl _ _ ys fs hu' hl hf hy hc =>
    rw [hu] at hu'
    injection hu' with hu'
    injection hu' with hu'
    subst hu'
    exact ⟨ys, fs, rfl, hl, hf, hy, hc⟩
  | _ => simp_all

theorem ParamTy.inv {P : Program} {t : TypeId} {es : List E} {ft : List TypeId} (hf : flat P depth t = some ft) (h : ParamTy P t es) : All2 (CellTy P) ft es := by
  obtain ⟨ft', h1, h2⟩ := h
  rw [hf] at h1
  injection h1 with h1
  subst h1
  exact h2

theorem All2.nil_inv {α β : Type} {R : α → β → Prop} {bs : List β} (h : All2 R [] bs) : bs = [] := by cases h; rfl
theorem All2.cons_inv {α β : Type} {R : α → β → Prop} {a : α} {as : List α} {bs : List β} (h : All2 R (a :: as) bs) : ∃ b bs', bs = b :: bs' ∧ R a b ∧ All2 R as bs' := by
  cases h with
  | cons h t => exact ⟨_, _, rfl, h, t⟩

end Go.Den

/- Functions of the library, by their contracts. -/
namespace Go.Den
open Go Go.RowKit

section
variable {P : Program} {σ : Heap} {ρ : Gr} {S : Cells} {w w' : World}

/-- What was there stays there. -/
theorem ext_below (hr : Rel P σ ρ S w) (hb : Below w.heap.size w w') : Rel P σ ρ S w' ∧ Ext σ ρ S w σ ρ S w' := by
  have hold : ∀ b, b < w.heap.size → w'.heap[b]? = w.heap[b]? := hb.block
  have he : Ext σ ρ S w σ ρ S w' := by
    refine ⟨fun b o h => ⟨h, ?_⟩, fun i cs h => ⟨⟨cs, h⟩, rfl⟩, fun i t n h => .inl ⟨n, Nat.le_refl _, h, fun _ => rfl⟩, fun i r h => .inl ⟨r, rfl, Nat.le_refl _, h, fun _ => rfl⟩, fun i h => h, fun b h _ => hold b h, fun i _ c h => .inr ⟨i, c, h⟩, fun _ _ h => .inl h, hb.size, hb.os, hb.tape, hb.output⟩
    obtain ⟨v, hv⟩ := hr.cells b o h
    exact cell_of_heap (hold b (cell_lt hv))
  refine ⟨⟨hr.len, fun i cs h => ?_, fun i et n b c h h' => ?_, fun i r h => ?_, hr.hole, fun i b c h => Nat.lt_of_lt_of_le (hr.lt i b c h) hb.size, hr.inj, fun b o h => ?_, hr.glob.mono he⟩, he⟩
  · obtain ⟨b, c, arr, T, h1, h2, h3, h4, h5⟩ := hr.box i cs h
    exact ⟨b, c, arr, T, h1, (hold b (heap_lt h2)).trans h2, h3, fun j v hj => let ⟨h6, x, h7, h8⟩ := h4 j v hj; ⟨h6, x, h7, h8.mono he⟩, h5⟩
  · obtain ⟨arr, T, fs, h1, h2⟩ := hr.vec i et n b c h h'
    exact ⟨arr, T, fs, (hold b (heap_lt h1)).trans h1, h2⟩
  · obtain ⟨b, c, o, h1, h2, h3, h4⟩ := hr.raw i r h
    exact ⟨b, c, o, h1, (hold b (heap_lt h2)).trans h2, h3.mono he, h4⟩
  · obtain ⟨v, hv⟩ := hr.cells b o h
    exact ⟨v, by rw [cell_of_heap (hold b (cell_lt hv))]; exact hv⟩

theorem ArgsOk.one {a : AV} {cargs : Array Value} (h : ArgsOk P σ ρ S w [a] cargs) : ∃ cv, cargs = #[cv] ∧ VA2 P σ ρ S w a cv := by
  obtain ⟨h1, h2⟩ := h
  obtain ⟨cv, h3, h4⟩ := h2 0 a rfl
  refine ⟨cv, ?_, h4⟩
  apply Array.ext'
  match hl : cargs.toList, (by simpa using h1 : cargs.toList.length = 1) with
  | [x], _ =>
    have : cargs.toList[0]? = some cv := by simpa using h3
    rw [hl] at this
    simpa using this

theorem ArgsOk.two {a b : AV} {cargs : Array Value} (h : ArgsOk P σ ρ S w [a, b] cargs) : ∃ cv cu, cargs = #[cv, cu] ∧ VA2 P σ ρ S w a cv ∧ VA2 P σ ρ S w b cu := by
  obtain ⟨h1, h2⟩ := h
  obtain ⟨cv, h3, h4⟩ := h2 0 a rfl
  obtain ⟨cu, h5, h6⟩ := h2 1 b rfl
  refine ⟨cv, cu, ?_, h4, h6⟩
  apply Array.ext'
  match hl : cargs.toList, (by simpa using h1 : cargs.toList.length = 2) with
  | [x, y], _ =>
    have e1 : cargs.toList[0]? = some cv := by simpa using h3
    have e2 : cargs.toList[1]? = some cu := by simpa using h5
    rw [hl] at e1 e2
    simp at e1 e2
    rw [e1, e2]

/-- A function with a known contract, called plainly. -/
def PrimFor (P : Program) (f : FuncId) (g : List AV → Heap → T) : Prop :=
  ∀ (args : List AV) (σ : Heap) (r : Res) (σ' : Heap), (g args σ).quick = some (r, σ') → ComesTo P none f args σ r σ'

theorem quick_br {b : Bool} {x y : T} : (T.br b x y).quick = cond b x.quick y.quick := rfl
theorem quick_res {r : Res} {h : Heap} : (T.res r h).quick = some (r, h) := rfl
theorem quick_fail : T.fail.quick = none := rfl

theorem quick_must {b : Bool} {r r' : Res} {h h' : Heap} (hq : (T.br b (.res r h) .fail).quick = some (r', h')) : b = true ∧ r = r' ∧ h = h' := by
  rw [quick_br, quick_res, quick_fail] at hq
  cases b with
  | true => injection hq with hq; injection hq with h1 h2; exact ⟨rfl, h1, h2⟩
  | false => cases hq

/-! ### strconv.Itoa -/

def itoaG (args : List AV) (σ : Heap) : T :=
  match args with
  | [.e (.int .i64 n)] => .br (decide (-9223372036854775808 ≤ n) && decide (n ≤ 9223372036854775807)) (.res (.ret (.e (.str (Lib.itoa n)))) σ) .fail
  | _ => .fail

theorem below_grow (w : World) (k : Nat) (os : Array Obj) : Below w.heap.size w (Sort.grow (w.drewN k) os) := by
  refine ⟨rfl, rfl, rfl, ?_, fun i hi => ?_⟩
  · simp [Sort.grow, World.drewN]
  · simp only [Sort.grow, World.drewN]
    rw [Array.getElem?_append_left hi]

theorem prim_itoa {f : FuncId} (hE : Enters P f) (hg : (P.globalNamed "internal/strconv.uint64pow10").isSome = true)
    (hc : ∀ (n : Int), -9223372036854775808 ≤ n → n ≤ 9223372036854775807 → ∀ w, Lib.TabIs P w "internal/strconv.uint64pow10" .u64 Lib.pow10Tab →
      Calls P f #[.int .i64 n] w fun e w' => e = .returned (.string ⟨(Lib.itoa n).toArray⟩) ∧ ∃ k os, w' = Sort.grow (w.drewN k) os) : PrimFor P f itoaG := by
  intro args σ r σ' h
  unfold itoaG at h
  split at h
  · rename_i n
    obtain ⟨hb, rfl, rfl⟩ := quick_must h
    simp only [Bool.and_eq_true, decide_eq_true_eq] at hb
    refine ⟨hE, fun ρ S w cargs hr ha => ?_⟩
    obtain ⟨cv, rfl, hv⟩ := ha.one
    have hv' : VE P w S (.int .i64 n) cv := hv
    cases hv'
    obtain ⟨g, hgg⟩ := Option.isSome_iff_exists.1 hg
    have ht : Lib.TabIs P w "internal/strconv.uint64pow10" .u64 Lib.pow10Tab := by
      obtain ⟨q, h1, h2⟩ := (hr.glob ("internal/strconv.uint64pow10", isPow10) (by simp [tabs]) g hgg).1
      have h2 : q = _ := h2
      rw [h2] at h1
      exact h1
    refine (hc n hb.1 hb.2 w ht).mono ?_
    rintro e w' ⟨rfl, k, os, rfl⟩
    obtain ⟨r1, e1⟩ := ext_below hr (below_grow w k os)
    exact ⟨ρ, S, r1, e1, _, rfl, VE.str _ _ rfl⟩
  · cases h

/-! ### strings.Join -/

def isStr : E → Bool
  | .str _ => true
  | _ => false

def joinG (args : List AV) (σ : Heap) : T :=
  match args with
  | [.e (.sl _ xs), .e (.str sep)] =>
    .br (xs.all isStr && decide (xs.length ≤ 140737488355328) && decide ((Lib.join (xs.map E.toStr) sep).length ≤ 140737488355328)) (.res (.ret (.e (.str (Lib.join (xs.map E.toStr) sep)))) σ) .fail
  | _ => .fail

theorem prim_join {f : FuncId} (hE : Enters P f)
    (hc0 : ∀ (a : Option Addr) (c : Nat) (sep : ByteArray) (w : World), Calls P f #[.slice a 0 c, .string sep] w fun e w' => e = .returned (.string ⟨#[]⟩) ∧ w' = w)
    (hc : ∀ (bk o c : Nat) (xs : List ByteArray) (sep : ByteArray) (w : World), (∀ (j : Nat) x, xs[j]? = some x → w.cell? ⟨bk, o + j, none⟩ = some (.string x)) → bk < w.heap.size → xs.length ≤ 140737488355328 → xs.length ≤ c →
      (Lib.join (xs.map (·.data.toList)) sep.data.toList).length ≤ 140737488355328 →
      Calls P f #[.slice (some ⟨bk, o, none⟩) xs.length c, .string sep] w fun e w' => e = .returned (.string ⟨(Lib.join (xs.map (·.data.toList)) sep.data.toList).toArray⟩) ∧ Below w.heap.size w w') : PrimFor P f joinG := by
  intro args σ r σ' h
  unfold joinG at h
  split at h
  · rename_i t xs sep
    obtain ⟨hb, rfl, rfl⟩ := quick_must h
    simp only [Bool.and_eq_true, decide_eq_true_eq] at hb
    obtain ⟨⟨hs, hn⟩, hl⟩ := hb
    refine ⟨hE, fun ρ S w cargs hr ha => ?_⟩
    obtain ⟨cv, cu, rfl, hv, hu⟩ := ha.two
    have hv' : VE P w S (.sl t xs) cv := hv
    have hu' : VE P w S (.str sep) cu := hu
    cases hu' with
    | str _ sb hsb =>
    obtain ⟨A, c, fs, b, o, fv, rfl, hfs, hc', hlen, hok, hA, hEE⟩ := VE_sl_inv hv'
    have hstr : ∀ (i : Nat) (y : E), xs[i]? = some y → ∃ s, y = .str s := fun i y hy => by
      have := List.all_eq_true.1 hs y (List.mem_of_getElem? hy)
      cases y <;> simp [isStr] at this
      exact ⟨_, rfl⟩
    cases hx : xs with
    | nil =>
      subst hx
      refine (hc0 A c sb w).mono ?_
      rintro e w' ⟨rfl, rfl⟩
      exact ⟨ρ, S, hr, Ext.refl _ _ _ _, _, rfl, VE.str _ _ (by simp [Lib.join])⟩
    | cons y0 ys =>
      have hy0 : xs[0]? = some y0 := by rw [hx]; rfl
      obtain ⟨s0, rfl⟩ := hstr 0 y0 hy0
      have hf1 : fs.length = 1 := by have := hlen 0 _ hy0; simpa [E.cells] using this.symm
      obtain ⟨hA0, hS0, hC0⟩ := hA 0 _ 0 _ hy0 rfl
      subst hA0
      have hcell : ∀ (i : Nat) (y : E), xs[i]? = some y → ∃ bb : ByteArray, w.cell? ⟨b, o + i, none⟩ = some (.string bb) ∧ bb.data.toList = y.toStr := fun i y hy => by
        obtain ⟨s, rfl⟩ := hstr i y hy
        obtain ⟨_, _, k3⟩ := hA i _ 0 _ hy rfl
        have k4 := hEE i _ 0 _ hy rfl
        rw [hf1, Nat.mul_one, Nat.add_zero] at k3
        generalize fv i 0 = u at k3 k4
        cases k4 with
        | str _ bb hbb => exact ⟨bb, k3, hbb⟩
      let g : Nat → ByteArray := fun i => if hi : i < xs.length then (hcell i xs[i] (List.getElem?_eq_getElem hi)).choose else .empty
      have hg : ∀ i (hi : i < xs.length), w.cell? ⟨b, o + i, none⟩ = some (.string (g i)) ∧ (g i).data.toList = xs[i].toStr := fun i hi => by
        have : g i = (hcell i xs[i] (List.getElem?_eq_getElem hi)).choose := by simp [g, hi]
        rw [this]; exact (hcell i xs[i] (List.getElem?_eq_getElem hi)).choose_spec
      have hmap : ((List.range xs.length).map g).map (·.data.toList) = xs.map E.toStr := by
        apply List.ext_getElem?
        intro i
        rw [List.getElem?_map, List.getElem?_map, List.getElem?_map]
        by_cases hi : i < xs.length
        · rw [List.getElem?_range hi, List.getElem?_eq_getElem hi]
          simp only [Option.map_some, (hg i hi).2]
        · rw [List.getElem?_eq_none (by simp; omega), List.getElem?_eq_none (by omega)]; rfl
      have hcall := hc b o c ((List.range xs.length).map g) sb w (fun j x hj => by
        obtain ⟨h1, h2⟩ := map_range_get hj
        rw [← h2]; exact (hg j h1).1) (by
          obtain ⟨v, hv⟩ := hr.cells _ _ hS0
          exact cell_lt hv) (by simpa using hn) (by simpa using hc') (by rw [hmap, hsb]; exact hl)
      rw [hmap, hsb] at hcall
      rw [← hx]
      simp only [List.length_map, List.length_range] at hcall
      refine hcall.mono ?_
      rintro e w' ⟨rfl, hb⟩
      obtain ⟨r1, e1⟩ := ext_below hr hb
      exact ⟨ρ, S, r1, e1, _, rfl, VE.str _ _ (by simp)⟩
  · cases h

/-! ### (*strings.Builder).copyCheck -/

def copyG (tb : TypeId) (args : List AV) (σ : Heap) : T :=
  match args with
  | [.ptr id 0] =>
    match σ[id]? with
    | some (.box [.nsp id' t, _]) => if id' = id ∧ t = tb then .res (.ret (.tup [])) σ else .fail
    | _ => .fail
  | _ => .fail

theorem setCell_setRow (w : World) (b : Nat) (arr : Array Value) (T : TypeId) (fz : Nat × Nat) (v : Value) (h : w.heap[b]? = some (.cells arr T fz)) : w.setCell ⟨b, 0, none⟩ v = w.setRow b (arr.setIfInBounds 0 v) := by
  unfold World.setCell World.setRow
  congr 1
  apply Array.ext_getElem?
  intro i
  rw [Array.getElem?_modify, Array.getElem?_modify]
  split
  · rename_i e
    subst e
    simp only at h ⊢
    rw [h]
    simp
  · rfl

theorem prim_copy {f : FuncId} {tb : TypeId} (hE : Enters P f)
    (hF : ∀ (b : Nat) (w : World), w.cell? ⟨b, 0, none⟩ = some (.pointer none) → w.shape? b = some (tb, 2) → w.frozen? ⟨b, 0, none⟩ = false →
      Calls P f #[.pointer (some ⟨b, 0, none⟩)] w fun e w' => e = .returned (.tuple #[]) ∧ w' = w.setCell ⟨b, 0, none⟩ (.pointer (some ⟨b, 0, none⟩)))
    (hU : ∀ (b : Nat) (w : World), w.cell? ⟨b, 0, none⟩ = some (.pointer (some ⟨b, 0, none⟩)) → Calls P f #[.pointer (some ⟨b, 0, none⟩)] w fun e w' => e = .returned (.tuple #[]) ∧ w' = w) : PrimFor P f (copyG tb) := by
  intro args σ r σ' h
  unfold copyG at h
  split at h
  · rename_i id
    split at h
    · rename_i id' t c1 hb
      split at h
      · rename_i hc
        obtain ⟨rfl, rfl⟩ := hc
        rw [quick_res] at h
        injection h with h; injection h with h1 h2
        subst h1; subst h2
        refine ⟨hE, fun ρ S w cargs hr ha => ?_⟩
        obtain ⟨cv, rfl, hv⟩ := ha.one
        obtain ⟨b, c, hid, _, rfl⟩ : VA1 P σ ρ S w (.ptr id' 0) cv := hv
        obtain ⟨b', c', arr, T, h1, h2, h3, h4, h5, h6⟩ := hr.box id' _ hb
        rw [hid] at h1; injection h1 with h1; injection h1 with h1; injection h1 with h1 h1'
        subst h1; subst h1'
        obtain ⟨_, x0, hx0, hv0⟩ := h4 0 _ rfl
        obtain ⟨_, b2, hid2, hx⟩ : VA1 P σ ρ S w (.nsp id' t) x0 := hv0
        rw [hid] at hid2; injection hid2 with hid2; injection hid2 with hid2; injection hid2 with e1 e2
        subst e1; subst e2; subst h6
        have hcell : w.cell? ⟨b, 0, none⟩ = some x0 := by rw [cell_of_row w b 0 arr _ _ h2]; exact hx0
        have hret : ∀ w' : World, Rel P σ ρ S w' → Ext σ ρ S w σ ρ S w' → RunPost P (.ret (.tup [])) σ σ ρ S w (.returned (.tuple #[])) w' := fun w' r1 e1 => ⟨ρ, S, r1, e1, _, rfl, #[], rfl, rfl, by simp⟩
        rcases hx with rfl | rfl
        · refine (hF b w hcell ?_ ?_).mono ?_
          · have h3' : arr.size = 2 := h3
            simp [World.shape?, h2, h3']
          · simp [World.frozen?, h2]
          · rintro e w' ⟨rfl, rfl⟩
            rw [setCell_setRow w b arr _ _ _ h2]
            obtain ⟨r1, e1⟩ := hr.setBox (cs' := [.nsp id' T, c1]) (arr' := arr.setIfInBounds 0 (.pointer (some ⟨b, 0, none⟩))) hb hid h2 (by simpa using h3) (fun j v hj => by
              cases j with
              | zero =>
                injection hj with hj; subst hj
                have h3' : arr.size = 2 := h3
                exact ⟨rfl, _, by simp [h3'], ⟨_, hb⟩, b, hid, .inr rfl⟩
              | succ j =>
                obtain ⟨k1, y, k2, k3⟩ := h4 (j + 1) v hj
                exact ⟨k1, y, by rw [Array.getElem?_setIfInBounds_ne (by omega)]; exact k2, k3⟩)
            have hsame : σ.set id' (.box [.nsp id' T, c1]) = σ := set_same hb
            rw [hsame] at r1 e1
            exact hret _ r1 e1
        · refine (hU b w hcell).mono ?_
          rintro e w' ⟨rfl, rfl⟩
          exact hret _ hr (Ext.refl _ _ _ _)
      · cases h
    · cases h
  · cases h

end
end Go.Den

/- (*strings.Builder).String: the builder's bytes; they stay as they are from then on. -/
namespace Go.Den
open Go Go.RowKit

section
variable {P : Program} {σ : Heap} {ρ : Gr} {S : Cells} {w w' : World}

/-- A growing slice that nobody may write any more. -/
theorem Rel.die (hr : Rel P σ ρ S w) {k n : Nat} {et : TypeId} (hk : σ[k]? = some (.vec et n)) (hold : ∀ b, b < w.heap.size → (∀ c, ρ[k]? ≠ some (some (b, c))) → w'.heap[b]? = w.heap[b]?)
    (hcell : ∀ (b o : Nat) (v : Value), w.cell? ⟨b, o, none⟩ = some v → w'.cell? ⟨b, o, none⟩ = some v) (hsize : w.heap.size ≤ w'.heap.size) (hos : w'.os = w.os) (htape : w'.tape = w.tape) (hout : w'.output = w.output) :
    Rel P (σ.set k .dead) ρ S w' ∧ Ext σ ρ S w (σ.set k .dead) ρ S w' := by
  have hkl : k < σ.length := (List.getElem?_eq_some_iff.1 hk).1
  have hkeep : ∀ {i : Nat} {q : Ob}, σ[i]? = some q → (∀ et n, q ≠ .vec et n) → (σ.set k .dead)[i]? = some q := fun {i q} h hq => by
    rw [List.getElem?_set_ne (by rintro rfl; rw [hk] at h; injection h with h; exact hq _ _ h.symm)]; exact h
  have hne : ∀ {i b c : Nat}, ρ[i]? = some (some (b, c)) → i ≠ k → ∀ c', ρ[k]? ≠ some (some (b, c')) := fun {i b c} h hi c' h' => hi (hr.inj _ _ _ _ _ h h')
  have hcS : ∀ b o, S b o → w'.cell? ⟨b, o, none⟩ = w.cell? ⟨b, o, none⟩ := fun b o h => by
    obtain ⟨v, hv⟩ := hr.cells b o h
    rw [hv]; exact hcell b o v hv
  have he : Ext σ ρ S w (σ.set k .dead) ρ S w' := by
    refine ⟨fun b o h => ⟨h, hcS b o h⟩, fun i cs h => ⟨⟨cs, hkeep h (by simp)⟩, rfl⟩, fun i t m h => ?_, fun i r h => .inl ⟨r, rfl, Nat.le_refl _, hkeep h (by simp), fun _ => rfl⟩, fun i h => hkeep h (by simp),
      fun b hb hn => hold b hb fun c => hn k c, fun i b c h => .inr ⟨i, c, h⟩, fun b o h => .inl h, hsize, hos, htape, hout⟩
    by_cases hi : i = k
    · subst hi; exact .inr (by simp [hkl])
    · exact .inl ⟨m, Nat.le_refl _, by rw [List.getElem?_set_ne (fun e => hi e.symm)]; exact h, fun _ => rfl⟩
  refine ⟨⟨by simp [hr.len], fun i cs h => ?_, fun i et' n' b c h h' => ?_, fun i r h => ?_, fun i h => ?_, fun i b c h => Nat.lt_of_lt_of_le (hr.lt i b c h) hsize, hr.inj, fun b o h => ?_, hr.glob.mono he⟩, he⟩
  · rcases set_cases h with ⟨_, h, _⟩ | ⟨hi, h⟩
    · cases h
    · obtain ⟨b, c, arr, T, h1, h2, h3, h4, h5⟩ := hr.box i cs h
      exact ⟨b, c, arr, T, h1, (hold b (heap_lt h2) (hne h1 hi)).trans h2, h3, fun j v hj => let ⟨h6, x, h7, h8⟩ := h4 j v hj; ⟨h6, x, h7, h8.mono he⟩, h5⟩
  · rcases set_cases h with ⟨_, h, _⟩ | ⟨hi, h⟩
    · cases h
    · obtain ⟨arr, T, fs, h1, h2⟩ := hr.vec i et' n' b c h h'
      exact ⟨arr, T, fs, (hold b (heap_lt h1) (hne h' hi)).trans h1, h2⟩
  · rcases set_cases h with ⟨_, h, _⟩ | ⟨hi, h⟩
    · cases h
    · obtain ⟨b, c, o, h1, h2, h3, h4⟩ := hr.raw i r h
      exact ⟨b, c, o, h1, (hold b (heap_lt h2) (hne h1 hi)).trans h2, h3.mono he, h4⟩
  · rcases set_cases h with ⟨_, h, _⟩ | ⟨hi, h⟩
    · cases h
    · exact hr.hole i h
  · obtain ⟨v, hv⟩ := hr.cells b o h
    exact ⟨v, hcell b o v hv⟩

theorem freeze_heap (w : World) (g n k : Nat) : (w.freeze ⟨g, 0, none⟩ n).heap.size = w.heap.size ∧ (k ≠ g → (w.freeze ⟨g, 0, none⟩ n).heap[k]? = w.heap[k]?) := by
  unfold World.freeze
  split
  · exact ⟨rfl, fun _ => rfl⟩
  · exact ⟨by simp, fun h => by simp [Array.getElem?_modify, Ne.symm h]⟩

theorem freeze_cell (w : World) (g n b o : Nat) : (w.freeze ⟨g, 0, none⟩ n).cell? ⟨b, o, none⟩ = w.cell? ⟨b, o, none⟩ := by
  unfold World.freeze
  split
  · rfl
  · unfold World.cell?
    simp only [Array.getElem?_modify]
    by_cases h : g = b
    · subst h
      simp only [if_pos]
      cases w.heap[g]? with
      | none => rfl
      | some q => cases q <;> rfl
    · simp only [if_neg h]

theorem freeze_rest (w : World) (g n : Nat) : (w.freeze ⟨g, 0, none⟩ n).os = w.os ∧ (w.freeze ⟨g, 0, none⟩ n).tape = w.tape ∧ (w.freeze ⟨g, 0, none⟩ n).output = w.output := by
  unfold World.freeze
  split <;> exact ⟨rfl, rfl, rfl⟩

/-! ### Bytes -/

theorem unbytes_bytesE (s : List UInt8) : unbytes (bytesE s) = s := by
  unfold unbytes bytesE
  rw [List.map_map]
  conv => rhs; rw [← List.map_id s]
  refine List.map_congr_left fun b _ => ?_
  simp [E.toInt]
theorem isByte_bytesE (s : List UInt8) : (bytesE s).all isByte = true := by
  unfold bytesE
  rw [List.all_map, List.all_eq_true]
  intro b _
  have := b.toNat_lt
  simp [isByte]
  omega
theorem bytesE_append (s t : List UInt8) : bytesE (s ++ t) = bytesE s ++ bytesE t := by simp [bytesE]

def stringG (tb tu : TypeId) (args : List AV) (σ : Heap) : T :=
  match args with
  | [.ptr id 0] =>
    match σ[id]? with
    | some (.box [.nsp id' t0, .own k t xs]) =>
      match σ[k]? with
      | some (.vec t' n) =>
        if id' = id ∧ t0 = tb ∧ t = tu ∧ t' = tu then .br (decide (n = xs.length) && xs.all isByte && decide (n ≤ 9223372036854775807)) (.res (.ret (.e (.str (unbytes xs)))) (σ.set k .dead)) .fail else .fail
      | _ => .fail
    | _ => .fail
  | _ => .fail

theorem prim_string {f : FuncId} {tb tu : TypeId} (hE : Enters P f) (hu : flat P depth tu = some [tu])
    (hS : ∀ (b g cap : Nat) (p : Value) (cur : Array Value) (l : List UInt8) (w : World), w.heap[b]? = some (.cells #[p, .slice (some ⟨g, 0, none⟩) l.length cap] tb (0, 0)) → w.heap[g]? = some (.cells cur tu (0, 0)) →
      l ≠ [] → l.length ≤ cap → cap ≤ cur.size → l.length ≤ 9223372036854775807 → (∀ (j : Nat) x, l[j]? = some x → w.cell? ⟨g, j, none⟩ = some (.int .u8 x.toNat)) →
      Calls P f #[.pointer (some ⟨b, 0, none⟩)] w fun e w' => e = .returned (.string ⟨l.toArray⟩) ∧ w' = w.drew.freeze ⟨g, 0, none⟩ l.length)
    (hN : ∀ (b : Nat) (p : Value) (w : World), w.heap[b]? = some (.cells #[p, .slice none 0 0] tb (0, 0)) → Calls P f #[.pointer (some ⟨b, 0, none⟩)] w fun e w' => e = .returned (.string ⟨#[]⟩) ∧ Below w.heap.size w w')
    (hZ : ∀ (b g cap : Nat) (p : Value) (cur : Array Value) (w : World), w.heap[b]? = some (.cells #[p, .slice (some ⟨g, 0, none⟩) 0 cap] tb (0, 0)) → w.heap[g]? = some (.cells cur tu (0, 0)) →
      Calls P f #[.pointer (some ⟨b, 0, none⟩)] w fun e w' => e = .returned (.string ⟨#[]⟩) ∧ Below w.heap.size w w') : PrimFor P f (stringG tb tu) := by
  intro args σ r σ' h
  unfold stringG at h
  split at h
  · rename_i id
    split at h
    · rename_i id' t0 k t xs hb
      split at h
      · rename_i t' n hk
        split at h
        · rename_i hc
          obtain ⟨rfl, rfl, rfl, rfl⟩ := hc
          obtain ⟨hq, rfl, rfl⟩ := quick_must h
          simp only [Bool.and_eq_true, decide_eq_true_eq] at hq
          obtain ⟨⟨rfl, hbytes⟩, hmax⟩ := hq
          refine ⟨hE, fun ρ S w cargs hr ha => ?_⟩
          obtain ⟨cv, rfl, hv⟩ := ha.one
          obtain ⟨b, c, hid, _, rfl⟩ : VA1 P σ ρ S w (.ptr id' 0) cv := hv
          obtain ⟨b', c', arr, T, h1, h2, h3, h4, _, hT⟩ := hr.box id' _ hb
          rw [hid] at h1; injection h1 with h1; injection h1 with h1; injection h1 with h1 h1'
          subst h1; subst h1'
          obtain ⟨_, x0, hx0, hv0⟩ := h4 0 _ rfl
          obtain ⟨_, b2, hid2, _⟩ : VA1 P σ ρ S w (.nsp id' t0) x0 := hv0
          rw [hid] at hid2; injection hid2 with hid2; injection hid2 with hid2; injection hid2 with _ e2
          subst e2; subst hT
          obtain ⟨_, x1, hx1, hv1⟩ := h4 1 _ rfl
          have harr : arr = #[x0, x1] := by
            apply Array.ext'
            match hl : arr.toList, (by simpa using h3 : arr.toList.length = 2) with
            | [y0, y1], _ =>
              have e1 : arr.toList[0]? = some x0 := by simpa using hx0
              have e2 : arr.toList[1]? = some x1 := by simpa using hx1
              rw [hl] at e1 e2
              simp at e1 e2
              rw [e1, e2]
          subst harr
          obtain ⟨hve, hpl⟩ : VE P w S (.sl t' xs) x1 ∧ _ := hv1
          have hplace : place ρ k xs.length x1 := by
            rcases hpl with ⟨n', e1, _, e3⟩ | e1
            · rw [hk] at e1; injection e1 with e1; injection e1 with _ e1; exact e3 e1.symm
            · rw [hk] at e1; cases e1
          -- where no byte is taken
          have hzero : xs = [] → Calls P f #[.pointer (some ⟨b, 0, none⟩)] w (fun e w' => e = .returned (.string ⟨#[]⟩) ∧ Below w.heap.size w w') →
              Calls P f #[.pointer (some ⟨b, 0, none⟩)] w (RunPost P (.ret (.e (.str (unbytes xs)))) (σ.set k .dead) σ ρ S w) := by
            intro hx hcall
            subst hx
            refine hcall.mono ?_
            rintro e w' ⟨rfl, hb⟩
            obtain ⟨r1, e1⟩ := hr.die hk (fun b h _ => hb.block b h) (fun b o v h => by rw [cell_of_heap (hb.block b (cell_lt h))]; exact h) hb.size hb.os hb.tape hb.output
            exact ⟨ρ, S, r1, e1, _, rfl, VE.str _ _ (by simp [unbytes])⟩
          rcases hplace with ⟨hρ, rfl, hx⟩ | ⟨g, cap, hρ, rfl⟩
          · exact hzero (List.eq_nil_of_length_eq_zero hx) (hN b x0 w h2)
          · obtain ⟨cur, T2, fs, g1, g2, g3, g4, g5, rfl⟩ := hr.vec k _ _ g cap hk hρ
            rw [hu] at g2; injection g2 with g2; subst g2
            by_cases hx : xs = []
            · exact hzero hx (hZ b g cap x0 cur w (by rw [hx] at h2; exact h2) g1)
            · obtain ⟨A, c2, fs, b2, o2, fv, hsl, hfs, hcc, hlen, hok, hA, hEE⟩ := VE_sl_inv hve
              rw [hu] at hfs; injection hfs with hfs; subst hfs
              have hl : (unbytes xs).length = xs.length := by simp [unbytes]
              have hcells : ∀ (j : Nat) x, (unbytes xs)[j]? = some x → w.cell? ⟨g, j, none⟩ = some (.int .u8 x.toNat) := by
                intro j x hj
                unfold unbytes at hj
                rw [List.getElem?_map] at hj
                obtain ⟨y, hy, rfl⟩ := Option.map_eq_some_iff.1 hj
                have hyb := List.all_eq_true.1 hbytes y (List.mem_of_getElem? hy)
                cases y <;> simp [isByte] at hyb
                rename_i kd m
                cases kd <;> simp at hyb
                obtain ⟨k1, _, k3⟩ := hA j _ 0 _ hy rfl
                have k4 := hEE j _ 0 _ hy rfl
                injection hsl with hsl _ _
                rw [← hsl] at k1
                injection k1 with k1; injection k1 with e1 e2 _
                subst e1; subst e2
                simp only [List.length_singleton, Nat.mul_one, Nat.zero_add, Nat.add_zero] at k3
                generalize fv j 0 = u at k3 k4
                cases k4
                rw [k3]
                have : ((UInt8.ofNat m.toNat).toNat : Int) = m := by
                  rw [UInt8.toNat_ofNat']
                  omega
                simp only [E.toInt]
                rw [this]
              have h2' : w.heap[b]? = some (.cells #[x0, .slice (some ⟨g, 0, none⟩) (unbytes xs).length cap] T (0, 0)) := by rw [hl]; exact h2
              refine (hS b g cap x0 cur (unbytes xs) w h2' g1 (by intro e; exact hx (List.eq_nil_of_length_eq_zero (by rw [← hl, e]; rfl))) (by rw [hl]; exact g3) (by simpa using g4) (by rw [hl]; exact hmax) hcells).mono ?_
              rintro e w' ⟨rfl, rfl⟩
              obtain ⟨f1, f2, f3⟩ := freeze_rest w.drew g (unbytes xs).length
              obtain ⟨r1, e1⟩ := hr.die (w' := w.drew.freeze ⟨g, 0, none⟩ (unbytes xs).length) hk (fun b _ hn => (freeze_heap w.drew g _ b).2 (by rintro rfl; exact hn cap hρ))
                (fun b o v h => by rw [freeze_cell]; exact h) (by rw [(freeze_heap w.drew g _ 0).1]; exact Nat.le_refl _) f1 f2 f3
              exact ⟨ρ, S, r1, e1, _, rfl, VE.str _ _ (by simp)⟩
        · cases h
      · cases h
    · cases h
  · cases h

end
/-! ### strings.IndexByte -/

def indexG (args : List AV) (σ : Heap) : T :=
  match args with
  | [.e (.str s), .e (.int .u8 c)] => .res (.ret (.e (.int .i64 (Lib.indexByte s c.toNat.toUInt8)))) σ
  | _ => .fail

theorem prim_index {P : Program} {f : FuncId} (hE : Enters P f)
    (hc : ∀ (s : ByteArray) (c : Int) (w : World), Calls P f #[.string s, .int .u8 c] w fun e w' => e = .returned (.int .i64 (Lib.indexByte s.data.toList c.toNat.toUInt8)) ∧ w' = w) : PrimFor P f indexG := by
  intro args σ r σ' h
  unfold indexG at h
  split at h
  · rename_i s c
    rw [quick_res] at h
    injection h with h; injection h with h1 h2
    subst h1; subst h2
    refine ⟨hE, fun ρ S w cargs hr ha => ?_⟩
    obtain ⟨cv, cu, rfl, hv, hu⟩ := ha.two
    have hv' : VE P w S (.str s) cv := hv
    have hu' : VE P w S (.int .u8 c) cu := hu
    cases hv' with
    | str _ b hb =>
    cases hu'
    refine (hc b c w).mono ?_
    rintro e w' ⟨rfl, rfl⟩
    rw [hb]
    exact ⟨ρ, S, hr, Ext.refl _ _ _ _, _, rfl, VE.int _ _⟩
  · cases h

/-- A function of no arguments that returns true. -/
def trueG (args : List AV) (σ : Heap) : T := match args, σ with | [], [] => .res (.ret (.e (.bool true))) [] | _, _ => .fail

end Go.Den

/- Steps through printed equations. -/
namespace Go.Den
open Go

theorem bind_run {α β : Type} {x : Option α} {a : α} {f : α → Option β} {r : Option β} (h : x = some a) (hf : f a = r) : x.bind f = r := by rw [h]; exact hf
theorem cond_run {α : Type} {b : Bool} {x y r : α} (h : b = true) (hx : x = r) : (bif b then x else y) = r := by rw [h]; exact hx
theorem cond_not {α : Type} {b : Bool} {x y r : α} (h : b = false) (hx : y = r) : (bif b then x else y) = r := by rw [h]; exact hx
theorem dec_yes {p : Prop} [Decidable p] (h : p) : decide p = true := decide_eq_true h
theorem dec_no {p : Prop} [Decidable p] (h : ¬ p) : decide p = false := decide_eq_false h
theorem and_yes {a b : Bool} (h : a = true) (k : b = true) : (a && b) = true := by rw [h, k]; rfl
theorem and2_yes {a b : Bool} (h : a = true) (k : b = true) : (bif a then b else false) = true := by rw [h, k]; rfl
theorem and2_no {a b : Bool} (h : a = false ∨ b = false) : (bif a then b else false) = false := by rcases h with h | h <;> rw [h] <;> cases a <;> cases b <;> first | rfl | simp_all
theorem or2_yes {a b : Bool} (h : a = true ∨ b = true) : (bif a then true else b) = true := by rcases h with h | h <;> rw [h] <;> cases a <;> cases b <;> first | rfl | simp_all
theorem or2_no {a b : Bool} (h : a = false) (k : b = false) : (bif a then true else b) = false := by rw [h, k]; rfl

theorem wrap_in {n : Int} (h0 : -9223372036854775808 ≤ n) (h1 : n ≤ 9223372036854775807) : IntKind.i64.wrap n = n := by rw [IntKind.wrap_i64]; omega
theorem getD_mem {xs : List E} {i : Nat} (h : i < xs.length) : xs.getD i .nili ∈ xs := by
  rw [List.getD_eq_getElem?_getD, List.getElem?_eq_getElem h]; simp
theorem getD_at {xs : List E} {i : Nat} (h : i < xs.length) : xs.getD i .nili = xs[i] := by
  rw [List.getD_eq_getElem?_getD, List.getElem?_eq_getElem h]; rfl

/-- The cells of a field's type. -/
def fieldTy : E → E
  | .agg (_ :: _ :: cs) => .agg cs
  | x => x

/-- A schema's data: of types s (strings), t (schemas), f (fields). -/
inductive IsTy (s t f : TypeId) : E → Prop
  | mk (k mn mx : Int) (os fs gs : List E) (ho : ∀ x ∈ os, ∃ n, x = .str n ∧ n.length ≤ maxLen) (hol : os.length ≤ maxLen) (hf : ∀ x ∈ fs, IsTy s t f x) (hfl : fs.length ≤ maxLen)
      (hg : ∀ x ∈ gs, IsTy s t f (fieldTy x)) (hgn : ∀ x ∈ gs, ∃ n op cs, x = .agg (.str n :: .bool op :: cs) ∧ n.length ≤ maxLen) (hgl : gs.length ≤ maxLen)
      (hk : -9223372036854775808 ≤ k ∧ k ≤ 9223372036854775807) (hmn : -9223372036854775808 ≤ mn ∧ mn ≤ 9223372036854775807) (hmx : -9223372036854775808 ≤ mx ∧ mx ≤ 9223372036854775807) :
      IsTy s t f (.agg [.int .i64 k, .int .i64 mn, .int .i64 mx, .sl s os, .sl t fs, .sl f gs])

theorem fieldX {s t f : TypeId} {x : E} (h : IsTy s t f (fieldTy x)) (hn : ∃ n op cs, x = .agg (.str n :: .bool op :: cs) ∧ n.length ≤ maxLen) :
    ∃ n op k mn mx os fs gs, x = .agg [.str n, .bool op, .int .i64 k, .int .i64 mn, .int .i64 mx, .sl s os, .sl t fs, .sl f gs] ∧ n.length ≤ maxLen := by
  obtain ⟨n, op, cs, rfl, hl⟩ := hn
  cases h
  exact ⟨_, _, _, _, _, _, _, _, rfl, hl⟩

/-- The slots of a value of several cells. -/
def slotsOf (x : E) : AV := .agg (x.cells.map AV.e)

theorem maxLen_eq : maxLen = 9223372036854775807 := rfl
end Go.Den

/- Closed runs as contracts: a table of calls that are known. -/
namespace Go.Den
open Go

def eqL (f : E → E → Bool) : List E → List E → Bool
  | [], [] => true
  | x :: xs, y :: ys => f x y && eqL f xs ys
  | _, _ => false
def eqE : Nat → E → E → Bool
  | 0, _, _ => false
  | _ + 1, .int k a, .int k' b => k == k' && a == b
  | _ + 1, .bool a, .bool b => a == b
  | _ + 1, .str a, .str b => strEq a b
  | n + 1, .sl t xs, .sl u ys => t == u && eqL (eqE n) xs ys
  | n + 1, .agg xs, .agg ys => eqL (eqE n) xs ys
  | n + 1, .ifc t x, .ifc u y => t == u && eqE n x y
  | _ + 1, .nili, .nili => true
  | _ + 1, _, _ => false
theorem eqL_eq {f : E → E → Bool} (hf : ∀ x y, f x y = true → x = y) : ∀ {xs ys : List E}, eqL f xs ys = true → xs = ys
  | [], [], _ => rfl
  | x :: xs, y :: ys, h => by
    simp only [eqL, Bool.and_eq_true] at h
    rw [hf x y h.1, eqL_eq hf h.2]
  | [], _ :: _, h => by cases h
  | _ :: _, [], h => by cases h
theorem eqE_eq : ∀ {n : Nat} {x y : E}, eqE n x y = true → x = y := by
  intro n
  induction n with
  | zero => intro x y h; cases h
  | succ n ih =>
    intro x y h
    cases x <;> cases y <;> simp only [eqE, Bool.and_eq_true, beq_iff_eq, strEq, Bool.false_eq_true] at h
    · rw [h.1, h.2]
    · rw [h]
    · rw [h]
    · rw [h.1, eqL_eq (fun _ _ => ih) h.2]
    · rw [eqL_eq (fun _ _ => ih) h]
    · rw [h.1, ih h.2]
    · rfl

def eqA1 (n : Nat) : AV → AV → Bool
  | .e x, .e y => eqE n x y
  | _, _ => false
def eqAL (n : Nat) : List AV → List AV → Bool
  | [], [] => true
  | x :: xs, y :: ys => eqA1 n x y && eqAL n xs ys
  | _, _ => false
def eqA (n : Nat) : AV → AV → Bool
  | .agg xs, .agg ys => eqAL n xs ys
  | x, y => eqA1 n x y
def eqArgs (n : Nat) : List AV → List AV → Bool
  | [], [] => true
  | x :: xs, y :: ys => eqA n x y && eqArgs n xs ys
  | _, _ => false
theorem eqA1_eq {n : Nat} {x y : AV} (h : eqA1 n x y = true) : x = y := by
  cases x <;> cases y <;> simp only [eqA1, Bool.false_eq_true] at h
  rw [eqE_eq h]
theorem eqAL_eq {n : Nat} : ∀ {xs ys : List AV}, eqAL n xs ys = true → xs = ys
  | [], [], _ => rfl
  | x :: xs, y :: ys, h => by
    simp only [eqAL, Bool.and_eq_true] at h
    rw [eqA1_eq h.1, eqAL_eq h.2]
  | [], _ :: _, h => by cases h
  | _ :: _, [], h => by cases h
theorem eqA_eq {n : Nat} {x y : AV} (h : eqA n x y = true) : x = y := by
  unfold eqA at h
  split at h
  · rw [eqAL_eq h]
  · exact eqA1_eq h
theorem eqArgs_eq {n : Nat} : ∀ {xs ys : List AV}, eqArgs n xs ys = true → xs = ys
  | [], [], _ => rfl
  | x :: xs, y :: ys, h => by
    simp only [eqArgs, Bool.and_eq_true] at h
    rw [eqA_eq h.1, eqArgs_eq h.2]
  | [], _ :: _, h => by cases h
  | _ :: _, [], h => by cases h

/-- Calls without objects that are known: function, arguments, result. -/
abbrev Tab := List (FuncId × List AV × Res)
def tabG (f : FuncId) : Tab → List AV → Heap → T
  | [], _, _ => .fail
  | (g, a, r) :: rest, args, σ => .br (g == f && eqArgs 40 a args && σ.isEmpty) (.res r []) (tabG f rest args σ)

theorem tab_quick {f : FuncId} {args : List AV} {σ σ' : Heap} {r : Res} : ∀ {tab : Tab}, (tabG f tab args σ).quick = some (r, σ') → σ = [] ∧ σ' = [] ∧ (f, args, r) ∈ tab
  | [], h => by cases h
  | (g, a, r0) :: rest, h => by
    unfold tabG at h
    rw [quick_br] at h
    cases hb : (g == f && eqArgs 40 a args && σ.isEmpty) with
    | true =>
      rw [hb] at h
      simp only [Bool.and_eq_true, beq_iff_eq, List.isEmpty_iff] at hb
      have h : some (r0, ([] : Heap)) = some (r, σ') := h
      injection h with h
      injection h with h1 h2
      have := eqArgs_eq hb.1.2
      subst h1
      subst this
      exact ⟨hb.2, h2.symm, by rw [hb.1.1]; exact List.mem_cons_self⟩
    | false =>
      rw [hb] at h
      obtain ⟨h1, h2, h3⟩ := tab_quick (tab := rest) h
      exact ⟨h1, h2, List.mem_cons_of_mem _ h3⟩

def TabAll (P : Program) (H : Hints) (tab : Tab) : Prop := ∀ p ∈ tab, ∃ k, runK P H k none p.1 p.2.1 [] = some (p.2.2, [])

theorem tab_prim {P : Program} {H : Hints} {tab : Tab} (hm : P.follows .mixedOrders = true) (hN : Named P) (hp : PrimOk P H) (ht : TabAll P H tab) (f : FuncId) : PrimFor P f (tabG f tab) := by
  intro args σ r σ' h
  obtain ⟨rfl, rfl, h3⟩ := tab_quick h
  obtain ⟨k, hk⟩ := ht _ h3
  exact (runK_ok hm hN hp k).1 none f args [] r [] hk

end Go.Den

/- Functions without loops and calls, written out where they are called. -/
namespace Go.Den
open Go

/-- A function's body in the place of its call. -/
def inl (P : Program) (H : Hints) (f : FuncId) (args : List AV) (σ : Heap) : T := bodyT P H none f args σ

theorem prim_inl {P : Program} {H : Hints} (hm : P.follows .mixedOrders = true) (hN : Named P) (hp : PrimOk P H) (f : FuncId) : PrimFor P f (inl P H f) := fun args σ r σ' h =>
  bodyRun_ok (run := fun _ _ _ _ => none) (loop := fun _ _ _ _ _ => none) hm hN hp (fun _ _ _ _ _ _ h => by cases h) (fun _ _ => fun _ _ _ _ h => by cases h) none f args σ r σ' h

/-- What a run under other hints comes to, as a contract. -/
theorem prim_of_run {P : Program} {H : Hints} (hm : P.follows .mixedOrders = true) (hN : Named P) (hp : PrimOk P H) {f : FuncId} {g : List AV → Heap → T}
    (h : ∀ args σ r σ', (g args σ).quick = some (r, σ') → run P H none f args σ = some (r, σ')) : PrimFor P f g := fun args σ r σ' hq =>
  run_ok hm hN hp none f args σ r σ' (h args σ r σ' hq)
end Go.Den

/- Functions of the library, by their contracts: strings.Split at one byte, strconv.Atoi. -/
namespace Go.Den
open Go Go.RowKit

/-- A text cut at every such byte. -/
def splitAt (c : UInt8) : List UInt8 → List (List UInt8)
  | [] => [[]]
  | x :: s => if x = c then [] :: splitAt c s else match splitAt c s with | [] => [[x]] | y :: l => (x :: y) :: l
def splitG (t : TypeId) (args : List AV) (σ : Heap) : T :=
  match args with
  | [.e (.str s), .e (.str [c])] => .br (decide (s.length < 4294967281)) (.res (.ret (.e (.sl t ((splitAt c s).map E.str)))) σ) .fail
  | _ => .fail
def atoiG (args : List AV) (σ : Heap) : T :=
  match args with
  | [.e (.str s)] => .br (decide (s.length ≤ 281474976710656))
      (match Lib.atoiAll s with
        | .ok v => .res (.ret (.tup [.e (.int .i64 v), .e .nili])) σ
        | Lib.NumEnd.syntax => .res (.ret (.tup [.e (.int .i64 0), .ni])) σ
        | .range => .res (.ret (.tup [.e (.int .i64 (Lib.atoiSat s)), .ni])) σ) .fail
  | _ => .fail

section
variable {P : Program} {σ : Heap} {ρ : Gr} {S : Cells} {w w' : World}

/-- A new row of data, beside what was there. -/
theorem ext_row (hr : Rel P σ ρ S w) (hb : Below w.heap.size w w') {g n : Nat} (hg : w.heap.size ≤ g) (hc : ∀ o, o < n → ∃ v, w'.cell? ⟨g, o, none⟩ = some v) :
    Rel P σ ρ (fun b o => S b o ∨ (b = g ∧ o < n)) w' ∧ Ext σ ρ S w σ ρ (fun b o => S b o ∨ (b = g ∧ o < n)) w' := by
  have hold : ∀ b, b < w.heap.size → w'.heap[b]? = w.heap[b]? := hb.block
  obtain ⟨r, e⟩ := ext_below hr hb
  have he : Ext σ ρ S w σ ρ (fun b o => S b o ∨ (b = g ∧ o < n)) w' :=
    ⟨fun b o h => ⟨.inl h, (e.cell b o h).2⟩, e.box, e.vec, e.raw, e.dead, e.old, e.fresh, fun b o h => h.elim .inl fun h => .inr (.inl (by omega)), e.size, e.os, e.tape, e.output⟩
  refine ⟨⟨hr.len, fun i cs h => ?_, fun i et m b c h h' => ?_, fun i q h => ?_, hr.hole, fun i b c h => Nat.lt_of_lt_of_le (hr.lt i b c h) hb.size, hr.inj, fun b o h => ?_, hr.glob.mono he⟩, he⟩
  · obtain ⟨b, c, arr, T, h1, h2, h3, h4, h5, h6⟩ := hr.box i cs h
    exact ⟨b, c, arr, T, h1, (hold b (heap_lt h2)).trans h2, h3, fun j v hj => let ⟨h7, x, h8, h9⟩ := h4 j v hj; ⟨h7, x, h8, h9.mono he⟩, fun o ho => ho.elim (h5 o) fun ho => by have := heap_lt h2; omega, h6⟩
  · obtain ⟨arr, T, fs, h1, h2, h3, h4, h5, h6⟩ := hr.vec i et m b c h h'
    exact ⟨arr, T, fs, (hold b (heap_lt h1)).trans h1, h2, h3, h4, fun o ho => ho.elim (h5 o) fun ho => by have := heap_lt h1; omega, h6⟩
  · obtain ⟨b, c, o, h1, h2, h3, h4⟩ := hr.raw i q h
    exact ⟨b, c, o, h1, (hold b (heap_lt h2)).trans h2, h3.mono he, fun o ho => ho.elim (h4 o) fun ho => by have := heap_lt h2; omega⟩
  · rcases h with h | ⟨rfl, h⟩
    · exact r.cells b o h
    · exact hc o h

theorem prim_split {f t : Nat} (hE : Enters P f) (hf : flat P depth t = some [t]) (ht : P.underlying t = some .string)
    (hc : ∀ (s : List UInt8) (c : UInt8), s.length < 4294967281 → ∀ w, Calls P f #[.string ⟨s.toArray⟩, .string ⟨#[c]⟩] w fun e w' =>
      e = .returned (.slice (some ⟨w.heap.size, 0, none⟩) (splitAt c s).length (splitAt c s).length) ∧ w' = w.alloc (.cells ((splitAt c s).map fun x => Value.string ⟨x.toArray⟩).toArray t)) : PrimFor P f (splitG t) := by
  intro args σ r σ' h
  unfold splitG at h
  split at h
  · rename_i s c
    obtain ⟨hb, rfl, rfl⟩ := quick_must h
    have hb := of_decide_eq_true hb
    refine ⟨hE, fun ρ S w cargs hr ha => ?_⟩
    obtain ⟨cv, cu, rfl, hv, hu⟩ := ha.two
    have hv' : VE P w S (.str s) cv := hv
    have hu' : VE P w S (.str [c]) cu := hu
    cases hv' with
    | str _ b1 e1 =>
    cases hu' with
    | str _ b2 e2 =>
    have e1 : b1 = ⟨s.toArray⟩ := by rw [← e1]
    have e2 : b2 = ⟨#[c]⟩ := by cases b2; simp at e2; rw [← e2]
    subst e1; subst e2
    refine (hc s c hb w).mono ?_
    rintro e w' ⟨rfl, rfl⟩
    have hbl : Below w.heap.size w (w.alloc (.cells ((splitAt c s).map fun x => Value.string ⟨x.toArray⟩).toArray t)) :=
      ⟨rfl, rfl, rfl, by rw [World.size_alloc]; omega, fun i hi => alloc_heap_old _ hi⟩
    have hcell : ∀ (j : Nat) x, (splitAt c s)[j]? = some x → (w.alloc (.cells ((splitAt c s).map fun x => Value.string ⟨x.toArray⟩).toArray t)).cell? ⟨w.heap.size, j, none⟩ = some (.string ⟨x.toArray⟩) := by
      intro j x hj
      have hnew := heap_alloc_new w (.cells ((splitAt c s).map fun x => Value.string ⟨x.toArray⟩).toArray t)
      unfold World.cell?
      rw [hnew]
      simp [hj]
    obtain ⟨r1, x1⟩ := ext_row hr hbl (g := w.heap.size) (n := (splitAt c s).length) (Nat.le_refl _) fun o ho => ⟨_, hcell o _ (List.getElem?_eq_getElem ho)⟩
    refine ⟨ρ, _, r1, x1, _, rfl, ?_⟩
    have : VE P (w.alloc (.cells ((splitAt c s).map fun x => Value.string ⟨x.toArray⟩).toArray t)) (fun b o => S b o ∨ (b = w.heap.size ∧ o < (splitAt c s).length)) (.sl t ((splitAt c s).map E.str)) (.slice (some ⟨w.heap.size, 0, none⟩) ((splitAt c s).map E.str).length (splitAt c s).length) := by
      have key : ∀ (i : Nat) (y : E) (j : Nat) (x : E), ((splitAt c s).map E.str)[i]? = some y → y.cells[j]? = some x → ∃ q, (splitAt c s)[i]? = some q ∧ j = 0 ∧ x = .str q := by
        intro i y j x h1 h2
        rw [List.getElem?_map] at h1
        obtain ⟨q, h3, rfl⟩ := Option.map_eq_some_iff.1 h1
        cases j with
        | zero => exact ⟨q, h3, rfl, by simp [E.cells] at h2; exact h2.symm⟩
        | succ j => simp [E.cells] at h2
      refine .sl t _ _ _ [t] w.heap.size 0 (fun i _ => .string ⟨((splitAt c s).getD i []).toArray⟩) hf (by simp) ?_ ?_ ?_ ?_
      · intro i y h1
        rw [List.getElem?_map] at h1
        obtain ⟨q, h3, rfl⟩ := Option.map_eq_some_iff.1 h1
        rfl
      · intro i y j ct x h1 h2 h3
        obtain ⟨q, h4, rfl, rfl⟩ := key i y j x h1 h3
        have : ct = t := by simpa using h2.symm
        subst this
        simp [okCell, ht]
      · intro i y j x h1 h2
        obtain ⟨q, h4, rfl, rfl⟩ := key i y j x h1 h2
        have hi := (List.getElem?_eq_some_iff.1 h4).1
        refine ⟨rfl, .inr ⟨rfl, by simpa using hi⟩, ?_⟩
        have h5 := hcell i q h4
        have e : (splitAt c s).getD i [] = q := by rw [List.getD_eq_getElem?_getD, h4]; rfl
        simp only [e, List.length_singleton, Nat.mul_one, Nat.zero_add, Nat.add_zero]
        exact h5
      · intro i y j x h1 h2
        obtain ⟨q, h4, rfl, rfl⟩ := key i y j x h1 h2
        exact .str _ _ (by simp [List.getD_eq_getElem?_getD, h4])
    rw [List.length_map] at this
    exact this
  · cases h
theorem tup_two {P : Program} {σ : Heap} {ρ : Gr} {S : Cells} {w : World} {a b : AV} {x y : Value} (h1 : VA2 P σ ρ S w a x) (h2 : VA2 P σ ρ S w b y) : VA3 P σ ρ S w (.tup [a, b]) (.tuple #[x, y]) := by
  refine ⟨_, rfl, rfl, fun j v hj => ?_⟩
  match j, hj with
  | 0, hj => injection hj with hj; subst hj; exact ⟨x, rfl, h1⟩
  | 1, hj => injection hj with hj; subst hj; exact ⟨y, rfl, h2⟩
  | n + 2, hj => simp at hj

theorem prim_atoi {f gs gr : Nat} (hE : Enters P f) (hgs : P.globalNamed "strconv.ErrSyntax" = some gs) (hgr : P.globalNamed "strconv.ErrRange" = some gr)
    (hok : ∀ (s : List UInt8) (v : Int), s.length ≤ 281474976710656 → Lib.atoiAll s = .ok v → ∀ w, Calls P f #[.string ⟨s.toArray⟩] w fun e w' => e = .returned (.tuple #[.int .i64 v, .nilIface]) ∧ Below w.heap.size w w')
    (hsyn : ∀ (s : List UInt8), s.length ≤ 281474976710656 → Lib.atoiAll s = Lib.NumEnd.syntax → ∀ (ev : Value) w, w.cell? ⟨gs, 0, none⟩ = some ev → (ev = .nilIface ∨ ∃ te pe, ev = .iface te pe) →
      Calls P f #[.string ⟨s.toArray⟩] w fun e w' => ∃ T v, e = .returned (.tuple #[.int .i64 0, .iface T v]) ∧ Below w.heap.size w w')
    (hran : ∀ (s : List UInt8), s.length ≤ 281474976710656 → Lib.atoiAll s = .range → ∀ (ev : Value) w, w.cell? ⟨gr, 0, none⟩ = some ev → (ev = .nilIface ∨ ∃ te pe, ev = .iface te pe) →
      Calls P f #[.string ⟨s.toArray⟩] w fun e w' => ∃ T v, e = .returned (.tuple #[.int .i64 (Lib.atoiSat s), .iface T v]) ∧ Below w.heap.size w w') : PrimFor P f atoiG := by
  have glob : ∀ {σ : Heap} {ρ : Gr} {S : Cells} {w : World} {n : String} {g : Nat}, Rel P σ ρ S w → (n, isIfc) ∈ tabs → P.globalNamed n = some g → ∃ ev, w.cell? ⟨g, 0, none⟩ = some ev ∧ (ev = .nilIface ∨ ∃ te pe, ev = .iface te pe) := by
    intro σ ρ S w n g hr hm hg
    obtain ⟨q, h1, v, h2, h3⟩ := (hr.glob (n, isIfc) hm g hg).1
    refine ⟨v, ?_, h3⟩
    unfold World.var? at h1
    rw [hg] at h1
    simp only [Option.bind_some] at h1
    unfold World.cell?
    split at h1
    · rename_i cs _ _ hh
      rw [hh]
      injection h1 with h1
      rw [h1, h2]; rfl
    · cases h1
  intro args σ r σ' h
  unfold atoiG at h
  split at h
  · rename_i s
    rw [quick_br] at h
    cases hd : decide (s.length ≤ 281474976710656) with
    | false => rw [hd] at h; cases h
    | true =>
    rw [hd] at h
    have hlen := of_decide_eq_true hd
    have h : (match Lib.atoiAll s with
        | .ok v => T.res (.ret (.tup [.e (.int .i64 v), .e .nili])) σ
        | Lib.NumEnd.syntax => .res (.ret (.tup [.e (.int .i64 0), .ni])) σ
        | .range => .res (.ret (.tup [.e (.int .i64 (Lib.atoiSat s)), .ni])) σ).quick = some (r, σ') := h
    refine ⟨hE, fun ρ S w cargs hr ha => ?_⟩
    obtain ⟨cv, rfl, hv⟩ := ha.one
    have hv' : VE P w S (.str s) cv := hv
    cases hv' with
    | str _ b1 e1 =>
    have e1 : b1 = ⟨s.toArray⟩ := by rw [← e1]
    subst e1
    split at h
    · rename_i v hs
      rw [quick_res] at h; injection h with h; injection h with h1 h2; subst h1; subst h2
      refine (hok s v hlen hs w).mono ?_
      rintro e w' ⟨rfl, hb⟩
      obtain ⟨r1, x1⟩ := ext_below hr hb
      exact ⟨ρ, S, r1, x1, _, rfl, tup_two (VE.int _ _) VE.nili⟩
    · rename_i hs
      rw [quick_res] at h; injection h with h; injection h with h1 h2; subst h1; subst h2
      obtain ⟨ev, g1, g2⟩ := glob hr (by simp [tabs]) hgs
      refine (hsyn s hlen hs ev w g1 g2).mono ?_
      rintro e w' ⟨T, v, rfl, hb⟩
      obtain ⟨r1, x1⟩ := ext_below hr hb
      exact ⟨ρ, S, r1, x1, _, rfl, tup_two (VE.int _ _) ⟨T, v, rfl⟩⟩
    · rename_i hs
      rw [quick_res] at h; injection h with h; injection h with h1 h2; subst h1; subst h2
      obtain ⟨ev, g1, g2⟩ := glob hr (by simp [tabs]) hgr
      refine (hran s hlen hs ev w g1 g2).mono ?_
      rintro e w' ⟨T, v, rfl, hb⟩
      obtain ⟨r1, x1⟩ := ext_below hr hb
      exact ⟨ρ, S, r1, x1, _, rfl, tup_two (VE.int _ _) ⟨T, v, rfl⟩⟩
  · cases h
end

end Go.Den

/- strings.Split at one byte: the library's cutting is ours. -/
namespace Go.Den
open Go

theorem cut_spec (c : UInt8) : ∀ s : List UInt8, (Lib.indexByte s c = -1 ∧ splitAt c s = [s] ∧ s.count c = 0) ∨
    ∃ i : Nat, Lib.indexByte s c = i ∧ i < s.length ∧ splitAt c s = s.take i :: splitAt c (s.drop (i + 1)) ∧ s.count c = 1 + (s.drop (i + 1)).count c := by
  intro s
  induction s with
  | nil => exact .inl ⟨rfl, rfl, rfl⟩
  | cons x s ih =>
    by_cases hx : x = c
    · subst hx
      refine .inr ⟨0, ?_, by simp, ?_, ?_⟩
      · unfold Lib.indexByte; rw [if_pos (by simp)]; rfl
      · rw [splitAt, if_pos rfl]; rfl
      · rw [List.count_cons_self]; simp [Nat.add_comm]
    · have hne : ¬ (x == c) = true := by simpa using hx
      have hc : (x :: s).count c = s.count c := by rw [List.count_cons, if_neg hne]; rfl
      rcases ih with ⟨h1, h2, h3⟩ | ⟨i, h1, h2, h3, h4⟩
      · refine .inl ⟨?_, ?_, by rw [hc]; exact h3⟩
        · unfold Lib.indexByte; rw [if_neg hne, h1]; rfl
        · rw [splitAt, if_neg hx, h2]
      · refine .inr ⟨i + 1, ?_, by simp; omega, ?_, ?_⟩
        · unfold Lib.indexByte
          rw [if_neg hne, h1, if_neg (by simp)]
          omega
        · rw [splitAt, if_neg hx, h3]; rfl
        · rw [hc, h4]; rfl

theorem split_one (c : UInt8) : ∀ (k : Nat) (s : List UInt8), s.count c ≤ k → Lib.splitK [c] 0 k s = splitAt c s := by
  intro k
  induction k with
  | zero =>
    intro s h
    rcases cut_spec c s with ⟨h1, h2, h3⟩ | ⟨i, h1, h2, h3, h4⟩
    · rw [h2]; rfl
    · omega
  | succ k ih =>
    intro s h
    unfold Lib.splitK
    rw [Lib.index_one]
    rcases cut_spec c s with ⟨h1, h2, h3⟩ | ⟨i, h1, h2, h3, h4⟩
    · rw [h1, h2]; rfl
    · rw [h1, if_neg (by simp), h3, Int.toNat_natCast, Nat.add_zero]
      exact congrArg _ (ih _ (by show (s.drop (i + 1)).count c ≤ k; omega))

theorem countFrom_one (c : UInt8) : ∀ (n : Nat) (s : List UInt8), s.length < n → Lib.countFrom [c] n s = s.count c := by
  intro n
  induction n with
  | zero => intro s h; omega
  | succ n ih =>
    intro s h
    unfold Lib.countFrom
    rw [Lib.index_one]
    rcases cut_spec c s with ⟨h1, h2, h3⟩ | ⟨i, h1, h2, h3, h4⟩
    · rw [h1, h3]; rfl
    · rw [h1, if_neg (by simp), h4, Int.toNat_natCast]
      exact congrArg _ (ih _ (by show (s.drop (i + 1)).length < n; rw [List.length_drop]; omega))
theorem count_one (c : UInt8) (s : List UInt8) : Lib.count s [c] = s.count c := countFrom_one c _ s (Nat.lt_succ_self _)

theorem splitB_one (s : List UInt8) (c : UInt8) : Lib.splitB ⟨#[c]⟩ 0 (Lib.countB ⟨s.toArray⟩ ⟨#[c]⟩) ⟨s.toArray⟩ = (splitAt c s).map fun x => ⟨x.toArray⟩ := by
  have h := Lib.splitB_data ⟨#[c]⟩ 0 (Lib.countB ⟨s.toArray⟩ ⟨#[c]⟩) ⟨s.toArray⟩
  have e : Lib.countB ⟨s.toArray⟩ ⟨#[c]⟩ = s.count c := count_one c s
  rw [e] at h ⊢
  have h : (Lib.splitB ⟨#[c]⟩ 0 (s.count c) ⟨s.toArray⟩).map (·.data.toList) = splitAt c s := h.trans (split_one c _ s (Nat.le_refl _))
  rw [← h, List.map_map]
  conv => lhs; rw [← List.map_id (Lib.splitB ⟨#[c]⟩ 0 (s.count c) ⟨s.toArray⟩)]
  refine List.map_congr_left fun x _ => ?_
  cases x
  simp
end Go.Den

/- Functions of the library, by their contracts: strings.Index at one byte; strconv.Atoi once more, with its cases as branches. -/
namespace Go.Den
open Go Go.RowKit

def index1G (args : List AV) (σ : Heap) : T :=
  match args with
  | [.e (.str s), .e (.str [c])] => .res (.ret (.e (.int .i64 (Lib.indexByte s c)))) σ
  | _ => .fail

theorem prim_index1 {P : Program} {f : FuncId} (hE : Enters P f)
    (hc : ∀ (s : ByteArray) (c : UInt8) (w : World), Calls P f #[.string s, .string ⟨#[c]⟩] w fun e w' => e = .returned (.int .i64 (Lib.indexByte s.data.toList c)) ∧ w' = w) : PrimFor P f index1G := by
  intro args σ r σ' h
  unfold index1G at h
  split at h
  · rename_i s c
    rw [quick_res] at h
    injection h with h; injection h with h1 h2
    subst h1; subst h2
    refine ⟨hE, fun ρ S w cargs hr ha => ?_⟩
    obtain ⟨cv, cu, rfl, hv, hu⟩ := ha.two
    have hv' : VE P w S (.str s) cv := hv
    have hu' : VE P w S (.str [c]) cu := hu
    cases hv' with
    | str _ b hb =>
    cases hu' with
    | str _ b2 hb2 =>
    obtain ⟨⟨d2⟩⟩ := b2
    simp only at hb2
    subst hb2
    refine (hc b c w).mono ?_
    rintro e w' ⟨rfl, rfl⟩
    rw [hb]
    exact ⟨ρ, S, hr, Ext.refl _ _ _ _, _, rfl, VE.int _ _⟩
  · cases h

def atOk (s : List UInt8) : Bool := match Lib.atoiAll s with | .ok _ => true | _ => false
def atVal (s : List UInt8) : Int := match Lib.atoiAll s with | .ok v => v | Lib.NumEnd.syntax => 0 | .range => Lib.atoiSat s
def atoiX (args : List AV) (σ : Heap) : T :=
  match args with
  | [.e (.str s)] => .br (decide (s.length ≤ 281474976710656))
      (.br (atOk s) (.res (.ret (.tup [.e (.int .i64 (atVal s)), .e .nili])) σ) (.res (.ret (.tup [.e (.int .i64 (atVal s)), .ni])) σ)) .fail
  | _ => .fail
theorem atoi_quick (args : List AV) (σ : Heap) : (atoiX args σ).quick = (atoiG args σ).quick := by
  unfold atoiX atoiG
  split
  · rename_i s
    rw [quick_br, quick_br, quick_br]
    unfold atOk atVal
    cases Lib.atoiAll s <;> rfl
  · rename_i hx
    first
    | rfl
    | (split
       · exact absurd rfl (hx _)
       · rfl)
theorem prim_atoiX {P : Program} {f : FuncId} (h : PrimFor P f atoiG) : PrimFor P f atoiX := fun args σ r σ' hq => h args σ r σ' (by rw [← atoi_quick]; exact hq)

end Go.Den

/- Loops that scan; runes of a text; results by their types. -/
namespace Go.Den
open Go

/-! ### Loops that scan -/

theorem drop_getD {α : Type} {s : List α} {i : Nat} (h : i < s.length) (d : α) : s.drop i = s.getD i d :: s.drop (i + 1) := by
  rw [List.getD_eq_getElem?_getD, List.getElem?_eq_getElem h]; exact List.drop_eq_getElem_cons h

/-- Every element passes, or the first one that doesn't ends the loop. -/
theorem scan_all {α : Type} {s : List α} {d : α} {q : α → Bool} {G : Nat → Option Out} {bad fin : Out}
    (hs : ∀ i, i < s.length → ∀ r, (bif q (s.getD i d) then G (i + 1) else some bad) = some r → G i = some r) (hn : G s.length = some fin) :
    G 0 = some (bif s.all q then fin else bad) := by
  have key : ∀ k i, i + k = s.length → G i = some (bif (s.drop i).all q then fin else bad) := by
    intro k
    induction k with
    | zero =>
      intro i h
      have : i = s.length := by omega
      subst this
      rw [List.drop_length]
      exact hn
    | succ k ih =>
      intro i h
      have hi : i < s.length := by omega
      refine hs i hi _ ?_
      rw [drop_getD hi d, List.all_cons, ih (i + 1) (by omega)]
      cases q (s.getD i d) <;> rfl
  have := key s.length 0 (by omega)
  rwa [List.drop_zero] at this

/-- .. by numbers. -/
def allFrom (q : Nat → Bool) : Nat → Nat → Bool
  | 0, _ => true
  | k + 1, i => q i && allFrom q k (i + 1)
theorem allFrom_iff {q : Nat → Bool} : ∀ {k i : Nat}, allFrom q k i = true ↔ ∀ j, i ≤ j → j < i + k → q j = true := by
  intro k
  induction k with
  | zero => intro i; exact ⟨fun _ j h1 h2 => by omega, fun _ => rfl⟩
  | succ k ih =>
    intro i
    unfold allFrom
    rw [Bool.and_eq_true, ih]
    constructor
    · rintro ⟨h1, h2⟩ j hj hk
      by_cases e : j = i
      · rw [e]; exact h1
      · exact h2 j (by omega) (by omega)
    · intro h
      exact ⟨h i (Nat.le_refl _) (by omega), fun j h1 h2 => h j (by omega) (by omega)⟩
theorem scan_ix {n : Nat} {q : Nat → Bool} {G : Nat → Option Out} {bad fin : Out}
    (hs : ∀ i, i < n → ∀ r, (bif q i then G (i + 1) else some bad) = some r → G i = some r) (hn : G n = some fin) :
    G 0 = some (bif allFrom q n 0 then fin else bad) := by
  have key : ∀ k i, i + k = n → G i = some (bif allFrom q k i then fin else bad) := by
    intro k
    induction k with
    | zero =>
      intro i h
      have : i = n := by omega
      subst this
      exact hn
    | succ k ih =>
      intro i h
      refine hs i (by omega) _ ?_
      show _ = some (bif q i && allFrom q k (i + 1) then fin else bad)
      rw [ih (i + 1) (by omega)]
      cases q i <;> rfl
  exact key n 0 (by omega)

/-- The first number at which a loop ends early. -/
def firstFrom {α : Type} (e : Nat → Option α) : Nat → Nat → Option α
  | 0, _ => none
  | k + 1, i => match e i with | some o => some o | none => firstFrom e k (i + 1)
theorem firstFrom_map {α β : Type} (e : Nat → Option α) (f : α → β) : ∀ k i, firstFrom (fun i => (e i).map f) k i = (firstFrom e k i).map f := by
  intro k
  induction k with
  | zero => intro i; rfl
  | succ k ih =>
    intro i
    unfold firstFrom
    cases h : e i with
    | some x => simp
    | none => simp [ih]
theorem firstFrom_congr {α : Type} {e e' : Nat → Option α} : ∀ {k i : Nat}, (∀ j, i ≤ j → j < i + k → e j = e' j) → firstFrom e k i = firstFrom e' k i := by
  intro k
  induction k with
  | zero => intro i h; rfl
  | succ k ih =>
    intro i h
    unfold firstFrom
    rw [h i (Nat.le_refl _) (by omega), ih (fun j h1 h2 => h j (by omega) (by omega))]
theorem firstFrom_none {α : Type} {e : Nat → Option α} : ∀ {k i : Nat}, firstFrom e k i = none → ∀ j, i ≤ j → j < i + k → e j = none := by
  intro k
  induction k with
  | zero => intro i h j h1 h2; omega
  | succ k ih =>
    intro i h j h1 h2
    unfold firstFrom at h
    cases he : e i with
    | some x => rw [he] at h; cases h
    | none =>
      rw [he] at h
      by_cases e1 : j = i
      · rw [e1]; exact he
      · exact ih h j (by omega) (by omega)
theorem scan_first {n : Nat} {e : Nat → Option Out} {G : Nat → Option Out} {fin : Out}
    (hs : ∀ i, i < n → ∀ r, (match e i with | some o => some o | none => G (i + 1)) = some r → G i = some r) (hn : G n = some fin) :
    G 0 = some ((firstFrom e n 0).getD fin) := by
  have key : ∀ k i, i + k = n → G i = some ((firstFrom e k i).getD fin) := by
    intro k
    induction k with
    | zero =>
      intro i h
      have : i = n := by omega
      subst this
      exact hn
    | succ k ih =>
      intro i h
      refine hs i (by omega) _ ?_
      unfold firstFrom
      cases h1 : e i with
      | some o => rfl
      | none => exact ih (i + 1) (by omega)
  exact key n 0 (by omega)

/-- A loop that does its whole round each time. -/
theorem scan_to {n : Nat} {G : Nat → Option Out} {fin : Out} (hs : ∀ i, i < n → ∀ r, G (i + 1) = some r → G i = some r) (hn : G n = some fin) : G 0 = some fin := by
  have key : ∀ k i, i + k = n → G i = some fin := by
    intro k
    induction k with
    | zero => intro i h; have : i = n := by omega
              subst this; exact hn
    | succ k ih => intro i h; exact hs i (by omega) _ (ih (i + 1) (by omega))
  exact key n 0 (by omega)
theorem take_snoc {α : Type} {s : List α} {i : Nat} (h : i < s.length) (d : α) : s.take (i + 1) = s.take i ++ [s.getD i d] := by
  rw [List.getD_eq_getElem?_getD, List.getElem?_eq_getElem h, List.take_add_one, List.getElem?_eq_getElem h]; rfl

/-! ### A function's first call -/

def T.after (r : Res × Heap) : T → T
  | .call _ _ _ _ k => k r
  | .br b x y => cond b (x.after r) (y.after r)
  | _ => .fail
def T.first : T → Option (Mode × FuncId × List AV × Heap)
  | .call m f as σ _ => some (m, f, as, σ)
  | .br b x y => cond b x.first y.first
  | _ => none
/-- What a function comes to, where its first call's end is known. -/
theorem run_first {P : Program} {H : Hints} {md m : Mode} {f g : FuncId} {args as : List AV} {σ σ' : Heap} {r q : Res × Heap}
    (h1 : (bodyT P H md f args σ).first = some (m, g, as, σ')) (h2 : run P H m g as σ' = some r) (h3 : ((bodyT P H md f args σ).after r).quick = some q) : run P H md f args σ = some q := by
  refine run_of_body ?_
  unfold bodyRun
  have key : ∀ t : T, t.quick = some q → t.runs (run P H) (loop P H f σ.length) = some q := by
    intro t
    induction t with
    | fail => intro h; cases h
    | res r h => intro h; exact h
    | out o => intro h; cases h
    | br b x y ihx ihy =>
      intro h
      cases b
      · exact ihy h
      · exact ihx h
    | call => intro h; cases h
    | loop => intro h; cases h
  generalize bodyT P H md f args σ = t at h1 h3 ⊢
  induction t with
  | call m' f' as' σ'' k =>
    unfold T.first at h1
    injection h1 with h1
    injection h1 with e1 h1; injection h1 with e2 h1; injection h1 with e3 e4
    subst e1; subst e2; subst e3; subst e4
    show (run P H m' f' as' σ'').bind _ = _
    rw [h2]
    exact key _ h3
  | br b x y ihx ihy =>
    cases b
    · exact ihy h1 h3
    · exact ihx h1 h3
  | _ => cases h1

/-! ### Numbers -/

theorem nat_at (i : Nat) : ((i : Int)).toNat = i := by omega
theorem nat_wrap {i n : Nat} (h : i < n) (hn : n ≤ maxLen) : IntKind.i64.wrap ((i : Int) + 1) = ((i + 1 : Nat) : Int) := by
  rw [maxLen_eq] at hn
  rw [wrap_in (by omega) (by omega)]
  omega
theorem nat_in {i n : Nat} (h : i < n) : (decide ((0 : Int) ≤ (i : Int)) && decide ((i : Int) < (n : Int))) = true := by
  simp; omega
theorem nat_lt {i n : Nat} (h : i < n) : decide ((i : Int) < (n : Int)) = true := by simp; omega
theorem nat_end (n : Nat) : decide ((n : Int) < (n : Int)) = false := by simp
theorem byte_is {c : UInt8} {n : Nat} (hn : n < 256) : (((c.toNat : Int)) == (n : Int)) = decide (c = UInt8.ofNat n) := by
  have : (c = UInt8.ofNat n) ↔ c.toNat = n := by
    constructor
    · rintro rfl; simp; omega
    · intro h; rw [← h]; simp
  by_cases h : c.toNat = n
  · rw [decide_eq_true (this.2 h)]; simp [h]
  · rw [decide_eq_false (fun e => h (this.1 e))]
    simp; omega
theorem strEq_dec (a b : List UInt8) : strEq a b = decide (a = b) := by
  unfold strEq
  by_cases h : a = b
  · subst h; simp
  · rw [dec_no h]; simpa using h
theorem cond_pick {α : Type} {b : Bool} {x y r : α} (h1 : b = true → x = r) (h2 : b = false → y = r) : (bif b then x else y) = r := by
  cases b
  · exact h2 rfl
  · exact h1 rfl

/-! ### Runes -/

theorem get_of {s : List UInt8} {p : Nat} (h : p < s.length) : ((⟨s.toArray⟩ : ByteArray)[p]'(by show p < s.toArray.size; simpa using h)) = s.getD p 0 := by
  rw [List.getD_eq_getElem?_getD, List.getElem?_eq_getElem h]
  show s.toArray[p] = _
  simp
theorem getB_of {s : List UInt8} {p : Nat} (h : p < s.length) : (⟨s.toArray⟩ : ByteArray).get! p = s.getD p 0 := by
  rw [← get_of h]
  show s.toArray[p]! = s.toArray[p]
  simp [h]
theorem dec_lo {s : List UInt8} {p : Nat} (h : p < s.length) (ha : (s.getD p 0).toNat < 128) : Utf8.decode ⟨s.toArray⟩ p = ((s.getD p 0).toNat, 1) := by
  rw [decode_ascii ⟨s.toArray⟩ p (by show p < s.toArray.size; simpa using h) (by rw [get_of h]; exact ha), get_of h]

theorem dec_cont {s : List UInt8} {p k : Nat} (h : (decide (p + k < (⟨s.toArray⟩ : ByteArray).size) && ((⟨s.toArray⟩ : ByteArray).get! (p + k)).toNat / 64 == 2) = true) :
    p + k < s.length ∧ 128 ≤ (s.getD (p + k) 0).toNat := by
  rw [Bool.and_eq_true, decide_eq_true_eq] at h
  have h1 : p + k < s.length := by have := h.1; change p + k < s.toArray.size at this; simpa using this
  have h2 := h.2
  rw [getB_of h1] at h2
  have h3 := eq_of_beq h2
  exact ⟨h1, by omega⟩

/-- A byte from 128 on begins a rune from 128 on, of bytes from 128 on. -/
theorem dec_hi {s : List UInt8} {p : Nat} (h : p < s.length) (ha : 128 ≤ (s.getD p 0).toNat) :
    128 ≤ (Utf8.decode ⟨s.toArray⟩ p).1 ∧ 1 ≤ (Utf8.decode ⟨s.toArray⟩ p).2 ∧ p + (Utf8.decode ⟨s.toArray⟩ p).2 ≤ s.length ∧
      ∀ k, p ≤ k → k < p + (Utf8.decode ⟨s.toArray⟩ p).2 → 128 ≤ (s.getD k 0).toNat := by
  obtain ⟨h1, h2⟩ := decode_high ⟨s.toArray⟩ p (by show p < s.toArray.size; simpa using h) (by rw [get_of h]; exact ha)
  refine ⟨h1, h2, ?_⟩
  have hw : (Utf8.decode ⟨s.toArray⟩ p).2 = 1 ∨
      ((Utf8.decode ⟨s.toArray⟩ p).2 = 2 ∧ (p + 1 < s.length ∧ 128 ≤ (s.getD (p + 1) 0).toNat)) ∨
      ((Utf8.decode ⟨s.toArray⟩ p).2 = 3 ∧ (p + 1 < s.length ∧ 128 ≤ (s.getD (p + 1) 0).toNat) ∧ (p + 2 < s.length ∧ 128 ≤ (s.getD (p + 2) 0).toNat)) ∨
      ((Utf8.decode ⟨s.toArray⟩ p).2 = 4 ∧ (p + 1 < s.length ∧ 128 ≤ (s.getD (p + 1) 0).toNat) ∧ (p + 2 < s.length ∧ 128 ≤ (s.getD (p + 2) 0).toNat) ∧ (p + 3 < s.length ∧ 128 ≤ (s.getD (p + 3) 0).toNat)) := by
    unfold Utf8.decode
    simp only []
    split
    · exact .inl rfl
    split
    · rename_i hc
      rw [Bool.and_eq_true] at hc
      have c1 := dec_cont hc.2
      split
      · exact .inr (.inl ⟨rfl, c1⟩)
      · exact .inl rfl
    split
    · rename_i hc
      rw [Bool.and_eq_true, Bool.and_eq_true] at hc
      have c1 := dec_cont hc.1.2
      have c2 := dec_cont hc.2
      split
      · exact .inr (.inr (.inl ⟨rfl, c1, c2⟩))
      · exact .inl rfl
    split
    · rename_i hc
      rw [Bool.and_eq_true, Bool.and_eq_true, Bool.and_eq_true] at hc
      have c1 := dec_cont hc.1.1.2
      have c2 := dec_cont hc.1.2
      have c3 := dec_cont hc.2
      split
      · exact .inr (.inr (.inr ⟨rfl, c1, c2, c3⟩))
      · exact .inl rfl
    · exact .inl rfl
  rcases hw with e | ⟨e, c1⟩ | ⟨e, c1, c2⟩ | ⟨e, c1, c2, c3⟩ <;> rw [e]
  · refine ⟨by omega, fun k hk hl => ?_⟩
    have : k = p := by omega
    rw [this]; exact ha
  · refine ⟨by omega, fun k hk hl => ?_⟩
    rcases (by omega : k = p ∨ k = p + 1) with rfl | rfl
    · exact ha
    · exact c1.2
  · refine ⟨by omega, fun k hk hl => ?_⟩
    rcases (by omega : k = p ∨ k = p + 1 ∨ k = p + 2) with rfl | rfl | rfl
    · exact ha
    · exact c1.2
    · exact c2.2
  · refine ⟨by omega, fun k hk hl => ?_⟩
    rcases (by omega : k = p ∨ k = p + 1 ∨ k = p + 2 ∨ k = p + 3) with rfl | rfl | rfl | rfl
    · exact ha
    · exact c1.2
    · exact c2.2
    · exact c3.2

/-- A loop over runes that leaves runes from 128 on aside, and does something for each byte below: as a loop over bytes. -/
theorem runes_scan {s : List UInt8} {St : Type} {I : Nat → St → Prop} {f : St → UInt8 → Option St} {G : Nat → St → Option Out} {fin : St → Out} {bad : Out}
    (hs : ∀ p st, p < s.length → I p st → ∀ r,
      (bif decide ((s.getD p 0).toNat < 128) then (f st (s.getD p 0)).elim (some bad) (G (p + 1)) else G (p + (Utf8.decode ⟨s.toArray⟩ p).2) st) = some r → G p st = some r)
    (hf : ∀ st c, 128 ≤ c.toNat → f st c = some st) (hI : ∀ p st c st', I p st → f st c = some st' → I (p + 1) st') (hm : ∀ p q st, p ≤ q → I p st → I q st)
    (hn : ∀ st, I s.length st → G s.length st = some (fin st)) :
    ∀ st, I 0 st → G 0 st = some ((s.foldlM f st).elim bad fin) := by
  have skip : ∀ w p st, p + w ≤ s.length → (∀ k, p ≤ k → k < p + w → 128 ≤ (s.getD k 0).toNat) → (s.drop p).foldlM f st = (s.drop (p + w)).foldlM f st := by
    intro w
    induction w with
    | zero => intro p st _ _; rfl
    | succ w ih =>
      intro p st hp hk
      rw [drop_getD (show p < s.length by omega) 0, List.foldlM_cons, hf st _ (hk p (Nat.le_refl _) (by omega))]
      show (s.drop (p + 1)).foldlM f st = _
      rw [ih (p + 1) st (by omega) (fun k h1 h2 => hk k (by omega) (by omega))]
      congr 2
      omega
  have key : ∀ k p st, p + k = s.length → I p st → G p st = some (((s.drop p).foldlM f st).elim bad fin) := by
    intro k
    induction k using Nat.strongRecOn with
    | _ k ih =>
    intro p st h hi
    by_cases hp : p = s.length
    · subst hp
      rw [List.drop_length, hn st hi]; rfl
    have hp : p < s.length := by omega
    refine hs p st hp hi _ ?_
    by_cases ha : (s.getD p 0).toNat < 128
    · rw [dec_yes ha, drop_getD hp 0, List.foldlM_cons]
      cases hq : f st (s.getD p 0) with
      | none => rfl
      | some st' =>
        show G (p + 1) st' = _
        rw [ih (k - 1) (by omega) (p + 1) st' (by omega) (hI p st _ st' hi hq)]
        rfl
    · rw [dec_no ha]
      obtain ⟨_, h2, h3, h4⟩ := dec_hi hp (by omega)
      show G (p + _) st = _
      rw [ih (s.length - (p + (Utf8.decode ⟨s.toArray⟩ p).2)) (by omega) _ st (by omega) (hm p _ st (by omega) hi), skip _ p st h3 h4]
  intro st hi
  have := key s.length 0 st (by omega) hi
  rwa [List.drop_zero] at this

end Go.Den

/- slices.Clone: the elements, in a row of its own. -/
namespace Go.Den
open Go Go.RowKit

section
variable {P : Program} {σ : Heap} {ρ : Gr} {S : Cells} {w w' : World}

def cloneG (t : TypeId) (bytes : Nat) (args : List AV) (σ : Heap) : T :=
  match args with
  | [.e (.sl t' xs)] => if t' = t then .br (decide (xs.length * bytes ≤ 140737488355328)) (.res (.ret (.e (.sl t xs))) σ) .fail else .fail
  | _ => .fail

theorem prim_clone {f t bytes : Nat} {fs : List TypeId} (hE : Enters P f) (hfs : flat P depth t = some fs) (h0 : fs.length ≠ 0) (hb0 : bytes ≠ 0)
    (hc : ∀ (b off n c : Nat) (news : List Value) (w : World), news.length = n * fs.length → n ≤ maxLen → n * bytes ≤ 140737488355328 → (∀ (j : Nat) (u : Value), news[j]? = some u → w.cell? ⟨b, off + j, none⟩ = some u) → (∀ u ∈ news, u.oneCell' = true) →
      Calls P f #[.slice (some ⟨b, off, none⟩) n c] w fun e w' => ∃ v', e = .returned v' ∧ w'.ownsRow w.heap.size t fs.length v' n news ∧ Below w.heap.size w w')
    (hz : ∀ (a : Addr) (c : Nat) (w : World), Calls P f #[.slice (some a) 0 c] w fun e w' => ∃ v', e = .returned v' ∧ w'.ownsRow w.heap.size t fs.length v' 0 [] ∧ Below w.heap.size w w')
    (hn : ∀ (n c : Nat) (w : World), Calls P f #[.slice none n c] w fun e w' => e = .returned (.slice none 0 0) ∧ w' = w) : PrimFor P f (cloneG t bytes) := by
  intro args σ r σ' h
  unfold cloneG at h
  split at h
  · rename_i t' xs
    split at h
    · rename_i ht
      subst ht
      obtain ⟨hb, rfl, rfl⟩ := quick_must h
      have hb := of_decide_eq_true hb
      refine ⟨hE, fun ρ S w cargs hr ha => ?_⟩
      obtain ⟨cv, rfl, hv⟩ := ha.one
      have hv' : VE P w S (.sl t' xs) cv := hv
      obtain ⟨A, c, fs', b, o, g, e, hfs', hlc, hlen, hok, hA, hE'⟩ := VE_sl_inv hv'
      subst e
      by_cases hx : xs = []
      · subst hx
        cases A with
        | none =>
          refine (hn _ c w).mono ?_
          rintro e w' ⟨rfl, rfl⟩
          exact ⟨ρ, S, hr, Ext.refl _ _ _ _, _, rfl, VE.nilSlice hfs _ _⟩
        | some ad =>
          refine (hz ad c w).mono ?_
          rintro e w' ⟨v', rfl, hown, hbl⟩
          obtain ⟨r1, e1⟩ := ext_below hr hbl
          refine ⟨ρ, S, r1, e1, _, rfl, ?_⟩
          rcases hown.2 with ⟨rfl, _⟩ | ⟨g', cap, cur, rfl, _⟩ <;> exact VE.nilSlice hfs _ _
      · obtain ⟨news, n1, n2, n3⟩ := VE_laid hfs h0 hv'
        obtain ⟨ad, rfl, n4⟩ := n3 hx
        have had : ad = ⟨b, o, none⟩ := by
          cases xs with
          | nil => exact absurd rfl hx
          | cons y ys =>
            have hyl := hlen 0 y rfl
            rw [hfs] at hfs'; injection hfs' with hfs'; subst hfs'
            have hj : y.cells[0]? = some (y.cells[0]'(by omega)) := List.getElem?_eq_getElem _
            obtain ⟨hA', _⟩ := hA 0 y 0 _ rfl hj
            injection hA'
        subst had
        have hbb : xs.length ≤ xs.length * bytes := Nat.le_mul_of_pos_right _ (by omega)
        refine (hc b o xs.length c news w n1.1 (by unfold maxLen; omega) hb (fun j u hj => by have := n4 j u hj; rwa [add_at] at this) n2).mono ?_
        rintro e w' ⟨v', rfl, hown, hbl⟩
        rcases hown.2 with ⟨_, hl0⟩ | ⟨g', cap, cur, rfl, hg1, hg2, hg3, _, hg4, hg5⟩
        · exact absurd (List.eq_nil_of_length_eq_zero hl0) hx
        · have hle : xs.length * fs.length ≤ cur.size := by rw [hg4]; exact Nat.mul_le_mul_right _ hg3
          have hcur : ∀ k, k < news.length → cur[k]? = news[k]? := fun k hk => by
            rw [← hg5, List.getElem?_take, if_pos (by rw [← n1.1]; exact hk), Array.getElem?_toList]
          obtain ⟨r1, x1⟩ := ext_row hr hbl (g := g') (n := xs.length * fs.length) hg1 fun o' ho => ⟨_, by
            rw [cell_of_row w' g' o' cur t' (0, 0) hg2]; exact Array.getElem?_eq_getElem (by omega)⟩
          refine ⟨ρ, _, r1, x1, _, rfl, ?_⟩
          exact VE_of_laid hfs hg3 (VE_sl_rows hv') hg2 (fun k hk => .inr ⟨rfl, hk⟩) (n1.mono x1) hcur
    · cases h
  · cases h
end
end Go.Den

