/- Arguments, as a claim's row hands them in, are data. -/
import Derived.Test.YtdlfldeacoiokaaDn25
import Derived.ProofKit
import Derived.Deep.Slices
namespace Go.Den
open Go Go.ChangeShapes Go.WideShapes Go.RowKit

/-- Two lists, alike in length, joined one by one. -/
inductive All2 {α β : Type} (R : α → β → Prop) : List α → List β → Prop
  | nil : All2 R [] []
  | cons {a : α} {b : β} {as : List α} {bs : List β} (h : R a b) (t : All2 R as bs) : All2 R (a :: as) (b :: bs)

section
variable {α β : Type} {R : α → β → Prop}
theorem All2.append {as : List α} {bs : List β} {as' : List α} {bs' : List β} (h : All2 R as bs) (h' : All2 R as' bs') : All2 R (as ++ as') (bs ++ bs') := by
  induction h with
  | nil => exact h'
  | cons x _ ih => exact .cons x ih
theorem All2.length {as : List α} {bs : List β} (h : All2 R as bs) : as.length = bs.length := by
  induction h with
  | nil => rfl
  | cons _ _ ih => simp [ih]
theorem All2.get {as : List α} {bs : List β} (h : All2 R as bs) : ∀ {j : Nat} {a : α} {b : β}, as[j]? = some a → bs[j]? = some b → R a b := by
  induction h with
  | nil => intro j a b h; simp at h
  | cons x _ ih =>
    intro j a b h1 h2
    cases j with
    | zero => simp at h1 h2; subst h1; subst h2; exact x
    | succ j => exact ih (by simpa using h1) (by simpa using h2)
end

/-- A cell's datum is of its type, and within its bounds. -/
inductive CellTy (P : Program) : TypeId → E → Prop
  | int (ct : TypeId) (k : IntKind) (n : Int) (h : P.underlying ct = some (.int k)) (hw : (Lit.int k n).wf = true) : CellTy P ct (.int k n)
  | bool (ct : TypeId) (b : Bool) (h : P.underlying ct = some .bool) : CellTy P ct (.bool b)
  | str (ct : TypeId) (s : List UInt8) (h : P.underlying ct = some .string) (hl : s.length ≤ maxLen) : CellTy P ct (.str s)
  | sl (ct et : TypeId) (ys : List E) (fs : List TypeId) (h : P.underlying ct = some (.slice et)) (hl : ys.length ≤ maxLen) (hf : flat P depth et = some fs)
      (hy : ∀ (i : Nat) (y : E), ys[i]? = some y → y.cells.length = fs.length ∧ (isAggB P et = true → y = .agg y.cells) ∧ (isAggB P et = false → y.cells = [y]))
      (hc : ∀ (i : Nat) (y : E) (j : Nat) (t : TypeId) (c : E), ys[i]? = some y → fs[j]? = some t → y.cells[j]? = some c → CellTy P t c) : CellTy P ct (.sl et ys)

theorem CellTy.ok {P : Program} {ct : TypeId} {x : E} (h : CellTy P ct x) : okCell P ct x = true := by
  cases h <;> simp [okCell, *]

def laidF (P : Program) : Nat → List Field → Option Nat
  | n, [] => some n
  | n, f :: fs => if f.offset = n then laidF P (n + P.cellsOf f.type) fs else none

theorem laidF_le {P : Program} : ∀ (fs : List Field) (n m : Nat), laidF P n fs = some m → n ≤ m
  | [], n, m, h => by injection h with h; omega
  | f :: fs, n, m, h => by
    unfold laidF at h
    split at h
    · have := laidF_le fs _ _ h; omega
    · cases h

/-- Types whose values are data, laid as they are read; their parts' types are in the list. -/
def shapeOk (P : Program) (L : List TypeId) (t : TypeId) : Bool :=
  match P.underlying t with
  | some (.int _) | some .bool | some .string => true
  | some (.slice e) => L.contains e && (flat P depth e).map List.length == some (P.cellsOf e)
  | some (.struct fs) => laidF P 0 fs.toList == some (P.cellsOf t) && fs.toList.all fun f => L.contains f.type
  | _ => false
def shapesB (P : Program) (L : List TypeId) : Bool := L.all (shapeOk P L)

/-- A row out of its cells. -/
def mkRow (P : Program) (t : TypeId) (es : List E) : E := if isAggB P t then .agg es else es.headD .nili

theorem flat_agg {P : Program} {t : TypeId} (ha : isAggB P t = false) {ft : List TypeId} {d : Nat} (h : flat P d t = some ft) : ft = [t] := flat_one ha h

theorem CellTy.not_agg {P : Program} {ct : TypeId} {x : E} (h : CellTy P ct x) : x.cells = [x] := by cases h <;> rfl

theorem mkRow_spec {P : Program} {t : TypeId} {ft : List TypeId} {es : List E} {d : Nat} (hf : flat P d t = some ft) (h : All2 (CellTy P) ft es) :
    (mkRow P t es).cells = es ∧ (isAggB P t = true → mkRow P t es = .agg es) ∧ (isAggB P t = false → ∃ x, es = [x] ∧ mkRow P t es = x ∧ CellTy P t x) := by
  unfold mkRow
  cases ha : isAggB P t with
  | true => exact ⟨rfl, fun _ => rfl, fun h => by cases h⟩
  | false =>
    have := flat_one ha hf
    subst this
    cases h with
    | cons hx ht =>
      cases ht
      refine ⟨?_, fun h => by (cases h), fun _ => ⟨_, rfl, ?_, hx⟩⟩ <;> simp only [Bool.false_eq_true, if_false, List.headD_cons]
      exact hx.not_agg

section
variable {H : Type} {enc : TypeId × Value → H} {P : Program} {w : World} {base : Nat} {spare : Nat → Bool} {held : Bool}

def AllCells (w : World) : Cells := fun b o => ∃ v, w.cell? ⟨b, o, none⟩ = some v

theorem open_fields {d : Nat} {cs : List Value} : ∀ (l : List Field) (n m : Nat) (fts : List (List TypeId)), laidF P n l = some m → (l.mapM fun f => flat P d f.type) = some fts → m ≤ cs.length →
    (∀ f ∈ l, ∀ ft, flat P d f.type = some ft → ∃ es, All2 (VE P w (AllCells w)) es ((cs.drop f.offset).take (P.cellsOf f.type)) ∧ All2 (CellTy P) ft es) →
    ∃ es, All2 (VE P w (AllCells w)) es ((cs.drop n).take (m - n)) ∧ All2 (CellTy P) fts.flatten es
  | [], n, m, fts, h1, h2, _, _ => by
    injection h1 with h1; subst h1
    simp at h2; subst h2
    exact ⟨[], by simpa using All2.nil, .nil⟩
  | f :: l, n, m, fts, h1, h2, hm, h => by
    unfold laidF at h1
    split at h1
    · rename_i ho
      rw [List.mapM_cons] at h2
      obtain ⟨ft, hft, h2⟩ := Option.bind_eq_some_iff.1 h2
      obtain ⟨fts', hfts, h2⟩ := Option.bind_eq_some_iff.1 h2
      injection h2 with h2; subst h2
      obtain ⟨es, e1, e2⟩ := h f (by simp) ft hft
      obtain ⟨es', e3, e4⟩ := open_fields l _ m fts' h1 hfts hm fun f' hf' => h f' (by simp [hf'])
      have hle := laidF_le l _ _ h1
      refine ⟨es ++ es', ?_, by simpa using e2.append e4⟩
      have : (cs.drop n).take (m - n) = ((cs.drop f.offset).take (P.cellsOf f.type)) ++ ((cs.drop (n + P.cellsOf f.type)).take (m - (n + P.cellsOf f.type))) := by
        rw [ho, ← List.drop_drop]
        conv => lhs; rw [show m - n = P.cellsOf f.type + (m - (n + P.cellsOf f.type)) by omega]
        rw [List.take_add]
      rw [this]
      exact e1.append e3
    · cases h1

theorem open_cells {L : List TypeId} (hL : shapesB P L = true) : ∀ (n : Nat) (t : TypeId) (cs : List Value) (x : DataW H × List MemPlace) (d : Nat) (ft : List TypeId), DataW.trod enc P w base spare held n t cs = some x → t ∈ L → flat P d t = some ft →
    ∃ es, All2 (VE P w (AllCells w)) es cs ∧ All2 (CellTy P) ft es := by
  intro n
  induction n with
  | zero => intro t cs x d ft h; simp [DataW.trod] at h
  | succ n ih =>
    intro t cs x d ft h ht hf
    have hs := List.all_eq_true.1 hL t ht
    · cases d with
      | zero => cases hf
      | succ d =>
        unfold shapeOk at hs
        split at hs
        · rename_i kd hu
          obtain ⟨m, rfl, _, hw⟩ := DataW.trod_int hu h
          unfold flat at hf
          simp only [hu] at hf
          injection hf with hf; subst hf
          exact ⟨[.int kd m], .cons (.int kd m) .nil, .cons (.int t kd m hu hw) .nil⟩
        · rename_i hu
          obtain ⟨b, rfl, _⟩ := DataW.trod_bool hu h
          unfold flat at hf
          simp only [hu] at hf
          injection hf with hf; subst hf
          exact ⟨[.bool b], .cons (.bool b) .nil, .cons (.bool t b hu) .nil⟩
        · rename_i hu
          obtain ⟨s, rfl, _, hl⟩ := DataW.trod_string hu h
          unfold flat at hf
          simp only [hu] at hf
          injection hf with hf; subst hf
          exact ⟨[.str s.data.toList], .cons (.str _ s rfl) .nil, .cons (.str t _ hu (by simpa using hl)) .nil⟩
        · rename_i e hu
          unfold flat at hf
          simp only [hu] at hf
          injection hf with hf; subst hf
          rw [Bool.and_eq_true] at hs
          obtain ⟨hse, hfe⟩ := hs
          simp only [beq_iff_eq, Option.map_eq_some_iff] at hfe
          obtain ⟨fs, hfs, hfl⟩ := hfe
          rcases DataW.trod_slice hu h with ⟨rfl, _⟩ | ⟨a, len, cap, elems, rest, n', hn', rfl, _, _, hlc, hcm, hel, hx, _, _⟩
          · exact ⟨[.sl e []], .cons (VE.nilSlice hfs none 0) .nil, .cons (.sl t e [] fs hu (by simp) hfs (by simp) (by simp)) .nil⟩
          · injection hn' with hn'; subst hn'
            obtain ⟨V, hV⟩ := Go.Deep.choose_lt (α := List E × List Value) (p := fun i p => w.cells? base (a.add (i * P.cellsOf e)) (P.cellsOf e) = some p.2 ∧ All2 (VE P w (AllCells w)) p.1 p.2 ∧ All2 (CellTy P) fs p.1) (n := len) (fun i hi => by
              have h1 := hx i hi
              rw [List.getElem?_eq_getElem (by omega)] at h1
              obtain ⟨cs', h2, h3⟩ := Option.bind_eq_some_iff.1 h1
              obtain ⟨es, h4, h5⟩ := ih e cs' _ depth fs h3 (by simpa using hse) hfs
              exact ⟨(es, cs'), h2, h4, h5⟩)
            have hrow : ∀ (i : Nat) (y : E), ((List.range len).map fun i => mkRow P e (V i).1)[i]? = some y → i < len ∧ y = mkRow P e (V i).1 := fun i y hy => by
              obtain ⟨h1, h2⟩ := map_range_get hy
              exact ⟨h1, h2.symm⟩
            have hspot : ∀ (i j : Nat), i < len → j < P.cellsOf e → a.spot = none := fun i j hi hj => by
              obtain ⟨h1, h2, h3⟩ := hV 0 (by omega)
              obtain ⟨_, h4, h5⟩ := World.cells?_some h1
              have h6 := h5 0 (by omega)
              rw [List.getElem?_eq_getElem (by omega)] at h6
              simp only [Nat.zero_mul, Addr.add, if_pos] at h6
              unfold World.cell? at h6
              split at h6
              · split at h6
                · cases h6
                · rename_i hsp
                  cases hh : a.spot with
                  | none => rfl
                  | some _ => rw [hh] at hsp; exact absurd rfl hsp
              · cases h6
            refine ⟨[.sl e ((List.range len).map fun i => mkRow P e (V i).1)], .cons ?_ .nil, .cons ?_ .nil⟩
            · have hbase := VE.sl (P := P) (w := w) (S := AllCells w) e ((List.range len).map fun i => mkRow P e (V i).1) (some a) cap fs a.block a.off (fun i j => (V i).2.getD j undef) hfs (by simpa using hlc)
                (fun i y hy => by
                  obtain ⟨hi, rfl⟩ := hrow i y hy
                  rw [(mkRow_spec hfs (hV i hi).2.2).1, ← (hV i hi).2.2.length])
                (fun i y j ct x hy hct hx' => by
                  obtain ⟨hi, rfl⟩ := hrow i y hy
                  rw [(mkRow_spec hfs (hV i hi).2.2).1] at hx'
                  exact ((hV i hi).2.2.get hct hx').ok)
                (fun i y j x hy hx' => by
                  obtain ⟨hi, rfl⟩ := hrow i y hy
                  rw [(mkRow_spec hfs (hV i hi).2.2).1] at hx'
                  obtain ⟨h1, h2, h3⟩ := hV i hi
                  obtain ⟨_, h4, h5⟩ := World.cells?_some h1
                  have hj : j < P.cellsOf e := by rw [← h4, ← h2.length]; exact (List.getElem?_eq_some_iff.1 hx').1
                  have hsp := hspot i j hi hj
                  have ha : a = ⟨a.block, a.off, none⟩ := by
                    obtain ⟨ab, ao, as⟩ := a
                    simp at hsp; subst hsp; rfl
                  have hc : w.cell? ⟨a.block, a.off + i * fs.length + j, none⟩ = some ((V i).2.getD j undef) := by
                    have := h5 j hj
                    rw [ha, add_at, add_at] at this
                    rw [hfl, this]
                    simp [List.getD_eq_getElem?_getD, List.getElem?_eq_getElem (show j < (V i).2.length by omega)]
                  exact ⟨by rw [← ha], ⟨_, hc⟩, hc⟩)
                (fun i y j x hy hx' => by
                  obtain ⟨hi, rfl⟩ := hrow i y hy
                  rw [(mkRow_spec hfs (hV i hi).2.2).1] at hx'
                  have hj : j < (V i).2.length := by rw [← (hV i hi).2.1.length]; exact (List.getElem?_eq_some_iff.1 hx').1
                  exact (hV i hi).2.1.get hx' (by simp [List.getD_eq_getElem?_getD, List.getElem?_eq_getElem hj]))
              simpa using hbase
            · refine .sl t e _ fs hu (by simp; omega) hfs (fun i y hy => ?_) (fun i y j ct c hy hct hc => ?_)
              · obtain ⟨hi, rfl⟩ := hrow i y hy
                obtain ⟨h1, h2, h3⟩ := mkRow_spec hfs (hV i hi).2.2
                refine ⟨by rw [h1, ← (hV i hi).2.2.length], fun ha => by rw [h1]; exact h2 ha, fun ha => ?_⟩
                obtain ⟨x, hx1, hx2, hx3⟩ := h3 ha
                rw [hx2]; exact hx3.not_agg
              · obtain ⟨hi, rfl⟩ := hrow i y hy
                rw [(mkRow_spec hfs (hV i hi).2.2).1] at hc
                exact (hV i hi).2.2.get hct hc
        · rename_i fs hu
          rw [Bool.and_eq_true] at hs
          obtain ⟨hl, hall⟩ := hs
          unfold flat at hf
          simp only [hu, Option.map_eq_some_iff] at hf
          obtain ⟨fts, hfts, rfl⟩ := hf
          obtain ⟨xs, n', hn', _, hcl, hxl, hx⟩ := DataW.trod_struct hu h
          injection hn' with hn'; subst hn'
          have hl' : laidF P 0 fs.toList = some (P.cellsOf t) := by simpa using hl
          obtain ⟨es, h1, h2⟩ := open_fields (w := w) (cs := cs) fs.toList 0 (P.cellsOf t) fts hl' hfts (by omega) fun f hfm ft hft => by
            obtain ⟨i, hi⟩ := List.mem_iff_getElem?.1 hfm
            have hi' : fs[i]? = some f := by simpa using hi
            have := hx i f hi'
            rw [List.getElem?_eq_getElem (by rw [hxl]; exact (Array.getElem?_eq_some_iff.1 hi').1)] at this
            exact ih f.type _ _ d ft this (by simpa using List.all_eq_true.1 hall f hfm) hft
          refine ⟨es, ?_, h2⟩
          simpa [← hcl] using h1
        · cases hs

/-- An argument, as the interpreter takes it. -/
def argOf (P : Program) (t : TypeId) (es : List E) : AV := if isAggB P t then .agg (es.map AV.e) else .e (es.headD .nili)

theorem okWide_agg {r : Reach} {b0 : Nat} {t : TypeId} {v : Value} (ha : isAggB P t = true) (hval : Value.okWide P w r b0 t v) : ∃ cs, v = .agg cs := by
  unfold isAggB at ha
  unfold Value.okWide at hval
  split at ha
  · rename_i fs hu; rw [hu] at hval; obtain ⟨cs, h, _⟩ := hval; exact ⟨cs, h⟩
  · rename_i n e hu; rw [hu] at hval; obtain ⟨cs, h, _⟩ := hval; exact ⟨cs, h⟩
  · cases ha

theorem open_data {r : Reach} {b0 : Nat} {t : TypeId} {v : Value} {d : DataW H} {ps : List MemPlace} {ft : List TypeId} {L : List TypeId} (hL : shapesB P L = true) (hs : t ∈ L) (hf : flat P depth t = some ft)
    (hval : Value.okWide P w r b0 t v) (hd : DataW.Trod enc P w base spare held t v d ps) :
    ∃ es, All2 (CellTy P) ft es ∧ VA2 P [] [] (AllCells w) w (argOf P t es) v := by
  obtain ⟨n, hn⟩ := hd
  obtain ⟨es, h1, h2⟩ := open_cells hL n t _ _ depth ft hn hs hf
  refine ⟨es, h2, ?_⟩
  unfold argOf
  cases ha : isAggB P t with
  | true =>
    obtain ⟨cs, rfl⟩ := okWide_agg ha hval
    have h1' : All2 (VE P w (AllCells w)) es cs.toList := h1
    refine ⟨cs, rfl, by rw [List.length_map, h1'.length]; simp, fun j u hj => ?_⟩
    rw [List.getElem?_map] at hj
    obtain ⟨x, hx, rfl⟩ := Option.map_eq_some_iff.1 hj
    have hjl : j < cs.toList.length := by rw [← h1'.length]; exact (List.getElem?_eq_some_iff.1 hx).1
    have hjf : j < ft.length := by rw [h2.length]; exact (List.getElem?_eq_some_iff.1 hx).1
    have hty := h2.get (List.getElem?_eq_getElem hjf) hx
    refine ⟨okCell_one hty.ok, cs.toList[j], by rw [← Array.getElem?_toList]; exact List.getElem?_eq_getElem hjl, ?_⟩
    exact h1'.get hx (List.getElem?_eq_getElem hjl)
  | false =>
    have := flat_one ha hf
    subst this
    cases h2 with
    | cons hx ht =>
      cases ht
      rename_i x
      have hc : v.cells.toList = [v] := by
        have hl := h1.length
        cases v with
        | agg cs =>
          exfalso
          unfold Value.okWide at hval
          unfold isAggB at ha
          cases hx <;> simp_all [Cell.okWide, Cell.ok]
        | _ => rfl
      rw [hc] at h1
      cases h1 with
      | cons hv _ => exact VA1.to2 (show VA1 P [] [] (AllCells w) w (.e x) v from hv)

end
end Go.Den
