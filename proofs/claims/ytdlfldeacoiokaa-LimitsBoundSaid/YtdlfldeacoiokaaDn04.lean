/- Each operation that the interpreter carries out is carried out so by the model: conversions, strings, parts of values. -/
import Derived.Test.YtdlfldeacoiokaaDn03
namespace Go.Den
open Go

section
variable {P : Program} {σ : Heap} {ρ : Gr} {S : Cells} {w : World} {fr : Fr} {a : Act} {o : Oper}

section
variable {ev : Operand → Value} {x y : Operand}
theorem run_convert {src dst : TypeId} {v r : Value} (h : o.op = .convert src dst x) (e : ev x = v) (hc : (convert src dst v).run P w = .ok r w) :
    (execOp ev o).run P w = .ok (.value r) w := by
  subst e; simp [execOp, h, go_sem, hc]
theorem conv_int {src dst : TypeId} {k0 k k' : IntKind} {n : Int} (hs : P.underlying src = some (.int k0)) (hd : P.underlying dst = some (.int k)) :
    (convert src dst (.int k' n)).run P w = .ok (.int k (k.wrap n)) w := by
  simp [convert, run_underlying hs, run_underlying hd, Conv.intToInt, go_sem]
theorem conv_str {src dst : TypeId} {s : ByteArray} (hs : P.underlying src = some .string) (hd : P.underlying dst = some .string) :
    (convert src dst (.string s)).run P w = .ok (.string s) w := by
  simp [convert, run_underlying hs, run_underlying hd, go_sem]
theorem run_makeIface {t : TypeId} {d : TypeDesc} (h : o.op = .makeInterface t x) (ht : P.underlying t = some d) (hd : ∀ ms, d ≠ .interface ms) :
    (execOp ev o).run P w = .ok (.value (.iface t (ev x))) w := by
  simp only [execOp, h, Instr.makeInterface]
  cases d <;> first | exact absurd rfl (hd _) | simp [go_sem, run_underlying ht]
theorem run_extract {i : Nat} {vs : Array Value} {v : Value} (h : o.op = .extract x i) (e : ev x = .tuple vs) (hv : vs[i]? = some v) :
    (execOp ev o).run P w = .ok (.value v) w := by
  simp [execOp, h, go_sem, e, Instr.extract, hv]
theorem run_index_str {t : TypeId} {i : Operand} {k : IntKind} {n : Int} {s : ByteArray} {b : UInt8} (h : o.op = .index t x i) (ht : P.underlying t = some .string) (e1 : ev x = .string s) (e2 : ev i = .int k n)
    (h0 : 0 ≤ n) (hb : s[n.toNat]? = some b) : (execOp ev o).run P w = .ok (.value (.int .u8 b.toNat)) w := by
  simp [execOp, h, go_sem, e1, e2, Instr.index, run_underlying ht, asIntOf, h0, hb]
end

theorem op_convert (hr : Rel P σ ρ S w) (hf : FR P σ ρ S w fr a.tmps) {src dst : TypeId} {x : Operand} {k0 k k' : IntKind} {n : Int} (h : o.op = .convert src dst x)
    (hs : P.underlying src = some (.int k0)) (hd : P.underlying dst = some (.int k)) (hx : evalO fr x = some (.e (.int k' n))) : OpOk P σ ρ S w a o (.e (.int k (k.wrap n))) σ :=
  OpOk.pure hr (run_convert h (VA3_int (evalO_ok hf hx)) (conv_int hs hd)) (VE.int _ _)
theorem op_convert_str (hr : Rel P σ ρ S w) (hf : FR P σ ρ S w fr a.tmps) {src dst : TypeId} {x : Operand} {s : List UInt8} (h : o.op = .convert src dst x)
    (hs : P.underlying src = some .string) (hd : P.underlying dst = some .string) (hx : evalO fr x = some (.e (.str s))) : OpOk P σ ρ S w a o (.e (.str s)) σ := by
  obtain ⟨b, e, hb⟩ := VA3_str (evalO_ok hf hx)
  exact OpOk.pure hr (run_convert h e (conv_str hs hd)) (VE.str _ _ hb)

/-- A cell's data. -/
theorem seal1_ok {v : AV} {cv : Value} {x : E} (h : v.seal1 = some x) (hv : VA1 P σ ρ S w v cv) : VE P w S x cv := by
  unfold AV.seal1 at h
  split at h
  · injection h with h; subst h; exact hv
  · injection h with h; subst h
    obtain ⟨h1, fs, h2⟩ := hv
    subst h1
    exact VE.nilSlice h2 _ _
  · injection h with h; subst h; exact hv.1
  · cases h

theorem seal1_3 {v : AV} {cv : Value} {x : E} (h : v.seal1 = some x) (hv : VA3 P σ ρ S w v cv) : VE P w S x cv := by
  unfold AV.seal1 at h
  split at h
  · injection h with h; subst h; exact hv
  · injection h with h; subst h
    obtain ⟨h1, fs, h2⟩ := hv
    subst h1
    exact VE.nilSlice h2 _ _
  · injection h with h; subst h; exact hv.1
  · cases h

theorem mapM_some_get {α β : Type} {f : α → Option β} : ∀ {l : List α} {r : List β}, l.mapM f = some r → r.length = l.length ∧ ∀ (i : Nat) (x : α), l[i]? = some x → ∃ y, f x = some y ∧ r[i]? = some y := by
  intro l
  induction l with
  | nil => intro r h; simp at h; subst h; simp
  | cons x l ih =>
    intro r h
    rw [List.mapM_cons] at h
    simp only [Option.bind_eq_bind, Option.bind_eq_some_iff] at h
    obtain ⟨y, hy, ys, hys, h⟩ := h
    injection h with h; subst h
    obtain ⟨h1, h2⟩ := ih hys
    refine ⟨by simp [h1], fun i z hz => ?_⟩
    cases i with
    | zero => simp at hz; subst hz; exact ⟨y, hy, rfl⟩
    | succ i => simpa using h2 i z (by simpa using hz)

theorem mapM_some_back {α β : Type} {f : α → Option β} {l : List α} {r : List β} (h : l.mapM f = some r) (i : Nat) (y : β) (hy : r[i]? = some y) : ∃ x, l[i]? = some x ∧ f x = some y := by
  obtain ⟨h1, h2⟩ := mapM_some_get h
  have hi : i < l.length := by rw [← h1]; exact (List.getElem?_eq_some_iff.1 hy).1
  obtain ⟨z, hz, hz'⟩ := h2 i l[i] (by simp [hi])
  rw [hz'] at hy; injection hy with hy; subst hy
  exact ⟨l[i], by simp [hi], hz⟩

theorem seal_ok {v : AV} {cv : Value} {x : E} (h : v.dat = some x) (hv : VA3 P σ ρ S w v cv) : VE P w S x cv := by
  unfold AV.dat at h
  split at h
  · rename_i cs
    obtain ⟨es, he, h⟩ := Option.map_eq_some_iff.1 h
    subst h
    obtain ⟨arr, h1, h2, h3⟩ : ∃ arr : Array Value, cv = .agg arr ∧ arr.size = cs.length ∧ ∀ (j : Nat) (v : AV), cs[j]? = some v → v.one = true ∧ ∃ x, arr[j]? = some x ∧ VA1 P σ ρ S w v x := hv
    subst h1
    obtain ⟨l1, l2⟩ := mapM_some_get he
    refine VE.agg es arr (fun j => arr.getD j undef) (by rw [h2, l1]) ?_ ?_
    · intro j x hj
      obtain ⟨v, hv, hs⟩ := mapM_some_back he j x hj
      obtain ⟨_, y, hy, _⟩ := h3 j v hv
      rw [hy]; simp [hy]
    · intro j x hj
      obtain ⟨v, hv, hs⟩ := mapM_some_back he j x hj
      obtain ⟨_, y, hy, hva⟩ := h3 j v hv
      simp only [Array.getD_eq_getD_getElem?, hy, Option.getD_some]
      exact seal1_ok hs hva
  · exact seal1_3 h hv

theorem op_makeIface (hr : Rel P σ ρ S w) (hf : FR P σ ρ S w fr a.tmps) {t : TypeId} {x : Operand} {d : TypeDesc} {u : E} (h : o.op = .makeInterface t x) (ht : P.underlying t = some d) (hd : ∀ ms, d ≠ .interface ms)
    (hx : (evalO fr x).bind AV.dat = some u) : OpOk P σ ρ S w a o (.e (.ifc t u)) σ := by
  obtain ⟨v, hv, hs⟩ := Option.bind_eq_some_iff.1 hx
  exact OpOk.pure hr (run_makeIface h ht hd) (VE.ifc _ _ _ (seal_ok hs (evalO_ok hf hv)))

theorem op_extract (hr : Rel P σ ρ S w) (hf : FR P σ ρ S w fr a.tmps) {x : Operand} {i : Nat} {vs : List AV} {v : AV} (h : o.op = .extract x i)
    (hx : evalO fr x = some (.tup vs)) (hv : vs[i]? = some v) : OpOk P σ ρ S w a o v σ := by
  obtain ⟨arr, h1, h2, h3⟩ : ∃ arr : Array Value, a.eval x = .tuple arr ∧ arr.size = vs.length ∧ ∀ (j : Nat) (v : AV), vs[j]? = some v → ∃ x, arr[j]? = some x ∧ VA2 P σ ρ S w v x := evalO_ok hf hx
  obtain ⟨y, hy, hva⟩ := h3 i v hv
  exact OpOk.pure hr (run_extract h h1 hy) hva.to3

theorem op_index_str (hr : Rel P σ ρ S w) (hf : FR P σ ρ S w fr a.tmps) {t : TypeId} {x i : Operand} {s : List UInt8} {k : IntKind} {n : Int} (h : o.op = .index t x i) (ht : P.underlying t = some .string)
    (hx : evalO fr x = some (.e (.str s))) (hi : evalO fr i = some (.e (.int k n))) (h0 : 0 ≤ n) (h1 : n < s.length) : OpOk P σ ρ S w a o (.e (.int .u8 ((s.getD n.toNat 0).toNat : Int))) σ := by
  obtain ⟨b, e, hb⟩ := VA3_str (evalO_ok hf hx)
  subst hb
  have hlt : n.toNat < b.data.toList.length := by omega
  have hlt' : n.toNat < b.size := hlt
  have hbb : b[n.toNat]? = some (b.data.toList.getD n.toNat 0) := by
    rw [List.getD_eq_getElem?_getD, List.getElem?_eq_getElem hlt]
    simp only [Option.getD_some]
    rw [getElem?_pos b n.toNat hlt']
    rfl
  refine OpOk.pure hr (run_index_str h ht e (VA3_int (evalO_ok hf hi)) h0 hbb) (VE.int _ _)
end
end Go.Den
