/- Each operation that the interpreter carries out is carried out so by the model: pieces of strings and slices, lengths. -/
import Derived.Test.YtdlfldeacoiokaaDn04
namespace Go.Den
open Go

section
variable {P : Program} {σ : Heap} {ρ : Gr} {S : Cells} {w : World} {fr : Fr} {a : Act} {o : Oper}

section
variable {ev : Operand → Value} {x : Operand}
theorem bound_ok {v : Value} {k : IntKind} {n : Int} {y : Nat} {code : BoundsCode} (e : v = .int k n) (h0 : 0 ≤ n) (h1 : n ≤ y) : (Instr.sliceBound v y code).run P w = .ok n.toNat w := by
  subst e; simp [Instr.sliceBound, go_sem, asIntOf, h0, h1]
/-- How a bound stands in the operation. -/
def BL (ev : Operand → Value) (lo : Option Operand) (l : Int) : Prop := (lo = none ∧ l = 0) ∨ ∃ x k, lo = some x ∧ ev x = .int k l
def BH (ev : Operand → Value) (hi : Option Operand) (len : Nat) (h : Int) : Prop := (hi = none ∧ h = len) ∨ ∃ x k, hi = some x ∧ ev x = .int k h
theorem run_slice_str {t : TypeId} {lo hi : Option Operand} {s : ByteArray} {l h : Int} (hop : o.op = .slice t x lo hi none) (ht : P.underlying t = some .string) (e : ev x = .string s)
    (hl : BL ev lo l) (hh : BH ev hi s.size h) (h0 : 0 ≤ l) (h1 : l ≤ h) (h2 : h ≤ s.size) :
    (execOp ev o).run P w = .ok (.value (.string (s.extract l.toNat h.toNat))) w := by
  have h5 : l ≤ ((h.toNat : Nat) : Int) := by omega
  rcases hl with ⟨rfl, rfl⟩ | ⟨x1, k1, rfl, ex⟩ <;> rcases hh with ⟨rfl, rfl⟩ | ⟨y1, k2, rfl, ey⟩
  · simp [execOp, hop, go_sem, Instr.sliceAt, Instr.slice, run_underlying ht, e]
  · simp [execOp, hop, go_sem, Instr.sliceAt, Instr.slice, run_underlying ht, e, bound_ok ey (by omega) h2]
  · simp [execOp, hop, go_sem, Instr.sliceAt, Instr.slice, run_underlying ht, e, bound_ok ex h0 h1]
  · simp [execOp, hop, go_sem, Instr.sliceAt, Instr.slice, run_underlying ht, e, bound_ok ey (by omega) h2, bound_ok ex h0 h5]
theorem run_slice_sl {t et : TypeId} {lo hi : Option Operand} {A : Option Addr} {n c sz : Nat} {l h : Int} (hop : o.op = .slice t x lo hi none) (ht : P.underlying t = some (.slice et)) (e : ev x = .slice A n c)
    (hs : (sizeOf et).run P w = .ok sz w) (hl : BL ev lo l) (hh : BH ev hi n h) (h0 : 0 ≤ l) (h1 : l ≤ h) (h2 : h ≤ n) (h3 : n ≤ c) :
    (execOp ev o).run P w = .ok (.value (.slice (if c = l.toNat then A else A.map (·.add (l.toNat * sz))) (h.toNat - l.toNat) (c - l.toNat))) w := by
  have h5 : l ≤ ((h.toNat : Nat) : Int) := by omega
  have h4 : h ≤ (c : Int) := by omega
  rcases hl with ⟨rfl, rfl⟩ | ⟨x1, k1, rfl, ex⟩ <;> rcases hh with ⟨rfl, rfl⟩ | ⟨y1, k2, rfl, ey⟩
  · simp [execOp, hop, go_sem, Instr.sliceAt, Instr.slice, run_underlying ht, e, hs]
  · simp [execOp, hop, go_sem, Instr.sliceAt, Instr.slice, run_underlying ht, e, bound_ok ey (by omega) h4, hs]
  · simp [execOp, hop, go_sem, Instr.sliceAt, Instr.slice, run_underlying ht, e, bound_ok ex h0 h1, hs]
  · simp [execOp, hop, go_sem, Instr.sliceAt, Instr.slice, run_underlying ht, e, bound_ok ey (by omega) h4, bound_ok ex h0 h5, hs]
theorem len_str {ats : Array TypeId} {T t : TypeId} {b : ByteArray} (h1 : ats[0]? = some t) (h2 : P.underlying t = some .string) (e : ev x = .string b) :
    (Builtin.len_ ats T #[ev x]).run P w = .ok (.int .i64 b.data.toList.length) w := by
  rw [e]
  simp [Builtin.len_, h1, run_underlying h2, goInt]
theorem len_sl {ats : Array TypeId} {T t et : TypeId} {A : Option Addr} {n c : Nat} (h1 : ats[0]? = some t) (h2 : P.underlying t = some (.slice et)) (e : ev x = .slice A n c) :
    (Builtin.len_ ats T #[ev x]).run P w = .ok (.int .i64 n) w := by
  rw [e]
  simp [Builtin.len_, h1, run_underlying h2, goInt]
theorem run_len {args : Array Operand} {ats : Array TypeId} {r : Value} (h : o.op = .call { callee := .builtin .len, args := args, argTypes := ats })
    (hr : (Builtin.len_ ats o.type (args.map ev)).run P w = .ok r w) : (execOp ev o).run P w = .ok (.value r) w := by
  simp [execOp, h, go_sem, resolve, invoke, builtin, hr]
end

theorem sliceL_ok (hf : FR P σ ρ S w fr a.tmps) {lo : Option Operand} {l : Int} (h : sliceL fr lo = some l) : BL a.eval lo l := by
  unfold sliceL at h
  split at h
  · injection h with h; exact .inl ⟨rfl, h.symm⟩
  · rename_i x
    split at h
    · rename_i k n hx
      injection h with h; subst h
      exact .inr ⟨x, k, rfl, VA3_int (evalO_ok hf hx)⟩
    · cases h
theorem sliceH_ok (hf : FR P σ ρ S w fr a.tmps) {hi : Option Operand} {len : Nat} {l : Int} (h : sliceH fr len hi = some l) : BH a.eval hi len l := by
  unfold sliceH at h
  split at h
  · injection h with h; exact .inl ⟨rfl, h.symm⟩
  · rename_i x
    split at h
    · rename_i k n hx
      injection h with h; subst h
      exact .inr ⟨x, k, rfl, VA3_int (evalO_ok hf hx)⟩
    · cases h

theorem take_drop_extract (b : ByteArray) (l h : Nat) : (b.extract l h).data.toList = (b.data.toList.take h).drop l := by
  simp [List.extract_eq_take_drop, List.drop_take]

theorem op_slice_str (hr : Rel P σ ρ S w) (hf : FR P σ ρ S w fr a.tmps) {t : TypeId} {x : Operand} {lo hi : Option Operand} {s : List UInt8} {l h : Int} (hop : o.op = .slice t x lo hi none) (ht : P.underlying t = some .string)
    (hx : evalO fr x = some (.e (.str s))) (hl : sliceL fr lo = some l) (hh : sliceH fr s.length hi = some h) (h0 : 0 ≤ l) (h1 : l ≤ h) (h2 : h ≤ s.length) :
    OpOk P σ ρ S w a o (.e (.str ((s.take h.toNat).drop l.toNat))) σ := by
  obtain ⟨b, e, hb⟩ := VA3_str (evalO_ok hf hx)
  subst hb
  exact OpOk.pure hr (run_slice_str hop ht e (sliceL_ok hf hl) (sliceH_ok hf hh) h0 h1 h2) (VE.str _ _ (take_drop_extract _ _ _))

theorem sizeB_some {t : TypeId} {n : Nat} (h : sizeB P t = some n) : ∃ d i, P.underlying t = some d ∧ P.info? t = some i ∧ i.size = n := by
  unfold sizeB at h
  split at h
  · rename_i d i hd hi
    injection h with h
    exact ⟨d, i, hd, hi, h⟩
  · cases h
theorem run_sizeOf {t : TypeId} {n : Nat} (h : sizeB P t = some n) : (sizeOf t).run P w = .ok n w := by
  obtain ⟨d, i, hd, hi, h⟩ := sizeB_some h
  simp [sizeOf, typeInfo, go_sem, hi, h]

theorem VE_sl_inv {et : TypeId} {xs : List E} {cv : Value} (h : VE P w S (.sl et xs) cv) : ∃ (A : Option Addr) (c : Nat) (fs : List TypeId) (b o : Nat) (f : Nat → Nat → Value), cv = .slice A xs.length c ∧ flat P depth et = some fs ∧ xs.length ≤ c ∧
    (∀ (i : Nat) (y : E), xs[i]? = some y → y.cells.length = fs.length) ∧
    (∀ (i : Nat) (y : E) (j : Nat) (ct : TypeId) (x : E), xs[i]? = some y → fs[j]? = some ct → y.cells[j]? = some x → okCell P ct x = true) ∧
    (∀ (i : Nat) (y : E) (j : Nat) (x : E), xs[i]? = some y → y.cells[j]? = some x → A = some ⟨b, o, none⟩ ∧ S b (o + i * fs.length + j) ∧ w.cell? ⟨b, o + i * fs.length + j, none⟩ = some (f i j)) ∧
    (∀ (i : Nat) (y : E) (j : Nat) (x : E), xs[i]? = some y → y.cells[j]? = some x → VE P w S x (f i j)) := by
  cases h with
  | sl _ _ A c fs b o f h1 h2 h3 h4 h5 h6 => exact ⟨A, c, fs, b, o, f, rfl, h1, h2, h3, h4, h5, h6⟩

theorem VE_piece {et : TypeId} {xs : List E} {A : Option Addr} {n c : Nat} (h : VE P w S (.sl et xs) (.slice A n c)) {fs : List TypeId} (hfs : flat P depth et = some fs) (l h' : Nat) (h1 : l ≤ h') (h2 : h' ≤ xs.length) :
    VE P w S (.sl et ((xs.take h').drop l)) (.slice (if c = l then A else A.map (·.add (l * fs.length))) (h' - l) (c - l)) := by
  obtain ⟨A', c', fs', b, o, f, e, hfs', hc, hlen, hok, hA, hE⟩ := VE_sl_inv h
  injection e with e1 e2 e3
  subst e1; subst e2; subst e3
  rw [hfs] at hfs'; injection hfs' with hfs'; subst hfs'
  have hget : ∀ (i : Nat) (y : E), ((xs.take h').drop l)[i]? = some y → xs[l + i]? = some y := by
    intro i y hy
    rw [List.getElem?_drop] at hy
    rw [List.getElem?_take] at hy
    split at hy
    · exact hy
    · cases hy
  have hl : ((xs.take h').drop l).length = h' - l := by simp; omega
  rw [← hl]
  refine VE.sl et _ _ _ fs b (o + l * fs.length) (fun i j => f (l + i) j) hfs (by rw [hl]; omega) (fun i y hy => hlen _ y (hget i y hy)) (fun i y j ct x hy => hok _ y j ct x (hget i y hy)) ?_ (fun i y j x hy => hE _ y j x (hget i y hy))
  intro i y j x hy hj
  obtain ⟨h3, h4, h5⟩ := hA _ y j x (hget i y hy) hj
  subst h3
  have hne : c ≠ l := by
    have := (List.getElem?_eq_some_iff.1 (hget i y hy)).1
    omega
  rw [if_neg hne]
  have e : o + (l + i) * fs.length + j = o + l * fs.length + i * fs.length + j := by rw [Nat.add_mul]; omega
  rw [e] at h4 h5
  refine ⟨?_, h4, h5⟩
  simp only [Option.map_some, Addr.add]
  split
  · rename_i hz; rw [hz]; rfl
  · rfl

theorem op_slice_sl (hr : Rel P σ ρ S w) (hf : FR P σ ρ S w fr a.tmps) {t et : TypeId} {x : Operand} {lo hi : Option Operand} {v : AV} {xs : List E} {l h : Int} (hop : o.op = .slice t x lo hi none) (ht : P.underlying t = some (.slice et))
    (hx : evalO fr x = some v) (hv : v.seal1 = some (.sl et xs)) (hsz : (flat P depth et).map List.length = sizeB P et) (hl : sliceL fr lo = some l) (hh : sliceH fr xs.length hi = some h) (h0 : 0 ≤ l) (h1 : l ≤ h) (h2 : h ≤ xs.length) :
    OpOk P σ ρ S w a o (.e (.sl et ((xs.take h.toNat).drop l.toNat))) σ := by
  have hve := seal1_3 hv (evalO_ok hf hx)
  obtain ⟨A, c, fs, b, o', f, e, hfs, hc, _⟩ := VE_sl_inv hve
  rw [hfs] at hsz
  rw [e] at hve
  exact OpOk.pure hr (run_slice_sl hop ht e (run_sizeOf hsz.symm) (sliceL_ok hf hl) (sliceH_ok hf hh) h0 h1 h2 hc) (VE_piece hve hfs l.toNat h.toNat (by omega) (by omega))

theorem args_one {α : Type} {f : Operand → α} {args : Array Operand} {r : α} (h : args.toList.map f = [r]) : ∃ x, args = #[x] ∧ f x = r := by
  obtain ⟨l⟩ := args
  cases l with
  | nil => simp at h
  | cons x l =>
    cases l with
    | nil => simp at h; exact ⟨x, rfl, h⟩
    | cons y l => simp at h
theorem args_two {α : Type} {f : Operand → α} {args : Array Operand} {r r' : α} (h : args.toList.map f = [r, r']) : ∃ x y, args = #[x, y] ∧ f x = r ∧ f y = r' := by
  obtain ⟨l⟩ := args
  match l with
  | [] => simp at h
  | [x] => simp at h
  | [x, y] => simp at h; exact ⟨x, y, rfl, h⟩
  | x :: y :: z :: l => simp at h

theorem op_len_str (hr : Rel P σ ρ S w) (hf : FR P σ ρ S w fr a.tmps) {args : Array Operand} {ats : Array TypeId} {s : List UInt8} (h : o.op = .call { callee := .builtin .len, args := args, argTypes := ats })
    (hx : args.toList.map (evalO fr) = [some (.e (.str s))]) (ht : (ats[0]?).bind P.underlying = some .string) : OpOk P σ ρ S w a o (.e (.int .i64 s.length)) σ := by
  obtain ⟨t, ht1, ht2⟩ := Option.bind_eq_some_iff.1 ht
  obtain ⟨x, rfl, hx'⟩ := args_one hx
  obtain ⟨b, e, hb⟩ := VA3_str (evalO_ok hf hx')
  subst hb
  exact OpOk.pure hr (run_len h (by simpa using len_str ht1 ht2 e)) (VE.int _ _)

theorem op_len_sl (hr : Rel P σ ρ S w) (hf : FR P σ ρ S w fr a.tmps) {args : Array Operand} {ats : Array TypeId} {v : AV} {et et' : TypeId} {xs : List E} (h : o.op = .call { callee := .builtin .len, args := args, argTypes := ats })
    (hx : args.toList.map (evalO fr) = [some v]) (hv : v.seal1 = some (.sl et xs)) (ht : (ats[0]?).bind P.underlying = some (.slice et')) : OpOk P σ ρ S w a o (.e (.int .i64 xs.length)) σ := by
  obtain ⟨t, ht1, ht2⟩ := Option.bind_eq_some_iff.1 ht
  obtain ⟨x, rfl, hx'⟩ := args_one hx
  obtain ⟨A, c, fs, b, o', f, e, _⟩ := VE_sl_inv (seal1_3 hv (evalO_ok hf hx'))
  exact OpOk.pure hr (run_len h (by simpa using len_sl ht1 ht2 e)) (VE.int _ _)
end
end Go.Den
