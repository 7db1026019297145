/- Each operation that the interpreter carries out is carried out so by the model: addresses and parts. -/
import Derived.Test.YtdlfldeacoiokaaDn08
namespace Go.Den
open Go

section
variable {P : Program} {σ : Heap} {ρ : Gr} {S : Cells} {w : World} {fr : Fr} {a : Act} {o : Oper}

section
variable {ev : Operand → Value} {x y : Operand}
theorem run_fieldAddr {s : TypeId} {fs : Array Field} {f : Field} {i b off n : Nat} (h : o.op = .fieldAddr s x i) (hs : P.underlying s = some (.struct fs)) (hf : fs[i]? = some f)
    (hn : sizeB P f.type = some n) (h0 : n ≠ 0) (e : ev x = .pointer (some ⟨b, off, none⟩)) : (execOp ev o).run P w = .ok (.value (.pointer (some ⟨b, off + f.offset, none⟩))) w := by
  have h2 := run_sizeOf (w := w) hn
  simp [execOp, h, Instr.fieldAt, run_underlying hs, hf, Instr.sureAddr, e, fieldPlace, h2, h0, add_at]
theorem run_nilCheck {v : Value} {b off : Nat} (h : o.op = .nilCheck x) (e : ev x = v) (hv : v = .pointer (some ⟨b, off, none⟩)) : (execOp ev o).run P w = .ok (.value v) w := by
  subst hv; simp [execOp, h, e]
theorem run_nilCheck_fn {f : FuncId} (h : o.op = .nilCheck x) (e : ev x = .func (.func f) #[] #[]) : (execOp ev o).run P w = .ok (.value (.func (.func f) #[] #[])) w := by
  simp [execOp, h, e]
theorem run_nilCheck_any {v : Value} (h : o.op = .nilCheck x) (e : ev x = v) (hv : (∃ f cap, v = .func (.func f) #[] cap) ∨ ∃ t u, v = .iface t u) : (execOp ev o).run P w = .ok (.value v) w := by
  rcases hv with ⟨f, cap, rfl⟩ | ⟨t, u, rfl⟩ <;> simp [execOp, h, e]
theorem run_indexAddr {t et : TypeId} {i : Operand} {k : IntKind} {n : Int} {b off len c sz : Nat} (h : o.op = .indexAddr t x i) (ht : P.underlying t = some (.slice et)) (e1 : ev x = .slice (some ⟨b, off, none⟩) len c) (e2 : ev i = .int k n)
    (hs : sizeB P et = some sz) (h0 : 0 ≤ n) (h1 : n < len) : (execOp ev o).run P w = .ok (.value (.pointer (some ⟨b, off + n.toNat * sz, none⟩))) w := by
  have h2 := run_sizeOf (w := w) hs
  simp [execOp, h, Instr.indexAt, asIntOf, e1, e2, run_underlying ht, h0, h1, h2, add_at]
theorem run_typeAssert_ok {t u : TypeId} {v : Value} {d : TypeDesc} (h : o.op = .typeAssert x u t true) (e : ev x = .iface t v) (ht : P.underlying t = some d) (hd : ∀ ms, d ≠ .interface ms) :
    (execOp ev o).run P w = .ok (.value (.tuple #[v, .bool true])) w := by
  cases d <;> first | exact absurd rfl (hd _) | simp [execOp, h, Instr.typeAssert, e, run_underlying ht]
theorem run_typeAssert_one {t u : TypeId} {v : Value} {d : TypeDesc} (h : o.op = .typeAssert x u t false) (e : ev x = .iface t v) (ht : P.underlying t = some d) (hd : ∀ ms, d ≠ .interface ms) :
    (execOp ev o).run P w = .ok (.value v) w := by
  cases d <;> first | exact absurd rfl (hd _) | simp [execOp, h, Instr.typeAssert, e, run_underlying ht]
theorem run_typeAssert_no {t u q : TypeId} {v z : Value} {d : TypeDesc} {i : TypeInfo} (h : o.op = .typeAssert x u t true) (e : ev x = .iface q v) (hq : q ≠ t) (ht : P.underlying t = some d) (hd : ∀ ms, d ≠ .interface ms) (hi : P.info? t = some i) (hz : i.zero = some z) :
    (execOp ev o).run P w = .ok (.value (.tuple #[z, .bool false])) w := by
  cases d <;> first | exact absurd rfl (hd _) | simp [execOp, h, Instr.typeAssert, e, run_underlying ht, hq, zeroValue, typeInfo, hi, hz]
theorem run_max {ats : Array TypeId} {k : IntKind} {m n : Int} (h : o.op = .call { callee := .builtin .max, args := #[x, y], argTypes := ats })
    (e1 : ev x = .int k m) (e2 : ev y = .int k n) : (execOp ev o).run P w = .ok (.value (.int k (max m n))) w := by
  have : (if m < n then n else m) = max m n := by split <;> omega
  simp [execOp, h, resolve, invoke, builtin, Builtin.max_, Builtin.max2, e1, e2, this]
theorem run_min {ats : Array TypeId} {k : IntKind} {m n : Int} (h : o.op = .call { callee := .builtin .min, args := #[x, y], argTypes := ats })
    (e1 : ev x = .int k m) (e2 : ev y = .int k n) : (execOp ev o).run P w = .ok (.value (.int k (min m n))) w := by
  have : (if n < m then n else m) = min m n := by split <;> omega
  simp [execOp, h, resolve, invoke, builtin, Builtin.min_, Builtin.min2, e1, e2, this]
end

theorem op_fieldAddr_ptr (hr : Rel P σ ρ S w) (hf : FR P σ ρ S w fr a.tmps) {s : TypeId} {x : Operand} {fs : Array Field} {f : Field} {i id off n : Nat} (h : o.op = .fieldAddr s x i) (hs : P.underlying s = some (.struct fs))
    (hfi : fs[i]? = some f) (hn : sizeB P f.type = some n) (h0 : n ≠ 0) (hx : evalO fr x = some (.ptr id off)) : OpOk P σ ρ S w a o (.ptr id (off + f.offset)) σ := by
  obtain ⟨b, c, hid, hb, e⟩ : VA1 P σ ρ S w (.ptr id off) (a.eval x) := evalO_ok hf hx
  exact OpOk.pure hr (run_fieldAddr h hs hfi hn h0 e) ⟨b, c, hid, hb, rfl⟩

theorem op_fieldAddr_pin (hr : Rel P σ ρ S w) (hf : FR P σ ρ S w fr a.tmps) {s et : TypeId} {y : E} {x : Operand} {fs : Array Field} {f : Field} {i off n : Nat} (h : o.op = .fieldAddr s x i) (hs : P.underlying s = some (.struct fs))
    (hfi : fs[i]? = some f) (hn : sizeB P f.type = some n) (h0 : n ≠ 0) (hx : evalO fr x = some (.pin et y off)) : OpOk P σ ρ S w a o (.pin et y (off + f.offset)) σ := by
  obtain ⟨b, o', fs', g, e, h1, h2, h3, h4⟩ : VA1 P σ ρ S w (.pin et y off) (a.eval x) := evalO_ok hf hx
  exact OpOk.pure hr (run_fieldAddr h hs hfi hn h0 e) ⟨b, o', fs', g, by rw [Nat.add_assoc], h1, h2, h3, h4⟩

theorem op_nilCheck_ptr (hr : Rel P σ ρ S w) (hf : FR P σ ρ S w fr a.tmps) {x : Operand} {id off : Nat} (h : o.op = .nilCheck x) (hx : evalO fr x = some (.ptr id off)) : OpOk P σ ρ S w a o (.ptr id off) σ := by
  have hv : VA1 P σ ρ S w (.ptr id off) (a.eval x) := evalO_ok hf hx
  obtain ⟨b, c, hid, hb, e⟩ := hv
  exact OpOk.pure hr (run_nilCheck h rfl e) ⟨b, c, hid, hb, e⟩
theorem op_nilCheck_pin (hr : Rel P σ ρ S w) (hf : FR P σ ρ S w fr a.tmps) {x : Operand} {et : TypeId} {y : E} {off : Nat} (h : o.op = .nilCheck x) (hx : evalO fr x = some (.pin et y off)) : OpOk P σ ρ S w a o (.pin et y off) σ := by
  have hv : VA1 P σ ρ S w (.pin et y off) (a.eval x) := evalO_ok hf hx
  obtain ⟨b, o', fs', g, e, h1⟩ := hv
  exact OpOk.pure hr (run_nilCheck h rfl e) ⟨b, o', fs', g, e, h1⟩
theorem op_nilCheck_fn (hr : Rel P σ ρ S w) (hf : FR P σ ρ S w fr a.tmps) {x : Operand} {f : FuncId} (h : o.op = .nilCheck x) (hx : evalO fr x = some (.fn f)) : OpOk P σ ρ S w a o (.fn f) σ := by
  have e : a.eval x = .func (.func f) #[] #[] := evalO_ok hf hx
  exact OpOk.pure hr (run_nilCheck_fn h e) rfl

theorem op_nilCheck_clo (hr : Rel P σ ρ S w) (hf : FR P σ ρ S w fr a.tmps) {x : Operand} {f : FuncId} {ps : List (Nat × Nat)} (h : o.op = .nilCheck x) (hx : evalO fr x = some (.clo f ps)) : OpOk P σ ρ S w a o (.clo f ps) σ := by
  have hv : VA1 P σ ρ S w (.clo f ps) (a.eval x) := evalO_ok hf hx
  obtain ⟨cap, e, h1⟩ := id hv
  exact OpOk.pure hr (run_nilCheck_any h rfl (.inl ⟨f, cap, e⟩)) hv
theorem op_nilCheck_ifc (hr : Rel P σ ρ S w) (hf : FR P σ ρ S w fr a.tmps) {x : Operand} {t : TypeId} {u : E} (h : o.op = .nilCheck x) (hx : evalO fr x = some (.e (.ifc t u))) : OpOk P σ ρ S w a o (.e (.ifc t u)) σ := by
  have hv : VE P w S (.ifc t u) (a.eval x) := evalO_ok hf hx
  refine OpOk.pure hr (run_nilCheck_any h rfl (.inr ?_)) hv
  generalize a.eval x = cv at hv
  cases hv
  exact ⟨_, _, rfl⟩
theorem mapM_ptr (hf : FR P σ ρ S w fr a.tmps) {l : List Operand} {ps : List (Nat × Nat)} (h : (l.mapM (ptrOf fr)) = some ps) :
    ps.length = l.length ∧ ∀ (j : Nat) (p : Nat × Nat), ps[j]? = some p → ∃ b c, ρ[p.1]? = some (some (b, c)) ∧ (∃ cs, σ[p.1]? = some (.box cs)) ∧ (l.map a.eval)[j]? = some (.pointer (some ⟨b, p.2, none⟩)) := by
  obtain ⟨h1, h2⟩ := mapM_some_get h
  refine ⟨h1, fun j p hj => ?_⟩
  obtain ⟨x, hx, hp⟩ := mapM_some_back h j p hj
  unfold ptrOf at hp
  split at hp
  · rename_i id off he
    injection hp with hp; subst hp
    obtain ⟨b, c, h3, h4, h5⟩ : VA1 P σ ρ S w (.ptr id off) (a.eval x) := evalO_ok hf he
    exact ⟨b, c, h3, h4, by rw [List.getElem?_map, hx]; simp [h5]⟩
  · cases hp
theorem op_makeFunc (hr : Rel P σ ρ S w) (hf : FR P σ ρ S w fr a.tmps) {f : FuncId} {first captured : Array Operand} {ps : List (Nat × Nat)} (h : o.op = .makeFunc (.func f) first captured) (h0 : first.size = 0)
    (hp : (captured.toList.mapM (ptrOf fr)) = some ps) : OpOk P σ ρ S w a o (.clo f ps) σ := by
  have hfirst : first = #[] := Array.eq_empty_of_size_eq_zero h0
  subst hfirst
  obtain ⟨h1, h2⟩ := mapM_ptr hf hp
  refine OpOk.pure hr (cv := .func (.func f) #[] (captured.map a.eval)) (by simp [execOp, h, Instr.makeFunc]) ⟨_, rfl, by simp [h1], fun j p hj => ?_⟩
  obtain ⟨b, c, h3, h4, h5⟩ := h2 j p hj
  refine ⟨b, c, h3, h4, ?_⟩
  rw [← Array.getElem?_toList, Array.toList_map]
  exact h5

theorem op_indexAddr (hr : Rel P σ ρ S w) (hf : FR P σ ρ S w fr a.tmps) {t et : TypeId} {x i : Operand} {u : AV} {xs : List E} {k : IntKind} {n : Int} (h : o.op = .indexAddr t x i) (ht : P.underlying t = some (.slice et))
    (hx : evalO fr x = some u) (hu : u.seal1 = some (.sl et xs)) (hi : evalO fr i = some (.e (.int k n))) (hsz : (flat P depth et).map List.length = sizeB P et) (hz : (sizeB P et).any (· ≠ 0) = true) (h0 : 0 ≤ n) (h1 : n < xs.length) :
    OpOk P σ ρ S w a o (.pin et (xs.getD n.toNat .nili) 0) σ := by
  obtain ⟨A, c, fs, b, o', f, e, hfs, hc, hlen, hok, hA, hE⟩ := VE_sl_inv (seal1_3 hu (evalO_ok hf hx))
  rw [hfs] at hsz
  have hlt : n.toNat < xs.length := by omega
  have hy := List.getElem?_eq_getElem hlt
  have hg : xs.getD n.toNat .nili = xs[n.toNat] := by simp [List.getD_eq_getElem?_getD, hy]
  rw [hg]
  have hl := hlen _ _ hy
  have hpos : 0 < fs.length := by
    rw [← hsz] at hz
    simp at hz
    cases fs with
    | nil => exact absurd rfl hz
    | cons _ _ => simp
  have hcell0 : (xs[n.toNat].cells)[0]? = some (xs[n.toNat].cells[0]'(by omega)) := List.getElem?_eq_getElem _
  obtain ⟨rfl, _⟩ := hA _ _ 0 _ hy hcell0
  refine OpOk.pure hr (run_indexAddr h ht e (VA3_int (evalO_ok hf hi)) hsz.symm h0 h1) ⟨b, o' + n.toNat * fs.length, fs, f n.toNat, rfl, hfs, hl, fun j ct x => hok _ _ j ct x hy, fun j x hj => ?_⟩
  obtain ⟨_, h5, h6⟩ := hA _ _ j x hy hj
  exact ⟨h5, h6, hE _ _ j x hy hj⟩

theorem unfold1_ok {x : E} {v : AV} {cv : Value} (h : unfold1 x = some v) (hv : VE P w S x cv) : VA2 P σ ρ S w v cv := by
  unfold unfold1 at h
  split at h
  · rename_i cs
    split at h
    · rename_i hall
      injection h with h; subst h
      cases hv with
      | agg _ arr f h1 h2 h3 =>
        refine ⟨arr, rfl, by simpa using h1, fun j u hj => ?_⟩
        rw [List.getElem?_map] at hj
        obtain ⟨c, hc, hj⟩ := Option.map_eq_some_iff.1 hj
        subst hj
        exact ⟨List.all_eq_true.1 hall c (List.mem_of_getElem? hc), f j, h2 j c hc, h3 j c hc⟩
    · cases h
  · injection h with h; subst h; exact hv

theorem op_typeAssert (hr : Rel P σ ρ S w) (hf : FR P σ ρ S w fr a.tmps) {x : Operand} {u t q : TypeId} {v : E} {ok : Bool} {d : TypeDesc} {r : AV} (h : o.op = .typeAssert x u t ok) (ht : P.underlying t = some d) (hd : ∀ ms, d ≠ .interface ms)
    (hx : evalO fr x = some (.e (.ifc q v)))
    {v' : AV} (hun : unfold1 v = some v') (hres : (if ok then (if q = t then some (AV.tup [v', .e (.bool true)]) else (zeroOf P t).map fun z => .tup [z, .e (.bool false)]) else if q = t then some v' else none) = some r) : OpOk P σ ρ S w a o r σ := by
  have hv : VE P w S (.ifc q v) (a.eval x) := evalO_ok hf hx
  generalize hcv : a.eval x = cv at hv
  cases hv with
  | ifc _ _ cv hv =>
    cases ok with
    | true =>
      simp only [if_true] at hres
      split at hres
      · rename_i hq; subst hq
        injection hres with hres; subst hres
        refine OpOk.pure hr (run_typeAssert_ok h hcv ht hd) ⟨_, rfl, rfl, fun j z hj => ?_⟩
        match j with
        | 0 => simp at hj; subst hj; exact ⟨_, rfl, unfold1_ok hun hv⟩
        | 1 => simp at hj; subst hj; exact ⟨_, rfl, VE.bool _⟩
        | j + 2 => simp at hj
      · rename_i hq
        obtain ⟨z, hz, hres⟩ := Option.map_eq_some_iff.1 hres
        subst hres
        obtain ⟨i, z', hi, hz', h1, _⟩ := zeroOf_ok (σ := σ) (ρ := ρ) (S := S) (w := w) hz
        have hn : ∀ cs, z ≠ .tup cs := by
          rintro cs rfl
          unfold zeroOf at hz
          split at hz <;> try (cases hz; done)
          split at hz <;> try (cases hz; done)
          split at hz
          · split at hz <;> try (cases hz; done)
            split at hz <;> cases hz
          · split at hz <;> try (cases hz; done)
            rename_i c hcs
            split at hz
            · injection hz with hz; subst hz; rename_i hzz; rename_i z0 _ _ _; cases z0 <;> simp [isZero] at hzz
            · cases hz
        rw [VA3_eq hn] at h1
        refine OpOk.pure hr (run_typeAssert_no h hcv hq ht hd hi hz') ⟨_, rfl, rfl, fun j q hj => ?_⟩
        match j with
        | 0 => simp at hj; subst hj; exact ⟨_, rfl, h1⟩
        | 1 => simp at hj; subst hj; exact ⟨_, rfl, VE.bool _⟩
        | j + 2 => simp at hj
    | false =>
      simp only [Bool.false_eq_true, if_false] at hres
      split at hres
      · rename_i hq; subst hq
        injection hres with hres; subst hres
        exact OpOk.pure hr (run_typeAssert_one h hcv ht hd) (unfold1_ok hun hv).to3
      · cases hres

theorem op_max (hr : Rel P σ ρ S w) (hf : FR P σ ρ S w fr a.tmps) {args : Array Operand} {ats : Array TypeId} {k : IntKind} {m n : Int} (h : o.op = .call { callee := .builtin .max, args := args, argTypes := ats })
    (hx : args.toList.map (evalO fr) = [some (.e (.int k m)), some (.e (.int k n))]) : OpOk P σ ρ S w a o (.e (.int k (max m n))) σ := by
  obtain ⟨x, y, rfl, h1, h2⟩ := args_two hx
  exact OpOk.pure hr (run_max h (VA3_int (evalO_ok hf h1)) (VA3_int (evalO_ok hf h2))) (VE.int _ _)
theorem op_min (hr : Rel P σ ρ S w) (hf : FR P σ ρ S w fr a.tmps) {args : Array Operand} {ats : Array TypeId} {k : IntKind} {m n : Int} (h : o.op = .call { callee := .builtin .min, args := args, argTypes := ats })
    (hx : args.toList.map (evalO fr) = [some (.e (.int k m)), some (.e (.int k n))]) : OpOk P σ ρ S w a o (.e (.int k (min m n))) σ := by
  obtain ⟨x, y, rfl, h1, h2⟩ := args_two hx
  exact OpOk.pure hr (run_min h (VA3_int (evalO_ok hf h1)) (VA3_int (evalO_ok hf h2))) (VE.int _ _)
end
end Go.Den
