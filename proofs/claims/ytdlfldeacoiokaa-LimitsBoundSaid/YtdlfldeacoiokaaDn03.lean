/- Each operation that the interpreter carries out is carried out so by the model. -/
import Derived.Test.YtdlfldeacoiokaaDn02
namespace Go.Den
open Go

section
variable {P : Program} {σ : Heap} {ρ : Gr} {S : Cells} {w : World} {fr : Fr} {a : Act}

theorem eval_tmp {t : Nat} {cv : Value} (h : a.tmps[t]? = some cv) : a.eval (.tmp t) = cv := by
  simp [Act.eval, h]

theorem evalO_ok (hf : FR P σ ρ S w fr a.tmps) {x : Operand} {v : AV} (h : evalO fr x = some v) : VA3 P σ ρ S w v (a.eval x) := by
  unfold evalO at h
  split at h
  · obtain ⟨cv, h1, h2⟩ := hf.2 _ _ h
    rw [eval_tmp h1]; exact h2
  all_goals first | cases h | (injection h with h; subst h)
  · exact VE.int _ _
  · exact VE.bool _
  · exact VE.str _ _ rfl
  · rfl
  · exact VE.nili
  · rfl

theorem evalT_ok (hf : FR P σ ρ S w fr a.tmps) {t : TypeId} {x : Operand} {v : AV} (h : evalT P t fr x = some v) : VA3 P σ ρ S w v (a.eval x) := by
  unfold evalT at h
  split at h
  · split at h
    · split at h
      · rename_i hs
        injection h with h; subst h
        exact ⟨rfl, Option.isSome_iff_exists.1 hs⟩
      · cases h
    · cases h
  · exact evalO_ok hf h

end

/-- An operation is carried out as the interpreter says. -/
def OpOk (P : Program) (σ : Heap) (ρ : Gr) (S : Cells) (w : World) (a : Act) (o : Oper) (v : AV) (σ' : Heap) : Prop :=
  ∃ n cv w' ρ' S', (execOp a.eval o).run P w = .ok n w' ∧ (n = .value cv ∨ (n = .skip ∧ cv = undef)) ∧ Rel P σ' ρ' S' w' ∧
    Ext σ ρ S w σ' ρ' S' w' ∧ VA3 P σ' ρ' S' w' v cv

section
variable {P : Program} {σ : Heap} {ρ : Gr} {S : Cells} {w : World} {fr : Fr} {a : Act} {o : Oper}

/-- An operation that only computes. -/
theorem OpOk.pure (hr : Rel P σ ρ S w) {v : AV} {cv : Value} (h : (execOp a.eval o).run P w = .ok (.value cv) w) (hv : VA3 P σ ρ S w v cv) : OpOk P σ ρ S w a o v σ :=
  ⟨_, cv, w, ρ, S, h, .inl rfl, hr, Ext.refl _ _ _ _, hv⟩

section
variable {ev : Operand → Value}
theorem run_move (x : Operand) (h : o.op = .move x) : (execOp ev o).run P w = .ok (.value (ev x)) w := by
  simp [execOp, h, go_sem]
theorem run_assign (x : Operand) (h : o.op = .assign x) : (execOp ev o).run P w = .ok (.value (ev x)) w := by
  simp [execOp, h, go_sem]
theorem run_pick {c x y : Operand} {b : Bool} (h : o.op = .pick c x y) (e : ev c = .bool b) : (execOp ev o).run P w = .ok (.value (cond b (ev x) (ev y))) w := by
  cases b <;> simp [execOp, h, go_sem, e, asBool]
theorem run_neg {t : TypeId} {x : Operand} {k : IntKind} {n : Int} (h : o.op = .unOp .neg t x) (e : ev x = .int k n) : (execOp ev o).run P w = .ok (.value (.int k (k.wrap (0 - n)))) w := by
  simp [execOp, h, go_sem, e, Op.unary, Op.intArith]
theorem run_not {t : TypeId} {x : Operand} {b : Bool} (h : o.op = .unOp .not t x) (e : ev x = .bool b) : (execOp ev o).run P w = .ok (.value (.bool (!b))) w := by
  simp [execOp, h, go_sem, e, Op.unary]
end


theorem getElem?_snoc_lt {α : Type} {l : List α} {x : α} {i : Nat} {y : α} (h : l[i]? = some y) : (l ++ [x])[i]? = some y := by
  rw [List.getElem?_append_left (List.getElem?_eq_some_iff.1 h).1]; exact h

theorem getElem?_snoc {α : Type} {l : List α} {x : α} {i : Nat} {y : α} (h : (l ++ [x])[i]? = some y) : l[i]? = some y ∨ (i = l.length ∧ y = x) := by
  rcases Nat.lt_or_ge i l.length with hi | hi
  · rw [List.getElem?_append_left hi] at h; exact .inl h
  · rw [List.getElem?_append_right hi] at h
    have : i - l.length = 0 := by
      rcases Nat.eq_zero_or_pos (i - l.length) with h0 | h0
      · exact h0
      · rw [List.getElem?_eq_none (by simp; omega)] at h; cases h
    rw [this] at h
    simp at h
    exact .inr ⟨by omega, h.symm⟩

theorem set_cases {α : Type} {l : List α} {i j : Nat} {x y : α} (h : (l.set i x)[j]? = some y) : (j = i ∧ y = x ∧ i < l.length) ∨ (j ≠ i ∧ l[j]? = some y) := by
  rw [List.getElem?_set] at h
  split at h
  · rename_i e; subst e
    split at h
    · rename_i hl; injection h with h; exact .inl ⟨rfl, h.symm, hl⟩
    · cases h
  · rename_i e; exact .inr ⟨fun e' => e e'.symm, h⟩

/-- Where a place was kept free, what was said of the objects stays said. -/
theorem Ext.fill {id : Nat} {ob : Ob} (hh : σ[id]? = some .hole) : Ext σ ρ S w (σ.set id ob) ρ S w := by
  have hne : ∀ {i : Nat} {q : Ob}, σ[i]? = some q → q ≠ .hole → (σ.set id ob)[i]? = some q := fun {i q} h hq => by
    rw [List.getElem?_set_ne (by rintro rfl; rw [hh] at h; injection h with h; exact hq h.symm)]; exact h
  exact ⟨fun _ _ h => ⟨h, rfl⟩, fun i cs h => ⟨⟨cs, hne h (by simp)⟩, rfl⟩, fun i t m h => .inl ⟨m, Nat.le_refl _, hne h (by simp), fun _ => rfl⟩,
    fun i r h => ⟨⟨r, hne h (by simp)⟩, rfl⟩, fun i h => hne h (by simp), fun _ _ _ => rfl, fun i _ c h => .inr ⟨i, c, h⟩, fun _ _ h => .inl h, Nat.le_refl _, rfl, rfl, rfl⟩

/-- A growing slice that lies nowhere yet. -/
theorem Rel.fillVec (hr : Rel P σ ρ S w) {id : Nat} (hh : σ[id]? = some .hole) (et : TypeId) (n : Nat) : Rel P (σ.set id (.vec et n)) ρ S w ∧ Ext σ ρ S w (σ.set id (.vec et n)) ρ S w := by
  have he : Ext σ ρ S w (σ.set id (.vec et n)) ρ S w := Ext.fill hh
  refine ⟨⟨by simp [hr.len], ?_, ?_, ?_, ?_, hr.lt, hr.inj, hr.cells, hr.glob.mono he⟩, he⟩
  · intro i cs h
    rcases set_cases h with ⟨_, h, _⟩ | ⟨_, h⟩
    · cases h
    · obtain ⟨b, c, arr, T, h1, h2, h3, h4, h5⟩ := hr.box i cs h
      exact ⟨b, c, arr, T, h1, h2, h3, fun j v hj => let ⟨h6, x, h7, h8⟩ := h4 j v hj; ⟨h6, x, h7, h8.mono he⟩, h5⟩
  · intro i et' n' b c h h'
    rcases set_cases h with ⟨rfl, _, _⟩ | ⟨_, h⟩
    · rw [hr.hole _ hh] at h'; cases h'
    · exact hr.vec i et' n' b c h h'
  · intro i r h
    rcases set_cases h with ⟨_, h, _⟩ | ⟨_, h⟩
    · cases h
    · exact hr.raw i r h
  · intro i h
    rcases set_cases h with ⟨_, h, _⟩ | ⟨_, h⟩
    · cases h
    · exact hr.hole i h

theorem fillAt_spec {σ σ' : Heap} {id : Nat} {ob : Ob} (h : fillAt σ id ob = some σ') : σ[id]? = some .hole ∧ σ' = σ.set id ob := by
  unfold fillAt at h
  split at h
  · rename_i hh; injection h with h; exact ⟨hh, h.symm⟩
  · cases h

theorem VE.nilSlice {et : TypeId} {fs : List TypeId} (h : flat P depth et = some fs) (A : Option Addr) (c : Nat) : VE P w S (.sl et []) (.slice A 0 c) :=
  VE.sl et [] A c fs 0 0 (fun _ _ => undef) h (by simp) (by simp) (by simp) (by simp) (by simp)

theorem op_move (hr : Rel P σ ρ S w) (hf : FR P σ ρ S w fr a.tmps) {x : Operand} {v : AV} (h : o.op = .move x) (hx : evalT P o.type fr x = some v) : OpOk P σ ρ S w a o v σ :=
  OpOk.pure hr (run_move x h) (evalT_ok hf hx)

theorem op_assign (hr : Rel P σ ρ S w) (hf : FR P σ ρ S w fr a.tmps) {x : Operand} {v : AV} (h : o.op = .assign x) (hx : evalT P o.type fr x = some v) : OpOk P σ ρ S w a o v σ :=
  OpOk.pure hr (run_assign x h) (evalT_ok hf hx)

theorem VA3_bool {b : Bool} {cv : Value} (h : VA3 P σ ρ S w (.e (.bool b)) cv) : cv = .bool b := by
  have h : VE P w S (.bool b) cv := h
  cases h; rfl
theorem VA3_int {k : IntKind} {n : Int} {cv : Value} (h : VA3 P σ ρ S w (.e (.int k n)) cv) : cv = .int k n := by
  have h : VE P w S (.int k n) cv := h
  cases h; rfl
theorem VA3_str {s : List UInt8} {cv : Value} (h : VA3 P σ ρ S w (.e (.str s)) cv) : ∃ b : ByteArray, cv = .string b ∧ b.data.toList = s := by
  have h : VE P w S (.str s) cv := h
  cases h with | str _ b h' => exact ⟨b, rfl, h'⟩

theorem op_pick (hr : Rel P σ ρ S w) (hf : FR P σ ρ S w fr a.tmps) {c x y : Operand} {b : Bool} {va vb : AV} (h : o.op = .pick c x y)
    (hc : evalO fr c = some (.e (.bool b))) (hx : evalO fr x = some va) (hy : evalO fr y = some vb) : OpOk P σ ρ S w a o (cond b va vb) σ := by
  have e := VA3_bool (evalO_ok hf hc)
  refine OpOk.pure hr (run_pick h e) ?_
  cases b
  · exact evalO_ok hf hy
  · exact evalO_ok hf hx

theorem op_unop (hr : Rel P σ ρ S w) (hf : FR P σ ρ S w fr a.tmps) {op : UnOp} {t : TypeId} {x : Operand} {u : AV} {v : E} (h : o.op = .unOp op t x)
    (hx : evalO fr x = some u) (hu : evalUn op u = some v) : OpOk P σ ρ S w a o (.e v) σ := by
  have hv := evalO_ok hf hx
  unfold evalUn at hu
  split at hu
  · injection hu with hu; subst hu
    exact OpOk.pure hr (run_neg h (VA3_int hv)) (VE.int _ _)
  · injection hu with hu; subst hu
    exact OpOk.pure hr (run_not h (VA3_bool hv)) (VE.bool _)
  · cases hu

/-! ### Binary operations -/
section
variable {ev : Operand → Value} {x y : Operand} {t t' : TypeId}
theorem run_bin {op : BinOp} {vx vy r : Value} (h : o.op = .binOp op t x y t') (e1 : ev x = vx) (e2 : ev y = vy)
    (hg : (eqGuard op t x y vx vy).run P w = .ok () w) (hb : (binOp op t vx vy).run P w = .ok r w) : (execOp ev o).run P w = .ok (.value r) w := by
  subst e1; subst e2
  simp [execOp, h, go_sem, hg, hb]
theorem guard_int {op : BinOp} {k k' : IntKind} {m n : Int} : (eqGuard op t x y (.int k m) (.int k' n)).run P w = .ok () w := by
  unfold eqGuard; split <;> rfl
theorem guard_str {op : BinOp} {m n : ByteArray} : (eqGuard op t x y (.string m) (.string n)).run P w = .ok () w := by
  unfold eqGuard; split <;> rfl
theorem guard_bool {op : BinOp} {m n : Bool} : (eqGuard op t x y (.bool m) (.bool n)).run P w = .ok () w := by
  unfold eqGuard; split <;> rfl
theorem bin_shl {t : TypeId} {k k' : IntKind} {m n : Int} (h : 0 ≤ n) : (binOp .shl t (.int k m) (.int k' n)).run P w = .ok (.int k (k.wrap (m * 2 ^ (min n.toNat k.bits)))) w := by
  simp [binOp, Op.shift, go_sem, Int.not_lt.2 h]
theorem bin_shr {t : TypeId} {k k' : IntKind} {m n : Int} (h : 0 ≤ n) : (binOp .shr t (.int k m) (.int k' n)).run P w = .ok (.int k (m.fdiv (2 ^ (min n.toNat k.bits)))) w := by
  simp [binOp, Op.shift, go_sem, Int.not_lt.2 h]
theorem bin_quo {t : TypeId} {k : IntKind} {m n : Int} (h : n ≠ 0) : (binOp .quo t (.int k m) (.int k n)).run P w = .ok (.int k (k.wrap (m.tdiv n))) w := by
  simp [binOp, Op.intDiv, go_sem, h]
theorem bin_rem {t : TypeId} {k : IntKind} {m n : Int} (h : n ≠ 0) : (binOp .rem t (.int k m) (.int k n)).run P w = .ok (.int k (m.tmod n)) w := by
  simp [binOp, Op.intDiv, go_sem, h]
theorem bin_bits {op : BinOp} {t : TypeId} {k : IntKind} {m n r : Int} (h : bitsOp op k m n = some r) : (binOp op t (.int k m) (.int k n)).run P w = .ok (.int k r) w := by
  unfold bitsOp at h
  cases op
  all_goals first
    | (cases h; done)
    | (injection h with h
       subst h
       simp only [binOp]
       rw [if_neg (not_not_intro rfl)]
       rfl)
theorem strEq_eq (m n : ByteArray) : (m.toList == n.toList) = strEq m.data.toList n.data.toList := by
  rw [ByteArray.toList_eq, ByteArray.toList_eq]; rfl

theorem bin_cat {t : TypeId} {m n : ByteArray} (h : m.data.toList.length + n.data.toList.length ≤ 9223372036854775807) : (binOp .add t (.string m) (.string n)).run P w = .ok (.string (m ++ n)) w := by
  have h' : m.size + n.size ≤ 9223372036854775807 := h
  have : ¬ (((m.size + n.size : Nat) : Int) > IntKind.i64.max) := by
    have e : IntKind.i64.max = 9223372036854775807 := by decide
    rw [e]; omega
  simp only [binOp, Op.stringOp, if_neg this]
  rfl
theorem VA3_nili {cv : Value} (h : VA3 P σ ρ S w (.e .nili) cv) : cv = .nilIface := by
  have h : VE P w S .nili cv := h
  cases h; rfl
theorem VA3_ifc {t : TypeId} {x : E} {cv : Value} (h : VA3 P σ ρ S w (.e (.ifc t x)) cv) : ∃ t v, cv = .iface t v := by
  have h : VE P w S (.ifc t x) cv := h
  cases h; exact ⟨_, _, rfl⟩
section
variable {t : TypeId}
theorem eq_bool (ht : P.underlying t = some .bool) (d : Nat) (m n : Bool) : (Op.equalIn (d + 1) t (.bool m) (.bool n)).run P w = .ok (m == n) w := by
  simp [Op.equalIn, run_underlying ht]
theorem eq_nil_ifc {ms} (ht : P.underlying t = some (.interface ms)) (d : Nat) (u : TypeId) (v : Value) : (Op.equalIn (d + 1) t .nilIface (.iface u v)).run P w = .ok false w := by
  simp [Op.equalIn, run_underlying ht]
theorem eq_ifc_nil {ms} (ht : P.underlying t = some (.interface ms)) (d : Nat) (u : TypeId) (v : Value) : (Op.equalIn (d + 1) t (.iface u v) .nilIface).run P w = .ok false w := by
  simp [Op.equalIn, run_underlying ht]
theorem bin_eql {x y : Value} {r : Bool} (hb : binOp .eql t x y = (do Pure.pure (.bool (← Op.equal t x y)))) (h : (Op.equalIn 10000 t x y).run P w = .ok r w) : (binOp .eql t x y).run P w = .ok (.bool r) w := by
  rw [hb]; simp [Op.equal, Op.maxDepth, h]
theorem bin_neq {x y : Value} {r : Bool} (hb : binOp .neq t x y = (do Pure.pure (.bool (!(← Op.equal t x y))))) (h : (Op.equalIn 10000 t x y).run P w = .ok r w) : (binOp .neq t x y).run P w = .ok (.bool (!r)) w := by
  rw [hb]; simp [Op.equal, Op.maxDepth, h]
end
theorem op_bin (hr : Rel P σ ρ S w) (hf : FR P σ ρ S w fr a.tmps) {op : BinOp} {t t' : TypeId} {x y : Operand} {u v : AV} {r : E} (h : o.op = .binOp op t x y t')
    (hx : evalT P t fr x = some u) (hy : evalT P t fr y = some v) (hb : evalBin P t op u v = some (true, r)) : OpOk P σ ρ S w a o (.e r) σ := by
  have h1 := evalT_ok hf hx
  have h2 := evalT_ok hf hy
  generalize hcx : a.eval x = cx at h1
  generalize hcy : a.eval y = cy at h2
  unfold evalBin at hb
  split at hb
  · -- shl
    injection hb with hb; injection hb with hb1 hb2; subst hb2
    have e1 := VA3_int h1; have e2 := VA3_int h2; subst e1; subst e2
    exact OpOk.pure hr (run_bin h hcx hcy guard_int (bin_shl (of_decide_eq_true hb1))) (VE.int _ _)
  · injection hb with hb; injection hb with hb1 hb2; subst hb2
    have e1 := VA3_int h1; have e2 := VA3_int h2; subst e1; subst e2
    exact OpOk.pure hr (run_bin h hcx hcy guard_int (bin_shr (of_decide_eq_true hb1))) (VE.int _ _)
  · -- two integers
    have e1 := VA3_int h1; have e2 := VA3_int h2; subst e1; subst e2
    split at hb
    · rename_i hk
      subst hk
      split at hb
      all_goals first
        | (cases hb; done)
        | (injection hb with hb; injection hb with hb1 hb2; subst hb2
           refine OpOk.pure hr (cv := .int _ _) (run_bin h hcx hcy guard_int ?_) (VE.int _ _)
           first
           | (simp [binOp, Op.intArith, go_sem]; done)
           | exact bin_quo (by simpa using hb1)
           | exact bin_rem (by simpa using hb1))
        | (injection hb with hb; injection hb with hb1 hb2; subst hb2
           refine OpOk.pure hr (cv := .bool _) (run_bin h hcx hcy guard_int ?_) (VE.bool _)
           simp [binOp, Op.intCmp, go_sem, bne]; done)
        | (obtain ⟨n, hn, hb⟩ := Option.map_eq_some_iff.1 hb
           injection hb with hb1 hb2; subst hb2
           exact OpOk.pure hr (run_bin h hcx hcy guard_int (bin_bits hn)) (VE.int _ _))
    · cases hb
  · -- two strings
    obtain ⟨sx, e1, d1⟩ := VA3_str h1
    obtain ⟨sy, e2, d2⟩ := VA3_str h2
    subst e1; subst e2
    split at hb
    all_goals first
      | (cases hb; done)
      | (injection hb with hb; injection hb with hb1 hb2; subst hb2
         refine OpOk.pure hr (cv := .bool _) (run_bin h hcx hcy guard_str ?_) (VE.bool _)
         rw [← d1, ← d2]
         simp [binOp, Op.stringOp, go_sem, strEq, ByteArray.toList_eq]; done)
      | (injection hb with hb; injection hb with hb1 hb2; subst hb2
         refine OpOk.pure hr (cv := .string (sx ++ sy)) (run_bin h hcx hcy guard_str ?_) (VE.str _ _ (by simp [d1, d2]))
         rw [← d1, ← d2] at hb1
         exact bin_cat (of_decide_eq_true hb1))
  · -- two bools
    have e1 := VA3_bool h1; have e2 := VA3_bool h2; subst e1; subst e2
    split at hb
    · rename_i ht
      injection hb with hb; injection hb with hb1 hb2; subst hb2
      exact OpOk.pure hr (run_bin h hcx hcy guard_bool (bin_eql rfl (eq_bool ht 9999 _ _))) (VE.bool _)
    · rename_i ht
      injection hb with hb; injection hb with hb1 hb2; subst hb2
      exact OpOk.pure hr (run_bin h hcx hcy guard_bool (bin_neq rfl (eq_bool ht 9999 _ _))) (VE.bool _)
    · cases hb
  · -- nil and an interface value
    obtain rfl := VA3_nili h1
    obtain ⟨tu, vu, rfl⟩ := VA3_ifc h2
    split at hb
    · rename_i ht
      injection hb with hb; injection hb with hb1 hb2; subst hb2
      exact OpOk.pure hr (run_bin h hcx hcy rfl (bin_eql rfl (eq_nil_ifc ht 9999 _ _))) (VE.bool _)
    · rename_i ht
      injection hb with hb; injection hb with hb1 hb2; subst hb2
      exact OpOk.pure hr (run_bin h hcx hcy rfl (bin_neq rfl (eq_nil_ifc ht 9999 _ _))) (VE.bool _)
    · cases hb
  · obtain rfl := VA3_nili h2
    obtain ⟨tu, vu, rfl⟩ := VA3_ifc h1
    split at hb
    · rename_i ht
      injection hb with hb; injection hb with hb1 hb2; subst hb2
      exact OpOk.pure hr (run_bin h hcx hcy rfl (bin_eql rfl (eq_ifc_nil ht 9999 _ _))) (VE.bool _)
    · rename_i ht
      injection hb with hb; injection hb with hb1 hb2; subst hb2
      exact OpOk.pure hr (run_bin h hcx hcy rfl (bin_neq rfl (eq_ifc_nil ht 9999 _ _))) (VE.bool _)
    · cases hb
  · cases hb
end
end
end Go.Den
