/- A run that came to something with a bound on its steps comes to it without. -/
import Derived.Test.YtdlfldeacoiokaaDen22
namespace Go.Den
open Go

section
variable {P : Program} {H : Hints}

theorem Ev.here {p : Prop} (h : Ev fun _ => p) : p := let ⟨k0, hk⟩ := h; hk k0 (Nat.le_refl _)

theorem runK_step : ∀ k, (∀ f a s r, runK P H k f a s = some r → runK P H (k + 1) f a s = some r) ∧ (∀ f m b fr s o, loopK P H k f m b fr s = some o → loopK P H (k + 1) f m b fr s = some o)
  | 0 => ⟨fun f a s r h => by simp [runK] at h, fun f m b fr s o h => by simp [loopK] at h⟩
  | k + 1 => by
    obtain ⟨h1, h2⟩ := runK_step k
    constructor
    · intro f args σ r h
      rw [runK] at h ⊢
      unfold bodyRun at h ⊢
      split at h
      · exact h
      · split at h
        · cases h
        · rename_i fn hfn
          split at h
          · cases h
          · rename_i c hc
            exact Ev.here (denCode_ev (D := { P, m := σ.length, live := H.live f, pans := H.pans, run := runK P H k, loop := loopK P H k f σ.length }) (rk := fun _ => runK P H (k + 1)) (lk := fun _ => loopK P H (k + 1) f σ.length)
              (fun f a s r h => Ev.all fun _ => h1 _ _ _ _ h) (fun b fr s o h => Ev.all fun _ => h2 _ _ _ _ _ _ h) c _ _ _ (fun _ => finish P fn σ.length) r (fun o h => Ev.all fun _ => h) h)
    · intro f m b fr σ r h
      rw [loopK] at h ⊢
      unfold bodyLoop at h ⊢
      simp only [round_eq] at h ⊢
      have key := denCode_ev (D := { P, m, live := H.live f, pans := H.pans, run := runK P H k, loop := loopK P H k f m }) (rk := fun _ => runK P H (k + 1)) (lk := fun _ => loopK P H (k + 1) f m)
        (fun f a s r h => Ev.all fun _ => h1 _ _ _ _ h) (fun b fr s o h => Ev.all fun _ => h2 _ _ _ _ _ _ h) b fr σ (tailK m (H.live f) (loopK P H k f m) b) (fun _ => tailK m (H.live f) (loopK P H (k + 1) f m) b) r ?_ h
      · exact Ev.here key
      rintro ⟨ex, fr', σ'⟩ h
      cases ex with
      | norm =>
        unfold tailK at h ⊢
        simp only at h ⊢
        split at h
        · split at h
          · exact Ev.all fun _ => h2 _ _ _ _ _ _ h
          · cases h
        · cases h
      | exit i => exact Ev.all fun _ => h
      | ret => exact Ev.all fun _ => h
      | pan x => exact Ev.all fun _ => h

theorem run_of_runK {k : Nat} {f : FuncId} {args : List AV} {σ : Heap} {r : Res × Heap} (h : runK P H k f args σ = some r) : run P H f args σ = some r := by
  rw [run_iff]
  refine ⟨k, fun j hj => ?_⟩
  induction j with
  | zero => have : k = 0 := by omega
            subst this; exact h
  | succ j ih =>
    by_cases he : k = j + 1
    · subst he; exact h
    · exact (runK_step j).1 _ _ _ _ (ih (by omega))
end

/-! ### For laws -/

@[simp] theorem val_bool (b : Bool) : (Res.ret (.e (.bool b))).val.data.toBool = b := rfl
@[simp] theorem val_int (k : IntKind) (n : Int) : (Res.ret (.e (.int k n))).val.data.toInt = n := rfl

theorem CellTy.int_inv {P : Program} {ct : TypeId} {k : IntKind} (hu : P.underlying ct = some (.int k)) {x : E} (h : CellTy P ct x) : ∃ n, x = .int k n ∧ (Lit.int k n).wf = true := by
  cases h <;> simp_all
theorem CellTy.bool_inv {P : Program} {ct : TypeId} (hu : P.underlying ct = some .bool) {x : E} (h : CellTy P ct x) : ∃ b, x = .bool b := by
  cases h <;> simp_all
theorem CellTy.str_inv {P : Program} {ct : TypeId} (hu : P.underlying ct = some .string) {x : E} (h : CellTy P ct x) : ∃ s, x = .str s ∧ s.length ≤ maxLen := by
  cases h <;> simp_all
theorem CellTy.sl_inv {P : Program} {ct et : TypeId} (hu : P.underlying ct = some (.slice et)) {x : E} (h : CellTy P ct x) : ∃ ys fs, x = .sl et ys ∧ ys.length ≤ maxLen ∧ flat P depth et = some fs ∧
    (∀ (i : Nat) (y : E), ys[i]? = some y → y.cells.length = fs.length ∧ (isAggB P et = true → y = .agg y.cells) ∧ (isAggB P et = false → y.cells = [y])) ∧
    (∀ (i : Nat) (y : E) (j : Nat) (t : TypeId) (c : E), ys[i]? = some y → fs[j]? = some t → y.cells[j]? = some c → CellTy P t c) := by
  cases h with
  | sl _ _ ys fs hu' hl hf hy hc =>
    rw [hu] at hu'
    injection hu' with hu'
    injection hu' with hu'
    subst hu'
    exact ⟨ys, fs, rfl, hl, hf, hy, hc⟩
  | _ => simp_all

theorem ParamTy.inv {P : Program} {t : TypeId} {es : List E} {ft : List TypeId} (hf : flat P depth t = some ft) (h : ParamTy P t es) : All2 (CellTy P) ft es := by
  obtain ⟨ft', h1, h2⟩ := h
  rw [hf] at h1
  injection h1 with h1
  subst h1
  exact h2

theorem All2.nil_inv {α β : Type} {R : α → β → Prop} {bs : List β} (h : All2 R [] bs) : bs = [] := by cases h; rfl
theorem All2.cons_inv {α β : Type} {R : α → β → Prop} {a : α} {as : List α} {bs : List β} (h : All2 R (a :: as) bs) : ∃ b bs', bs = b :: bs' ∧ R a b ∧ All2 R as bs' := by
  cases h with
  | cons h t => exact ⟨_, _, rfl, h, t⟩

end Go.Den
