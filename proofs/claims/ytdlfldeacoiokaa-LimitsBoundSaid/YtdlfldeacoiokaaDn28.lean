/- The interpreter without a bound on its steps: what it comes to from some number of steps on. -/
import Derived.Test.YtdlfldeacoiokaaDn27
namespace Go.Den
open Go

/-- From some number on. -/
def Later (p : Nat → Prop) : Prop := ∃ k0, ∀ k, k0 ≤ k → p k

theorem Later.all {p : Nat → Prop} (h : ∀ k, p k) : Later p := ⟨0, fun k _ => h k⟩
theorem Later.mono {p q : Nat → Prop} (h : Later p) (hpq : ∀ k, p k → q k) : Later q := let ⟨k0, hk⟩ := h; ⟨k0, fun k hl => hpq k (hk k hl)⟩
theorem Later.and {p q : Nat → Prop} (h : Later p) (h' : Later q) : Later fun k => p k ∧ q k :=
  let ⟨k0, hk⟩ := h; let ⟨k1, hk'⟩ := h'; ⟨max k0 k1, fun k hl => ⟨hk k (by omega), hk' k (by omega)⟩⟩

/-- What a tree comes to, it comes to where its calls do from some number on. -/
theorem go_ev {R : Type} {run : RunF} {loop : Code → Fr → Heap → Option Out} {rk : Nat → RunF} {lk : Nat → Code → Fr → Heap → Option Out} {lr : Res → Heap → Option R} {lo : Out → Option R} {r : R}
    (hr : ∀ md f a s q, run md f a s = some q → Later fun k => rk k md f a s = some q) (hl : ∀ b fr s q, loop b fr s = some q → Later fun k => lk k b fr s = some q) :
    ∀ {t : T}, t.go run loop lr lo = some r → Later fun k => t.go (rk k) (lk k) lr lo = some r
  | .fail, h => by cases h
  | .res _ _, h => Later.all fun _ => h
  | .out _, h => Later.all fun _ => h
  | .br b x y, h => by
    cases b with
    | true => exact go_ev (t := x) hr hl h
    | false => exact go_ev (t := y) hr hl h
  | .call m f as σ k, h => by
    obtain ⟨q, h1, h2⟩ := Option.bind_eq_some_iff.1 h
    refine ((hr m f as σ q h1).and (go_ev (t := k q) hr hl h2)).mono fun j hj => ?_
    show (rk j m f as σ).bind _ = _
    rw [hj.1]
    exact hj.2
  | .loop b fr σ k, h => by
    obtain ⟨q, h1, h2⟩ := Option.bind_eq_some_iff.1 h
    refine ((hl b fr σ q h1).and (go_ev (t := k q) hr hl h2)).mono fun j hj => ?_
    show (lk j b fr σ).bind _ = _
    rw [hj.1]
    exact hj.2

section
variable (P : Program) (H : Hints)

open Classical in
noncomputable def run (md : Mode) (f : FuncId) (args : List AV) (σ : Heap) : Option (Res × Heap) :=
  if h : ∃ r, Later fun k => runK P H k md f args σ = some r then some h.choose else none
open Classical in
noncomputable def loop (f : FuncId) (m : Nat) (b : Code) (fr : Fr) (σ : Heap) : Option Out :=
  if h : ∃ r, Later fun k => loopK P H k f m b fr σ = some r then some h.choose else none

variable {P H}
theorem Later.uniq {α : Type} {g : Nat → Option α} {x y : α} (h : Later fun k => g k = some x) (h' : Later fun k => g k = some y) : x = y := by
  obtain ⟨k0, hk⟩ := h.and h'
  obtain ⟨h1, h2⟩ := hk k0 (Nat.le_refl _)
  rw [h1] at h2; injection h2

theorem run_iff {md : Mode} {f : FuncId} {args : List AV} {σ : Heap} {r : Res × Heap} : run P H md f args σ = some r ↔ Later fun k => runK P H k md f args σ = some r := by
  unfold run
  constructor
  · intro h
    split at h
    · rename_i hh; injection h with h; rw [← h]; exact hh.choose_spec
    · cases h
  · intro h
    have hh : ∃ r, Later fun k => runK P H k md f args σ = some r := ⟨r, h⟩
    rw [dif_pos hh, hh.choose_spec.uniq h]

theorem loop_iff {f : FuncId} {m : Nat} {b : Code} {fr : Fr} {σ : Heap} {r : Out} : loop P H f m b fr σ = some r ↔ Later fun k => loopK P H k f m b fr σ = some r := by
  unfold loop
  constructor
  · intro h
    split at h
    · rename_i hh; injection h with h; rw [← h]; exact hh.choose_spec
    · cases h
  · intro h
    have hh : ∃ r, Later fun k => loopK P H k f m b fr σ = some r := ⟨r, h⟩
    rw [dif_pos hh, hh.choose_spec.uniq h]

theorem Later.shift {p : Nat → Prop} (h : Later fun k => p (k + 1)) : Later p := by
  obtain ⟨k0, hk⟩ := h
  refine ⟨k0 + 1, fun k hl => ?_⟩
  obtain ⟨j, rfl⟩ : ∃ j, k = j + 1 := ⟨k - 1, by omega⟩
  exact hk j (by omega)

/-- A function's equation: its body, at the limit. -/
theorem run_of_body {md : Mode} {f : FuncId} {args : List AV} {σ : Heap} {r : Res × Heap} (h : bodyRun P H (run P H) (loop P H) md f args σ = some r) : run P H md f args σ = some r := by
  rw [run_iff]
  refine Later.shift ?_
  have e : ∀ k, runK P H (k + 1) md f args σ = bodyRun P H (runK P H k) (loopK P H k) md f args σ := fun k => by rw [runK]
  simp only [e]
  exact go_ev (fun md f a s q h => run_iff.1 h) (fun b fr s q h => loop_iff.1 h) h

theorem loop_of_body {f : FuncId} {m : Nat} {b : Code} {fr : Fr} {σ : Heap} {r : Out} (h : bodyLoop P H (run P H) (loop P H) f m b fr σ = some r) : loop P H f m b fr σ = some r := by
  rw [loop_iff]
  refine Later.shift ?_
  have e : ∀ k, loopK P H (k + 1) f m b fr σ = bodyLoop P H (runK P H k) (loopK P H k) f m b fr σ := fun k => by rw [loopK]
  simp only [e]
  exact go_ev (fun md f a s q h => run_iff.1 h) (fun b fr s q h => loop_iff.1 h) h

/-- A run with a bound is a run. -/
theorem lawRuns_of {n : FuncId} {ts : List TypeId} (h : ∀ ess : List (List E), All2 (ParamTy P) ts ess → run P H none n (List.zipWith (argOf P) ts ess) [] = some (.ret (.e (.bool true)), [])) : LawRuns P H n ts := by
  intro ess he
  obtain ⟨k0, hk⟩ := run_iff.1 (h ess he)
  exact ⟨k0, hk k0 (Nat.le_refl _)⟩

theorem Later.here {p : Prop} (h : Later fun _ => p) : p := let ⟨k0, hk⟩ := h; hk k0 (Nat.le_refl _)

theorem runK_step : ∀ k, (∀ md f a s r, runK P H k md f a s = some r → runK P H (k + 1) md f a s = some r) ∧ (∀ f m b fr s o, loopK P H k f m b fr s = some o → loopK P H (k + 1) f m b fr s = some o)
  | 0 => ⟨fun md f a s r h => by simp [runK] at h, fun f m b fr s o h => by simp [loopK] at h⟩
  | k + 1 => by
    obtain ⟨h1, h2⟩ := runK_step k
    constructor
    · intro md f args σ r h
      rw [runK] at h ⊢
      exact Later.here (go_ev (rk := fun _ => runK P H (k + 1)) (lk := fun _ => loopK P H (k + 1) f σ.length) (fun md f a s q h => Later.all fun _ => h1 _ _ _ _ _ h) (fun b fr s q h => Later.all fun _ => h2 _ _ _ _ _ _ h) h)
    · intro f m b fr σ r h
      rw [loopK] at h ⊢
      exact Later.here (go_ev (rk := fun _ => runK P H (k + 1)) (lk := fun _ => loopK P H (k + 1) f m) (fun md f a s q h => Later.all fun _ => h1 _ _ _ _ _ h) (fun b fr s q h => Later.all fun _ => h2 _ _ _ _ _ _ h) h)

theorem run_of_runK {k : Nat} {md : Mode} {f : FuncId} {args : List AV} {σ : Heap} {r : Res × Heap} (h : runK P H k md f args σ = some r) : run P H md f args σ = some r := by
  rw [run_iff]
  refine ⟨k, fun j hj => ?_⟩
  induction j with
  | zero => have : k = 0 := by omega
            subst this; exact h
  | succ j ih =>
    by_cases he : k = j + 1
    · subst he; exact h
    · exact (runK_step j).1 _ _ _ _ _ (ih (by omega))

/-- What the limit says is so. -/
theorem run_ok (hm : P.follows .mixedOrders = true) (hN : Named P) (hprim : PrimOk P H) : RunOk P (run P H) := by
  intro md f args σ r σ' h
  obtain ⟨k0, hk⟩ := run_iff.1 h
  exact (runK_ok hm hN hprim k0).1 md f args σ r σ' (hk k0 (Nat.le_refl _))
end

/-! ### For laws -/

@[simp] theorem val_bool (b : Bool) : (Res.ret (.e (.bool b))).val.data.toBool = b := rfl
@[simp] theorem val_int (k : IntKind) (n : Int) : (Res.ret (.e (.int k n))).val.data.toInt = n := rfl

theorem CellTy.int_inv {P : Program} {ct : TypeId} {k : IntKind} (hu : P.underlying ct = some (.int k)) {x : E} (h : CellTy P ct x) : ∃ n, x = .int k n ∧ (Lit.int k n).wf = true := by
  cases h <;> simp_all
theorem CellTy.bool_inv {P : Program} {ct : TypeId} (hu : P.underlying ct = some .bool) {x : E} (h : CellTy P ct x) : ∃ b, x = .bool b := by
  cases h <;> simp_all
theorem CellTy.str_inv {P : Program} {ct : TypeId} (hu : P.underlying ct = some .string) {x : E} (h : CellTy P ct x) : ∃ s, x = .str s ∧ s.length ≤ maxLen := by
  cases h <;> simp_all
theorem CellTy.sl_inv {P : Program} {ct et : TypeId} (hu : P.underlying ct = some (.slice et)) {x : E} (h : CellTy P ct x) : ∃ ys fs, x = .sl et ys ∧ ys.length ≤ maxLen ∧ flat P depth et = some fs ∧
    (∀ (i : Nat) (y : E), ys[i]? = some y → y.cells.length = fs.length ∧ (isAggB P et = true → y = .agg y.cells) ∧ (isAggB P et = false → y.cells = [y])) ∧
    (∀ (i : Nat) (y : E) (j : Nat) (t : TypeId) (c : E), ys[i]? = some y → fs[j]? = some t → y.cells[j]? = some c → CellTy P t c) := by
  cases h with
  | sl _ _ ys fs hu' hl hf hy hc =>
    rw [hu] at hu'
    injection hu' with hu'
    injection hu' with hu'
    subst hu'
    exact ⟨ys, fs, rfl, hl, hf, hy, hc⟩
  | _ => simp_all

theorem ParamTy.inv {P : Program} {t : TypeId} {es : List E} {ft : List TypeId} (hf : flat P depth t = some ft) (h : ParamTy P t es) : All2 (CellTy P) ft es := by
  obtain ⟨ft', h1, h2⟩ := h
  rw [hf] at h1
  injection h1 with h1
  subst h1
  exact h2

theorem All2.nil_inv {α β : Type} {R : α → β → Prop} {bs : List β} (h : All2 R [] bs) : bs = [] := by cases h; rfl
theorem All2.cons_inv {α β : Type} {R : α → β → Prop} {a : α} {as : List α} {bs : List β} (h : All2 R (a :: as) bs) : ∃ b bs', bs = b :: bs' ∧ R a b ∧ All2 R as bs' := by
  cases h with
  | cons h t => exact ⟨_, _, rfl, h, t⟩

end Go.Den
