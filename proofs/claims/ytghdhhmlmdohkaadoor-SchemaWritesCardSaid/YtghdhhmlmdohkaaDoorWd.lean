/- The program's put. -/
import Derived.Test.YtghdhhmlmdohkaaDoorWc
namespace Go.Proofs.YtghdhhmlmdohkaaDoor
open Go Go.Den
set_option maxRecDepth 100000

/-- Texts one behind the other, the first behind s. -/
def sepT (s : List UInt8) : List (List UInt8) → List UInt8
  | [] => []
  | t :: ts => s ++ t ++ sepT [44] ts

/-- A text put behind another one, if there is room. -/
def PutOk (x : Option (Res × Heap)) (b w : List UInt8) : Prop :=
  (b.length + w.length ≤ 65536 ∧ x = some (.ret (yes true), bld (b ++ w))) ∨ (65536 < b.length + w.length ∧ ∃ b', x = some (.ret (yes false), bld b'))

def putX (o : Ob) (s c b : List UInt8) : Out := { ex := .exit 1, fr := [.ptr 0 0, AV.undef, AV.undef, .ptr 2 0, AV.undef, str s, str c] ++ List.replicate 76 AV.undef, hp := [bldO (bytesE b), .vec 5 (bytesE b).length, o], df := [] }
def putR (b : List UInt8) : Out := { ex := .ret, fr := [AV.undef, AV.undef, AV.undef, AV.undef, yes false] ++ List.replicate 78 AV.undef, hp := bld b, df := [] }
def PutL (x : Option Out) (o : Ob) (s c b : List UInt8) (ts : List (List UInt8)) : Prop :=
  ((ts = [] ∨ b.length + (sepT s ts).length ≤ 65536) ∧ x = some (putX o (if ts = [] then s else [44]) c (b ++ sepT s ts))) ∨
    (ts ≠ [] ∧ 65536 < b.length + (sepT s ts).length ∧ ∃ b', x = some (putR b'))

abbrev puF (s c : List UInt8) (vs : List E) (i : Int) : Fr := ((((((List.replicate 83 AV.undef).set 0 (.ptr 0 0)).set 3 (.ptr 2 0)).set 5 (.e (.str s))).set 6 (.e (.str c))).set 15 (.e (.sl 38 vs))).set 16 (.e (.int .i64 (vs.length : Int))) |>.set 17 (.e (.int .i64 i))

theorem putL_of {f : FuncId} {m : Nat} {g : Code} {fr : Fr} {σ : Heap} {X : Option Out} {o : Ob} {s c b : List UInt8} {ts : List (List UInt8)} (hb : bodyLoop PP HH RR LL f m g fr σ = X) (h : PutL X o s c b ts) : PutL (LL f m g fr σ) o s c b ts := by
  rcases h with ⟨h1, h2⟩ | ⟨h0, h1, b', h2⟩
  · exact .inl ⟨h1, loop_of_body (hb.trans h2)⟩
  · exact .inr ⟨h0, h1, b', loop_of_body (hb.trans h2)⟩
theorem condP {q : Bool} {x y : Option Out} {o : Ob} {s c b : List UInt8} {ts : List (List UInt8)} (hq : q = true) (h : PutL x o s c b ts) : PutL (bif q then x else y) o s c b ts := by rw [hq]; exact h
theorem condP' {q : Bool} {x y : Option Out} {o : Ob} {s c b : List UInt8} {ts : List (List UInt8)} (hq : q = false) (h : PutL y o s c b ts) : PutL (bif q then x else y) o s c b ts := by rw [hq]; exact h

/-- The items of a list. -/
def itemsS (w : E → List UInt8) (r : Bool) (ns vs : List E) : List (List UInt8) := if r = true then List.zipWith (entT w) ns vs else vs.map w

theorem size_ok {a b : Nat} (h : a + b ≤ 200000) : (decide (a = a) && decide ((a + b) * 1 ≤ 140737488355328)) = true := by simp; omega

theorem put_loop {k n : Int} {x c : List UInt8} {ns vs : List E} {w : E → List UInt8} {B : Nat} (hl : vs.length ≤ maxLen) (hB : 65536 + 18 ≤ B) (hB2 : B ≤ 100000) (hc : c.length ≤ 1) (hk : k = 6 → ns.length = vs.length) (hn : ∀ o ∈ ns, (nmE o).length ≤ 16)
    (hf : ∀ v ∈ vs, ∀ b : List UInt8, b.length ≤ B → PutOk (RR none 47 [.ptr 0 0, slotsV v] (bld b)) b (w v)) :
    ∀ (j i : Nat) (s b : List UInt8), i + j = vs.length → s.length ≤ 1 → b.length + 18 ≤ B →
      PutL (LL 47 2 lc_47_6 (puF s c vs i) [bldO (bytesE b), .vec 5 (bytesE b).length, vlC k n x ns vs]) (vlC k n x ns vs) s c b (itemsS w (k == 6) (ns.drop i) (vs.drop i)) := by
  intro j
  induction j with
  | zero =>
    intro i s b h hs hb
    have : i = vs.length := by omega
    subst this
    have e : itemsS w (k == 6) (ns.drop vs.length) (vs.drop vs.length) = [] := by
      unfold itemsS
      rw [List.drop_length]
      split <;> simp
    rw [e]
    refine .inl ⟨.inl rfl, loop_of_body ((eq_putL6 RR LL (bytesE b) s c vs vs.length vs.length k n x ns vs).trans (cond_not (end_nat _) ?_))⟩
    show some _ = some (putX _ s c (b ++ []))
    rw [List.append_nil]; rfl
  | succ j ih =>
    intro i s b h hs hb
    have hi : i < vs.length := by omega
    have bl := bytesE_len b
    have sl := bytesE_len s
    have body := eq_putL6 RR LL (bytesE b) s c vs vs.length i k n x ns vs
    have hne : ∀ (t : List UInt8) ts, (t :: ts) ≠ [] := by simp
    -- one item
    have step : ∀ (p : List UInt8) (ts : List (List UInt8)) (X : List E), p.length ≤ 17 → X = bytesE (b ++ s ++ p) →
        ts = itemsS w (k == 6) (ns.drop (i + 1)) (vs.drop (i + 1)) →
        PutL ((RR none 47 [.ptr 0 0, slotsV (vs.getD i .nili)] (bldE X)).bind fun rh => bif okHeap (bldE X) rh.2 then bif okRes PP 4 rh.1 then
          bif !rh.1.val.data.toBool then some { ex := .ret, fr := [AV.undef, AV.undef, AV.undef, AV.undef, yes false] ++ List.replicate 78 AV.undef, hp := [.box [.nsp 0 69, .own 1 5 ((rh.2.ob 0).cell 1).data.toList], .vec 5 (rh.2.ob 1).len], df := [] }
          else (LL 47 2 lc_47_6 (puF [44] c vs (IntKind.i64.wrap ((i : Int) + 1))) [.box [.nsp 0 69, .own 1 5 ((rh.2.ob 0).cell 1).data.toList], .vec 5 (rh.2.ob 1).len, vlC k n x ns vs]).bind fun o => some o
          else none else none) (vlC k n x ns vs) s c b ((p ++ w (vs.getD i .nili)) :: ts) := by
      rintro p ts X hp rfl rfl
      rw [wrap_nat hi hl]
      have e1 := hf _ (getD_mem hi) (b ++ s ++ p) (by simp; omega)
      generalize hw : w (vs.getD i .nili) = t at e1
      rcases e1 with ⟨q1, q2⟩ | ⟨q1, b', q2⟩
      · have e2 := ih (i + 1) [44] (b ++ s ++ p ++ t) (by omega) (by simp) (by simp at q1 ⊢; omega)
        generalize itemsS w (k == 6) (ns.drop (i + 1)) (vs.drop (i + 1)) = ts at e2 ⊢
        have et : b ++ s ++ p ++ t ++ sepT [44] ts = b ++ sepT s ((p ++ t) :: ts) := by
          show _ = b ++ (s ++ (p ++ t) ++ sepT [44] ts)
          simp
        have el : (b ++ s ++ p ++ t).length + (sepT [44] ts).length = b.length + (sepT s ((p ++ t) :: ts)).length := by
          rw [← List.length_append, et, List.length_append]
        rcases e2 with ⟨r1, r2⟩ | ⟨r0, r1, b', r2⟩
        · refine .inl ⟨.inr ?_, bind_run q2 (cond_run rfl (cond_run rfl (cond_not rfl (bind_run r2 ?_))))⟩
          · rw [← el]
            rcases r1 with r1 | r1
            · rw [r1]
              show (b ++ s ++ p ++ t).length + 0 ≤ 65536
              rw [List.length_append]; exact q1
            · exact r1
          · rw [if_neg (hne _ _), ← et]
            by_cases hts : ts = []
            · rw [if_pos hts]
            · rw [if_neg hts]
        · exact .inr ⟨hne _ _, by rw [← el]; exact r1, b', bind_run q2 (cond_run rfl (cond_run rfl (cond_not rfl (bind_run r2 rfl))))⟩
      · refine .inr ⟨hne _ _, ?_, b', bind_run q2 (cond_run rfl (cond_run rfl (cond_run rfl rfl)))⟩
        show 65536 < b.length + (s ++ (p ++ t) ++ sepT [44] _).length
        simp at q1 ⊢; omega
    refine putL_of body (condP (lt_nat hi) (condP (in_nat hi) (condP (size_ok (by omega)) ?_)))
    rw [at_nat]
    by_cases h6 : k = 6
    · have hin : i < ns.length := by rw [hk h6]; exact hi
      have hnm := hn _ (getD_mem hin)
      have e : itemsS w (k == 6) (ns.drop i) (vs.drop i) = (nmE (ns.getD i .nili) ++ [58] ++ w (vs.getD i .nili)) :: itemsS w (k == 6) (ns.drop (i + 1)) (vs.drop (i + 1)) := by
        unfold itemsS
        rw [eq_beq h6, if_pos rfl, if_pos rfl, drop_getD hin, drop_getD hi]; rfl
      rw [e]
      refine condP (eq_beq h6) (condP (in_nat hin) (condP (decide_eq_true ?_) (condP ?_ ?_)))
      · show (nmE (ns.getD i .nili)).length + 1 ≤ _
        omega
      · rw [bytesE_app]
        refine size_ok ?_
        rw [bytesE_len, bytesE_len]
        show (b ++ s).length + (nmE (ns.getD i .nili) ++ [58]).length ≤ 200000
        simp only [List.length_append, List.length_singleton]; omega
      · exact step (nmE (ns.getD i .nili) ++ [58]) _ _ (by simp only [List.length_append, List.length_singleton]; omega) (by rw [bytesE_app, bytesE_app]; rfl) rfl
    · have e : itemsS w (k == 6) (ns.drop i) (vs.drop i) = ([] ++ w (vs.getD i .nili)) :: itemsS w (k == 6) (ns.drop (i + 1)) (vs.drop (i + 1)) := by
        unfold itemsS
        rw [ne_beq h6, if_neg (by decide), if_neg (by decide), drop_getD hi]; rfl
      rw [e]
      refine condP' (ne_beq h6) ?_
      exact step [] _ _ (by simp) (by rw [bytesE_app, List.append_nil]) rfl

end Go.Proofs.YtghdhhmlmdohkaaDoor
