/- The program's scanner: what its functions come to. -/
import Derived.Test.YtghdhhmlmdohkaaGreatDoorKe
import Derived.Test.YtghdhhmlmdohkaaGreatDoorVc
import Derived.Test.YtghdhhmlmdohkaaGreatDoorLib
namespace Go.Proofs.YtghdhhmlmdohkaaGreatDoor
open Go Go.Den
set_option maxRecDepth 100000

/-- A scanner at a place of its text; what is left of it. -/
abbrev scnO (s : List UInt8) (p : Int) : Ob := .box [str s, num p]
abbrev scn (s : List UInt8) (p : Int) : Heap := [scnO s p]
def pos (s l : List UInt8) : Int := (s.length : Int) - l.length
abbrev flt (p e : Int) : E := .ifc 150 (.agg [.int .i64 p, .int .i64 e])

/-- What is left is the text behind the place. -/
theorem suffix_drop {s l : List UInt8} (h : l <:+ s) : s.drop (s.length - l.length) = l := (List.suffix_iff_eq_drop.1 h).symm
theorem pos_nat {s l : List UInt8} (h : l <:+ s) : pos s l = ((s.length - l.length : Nat) : Int) := by
  have := h.length_le
  unfold pos; omega
theorem pk_pos {s l : List UInt8} (h : l <:+ s) : pk s (pos s l) = ((hd l).toNat : Int) := by
  unfold pk
  rw [pos_nat h, at_nat]
  have e := suffix_drop h
  have : s.getD (s.length - l.length) 0 = hd l := by
    rw [← e]
    unfold hd
    rw [List.headD_eq_head?_getD, List.head?_drop, List.getD_eq_getElem?_getD]
    rw [e]
  rw [this]
theorem pos_ge {s l : List UInt8} (h : l <:+ s) : decide (0 ≤ pos s l) = true := dec_yes (by rw [pos_nat h]; omega)
theorem pos_step {s l : List UInt8} (h : l <:+ s) (hs : s.length ≤ 100000) (hd0 : hd l ≠ 0) : IntKind.i64.wrap (pos s l + 1) = pos s (l.drop 1) ∧ l.drop 1 <:+ s := by
  have hl := h.length_le
  cases l with
  | nil => exact absurd rfl hd0
  | cons c l =>
    refine ⟨?_, (List.drop_suffix 1 _).trans h⟩
    have : (List.drop 1 (c :: l)).length = l.length := by simp
    simp only [List.length_cons] at hl
    unfold pos
    rw [wrap_in (by simp; omega) (by simp; omega)]
    simp; omega
theorem u8_eq {a b : UInt8} : (((a.toNat : Int)) == ((b.toNat : Nat) : Int)) = (a == b) := by
  by_cases h : a = b
  · subst h; simp
  · have : a.toNat ≠ b.toNat := fun e => h (UInt8.toNat_inj.1 e)
    rw [ne_beq (by omega)]
    exact (beq_false_of_ne h).symm

/-- What a reader's run comes to: a value and the rest, or an error. -/
def Reads {α : Type} (x : Option (Res × Heap)) (s : List UInt8) (val : α → AV) (pr : PR α) : Prop :=
  match pr with
  | .ok a l => l <:+ s ∧ x = some (.ret (val a), scn s (pos s l))
  | .err e l => l <:+ s ∧ ∃ q, x = some (.pan (flt (pos s l) e), scn s q)
theorem okScn (s s' : List UInt8) (p p' : Int) : okHeap (scn s p) (scn s' p') = true := rfl

theorem reads_of {α : Type} {md : Den.Mode} {f : FuncId} {args : List AV} {σ : Heap} {X : Option (Res × Heap)} {s : List UInt8} {val : α → AV} {pr : PR α} (hb : bodyRun PP HH RR LL md f args σ = X) (h : Reads X s val pr) : Reads (RR md f args σ) s val pr := by
  cases pr with
  | ok a l => exact ⟨h.1, run_of_body (hb.trans h.2)⟩
  | err e l => exact ⟨h.1, let ⟨q, hq⟩ := h.2; ⟨q, run_of_body (hb.trans hq)⟩⟩

/-- Behind a reader. -/
theorem thenR {α γ : Type} {x : Option (Res × Heap)} {s s0 : List UInt8} {p0 : Int} {val : α → AV} {val' : γ → AV} {pr : PR α} {f : α → List UInt8 → PR γ} {t : TypeId} {K Kp : Res × Heap → Option (Res × Heap)}
    (h : Reads x s val pr) (hok : ∀ a, okRes PP t (.ret (val a)) = true) (hp : ∀ v q, Kp (.pan v, scn s q) = some (.pan v, scn s q))
    (hr : ∀ a l, pr = .ok a l → l <:+ s → Reads (K (.ret (val a), scn s (pos s l))) s val' (f a l)) :
    Reads (x.bind fun rh => bif okHeap (scn s0 p0) rh.2 then bif rh.1.isPan then Kp rh else bif okRes PP t rh.1 then K rh else none else none) s val' (pr.andThen f) := by
  cases pr with
  | ok a l =>
    obtain ⟨h1, h2⟩ := h
    rw [h2]
    show Reads (bif okHeap (scn s0 p0) (scn s (pos s l)) then bif false then Kp (.ret (val a), scn s (pos s l)) else bif okRes PP t (.ret (val a)) then K (.ret (val a), scn s (pos s l)) else none else none) s val' (f a l)
    rw [okScn, hok a]
    exact hr a l rfl h1
  | err e l =>
    obtain ⟨h1, q, h2⟩ := h
    refine ⟨h1, q, ?_⟩
    rw [h2]
    exact hp _ _

/-- What a loop's round comes to that reads. -/
def ReadsO {α : Type} (n : Nat) (x : Option Out) (s : List UInt8) (mk : α → List UInt8 → Out) (pr : PR α) : Prop :=
  match pr with
  | .ok a l => l <:+ s ∧ x = some (mk a l)
  | .err e l => l <:+ s ∧ ∃ q, x = some { ex := .pan (flt (pos s l) e), fr := List.replicate n AV.undef, hp := scn s q, df := [] }
theorem readsO_of {α : Type} {n : Nat} {f : FuncId} {m : Nat} {b : Code} {fr : Fr} {σ : Heap} {X : Option Out} {s : List UInt8} {mk : α → List UInt8 → Out} {pr : PR α} (hb : bodyLoop PP HH RR LL f m b fr σ = X) (h : ReadsO n X s mk pr) : ReadsO n (LL f m b fr σ) s mk pr := by
  cases pr with
  | ok a l => exact ⟨h.1, loop_of_body (hb.trans h.2)⟩
  | err e l => exact ⟨h.1, let ⟨q, hq⟩ := h.2; ⟨q, loop_of_body (hb.trans hq)⟩⟩
theorem thenO {α γ : Type} {n : Nat} {x : Option (Res × Heap)} {s s0 : List UInt8} {p0 : Int} {val : α → AV} {mk : γ → List UInt8 → Out} {pr : PR α} {f : α → List UInt8 → PR γ} {t : TypeId} {K Kp : Res × Heap → Option Out}
    (h : Reads x s val pr) (hok : ∀ a, okRes PP t (.ret (val a)) = true) (hp : ∀ v q, Kp (.pan v, scn s q) = some { ex := .pan v, fr := List.replicate n AV.undef, hp := scn s q, df := [] })
    (hr : ∀ a l, pr = .ok a l → l <:+ s → ReadsO n (K (.ret (val a), scn s (pos s l))) s mk (f a l)) :
    ReadsO n (x.bind fun rh => bif okHeap (scn s0 p0) rh.2 then bif rh.1.isPan then Kp rh else bif okRes PP t rh.1 then K rh else none else none) s mk (pr.andThen f) := by
  cases pr with
  | ok a l =>
    obtain ⟨h1, h2⟩ := h
    rw [h2]
    show ReadsO n (bif okHeap (scn s0 p0) (scn s (pos s l)) then bif false then Kp (.ret (val a), scn s (pos s l)) else bif okRes PP t (.ret (val a)) then K (.ret (val a), scn s (pos s l)) else none else none) s mk (f a l)
    rw [okScn, hok a]
    exact hr a l rfl h1
  | err e l =>
    obtain ⟨h1, q, h2⟩ := h
    refine ⟨h1, q, ?_⟩
    rw [h2]
    exact hp _ _
theorem readsO_bind {α : Type} {n : Nat} {x : Option Out} {s : List UInt8} {mk : α → List UInt8 → Out} {pr : PR α} (h : ReadsO n x s mk pr) : ReadsO n (x.bind fun o => some o) s mk pr := by
  have : (x.bind fun o => some o) = x := by cases x <;> rfl
  rw [this]; exact h
theorem condR {α : Type} {s : List UInt8} {val : α → AV} {pr : PR α} {b : Bool} {x y : Option (Res × Heap)} (hb : b = true) (h : Reads x s val pr) : Reads (bif b then x else y) s val pr := by rw [hb]; exact h
theorem condR' {α : Type} {s : List UInt8} {val : α → AV} {pr : PR α} {b : Bool} {x y : Option (Res × Heap)} (hb : b = false) (h : Reads y s val pr) : Reads (bif b then x else y) s val pr := by rw [hb]; exact h
theorem condO {α : Type} {n : Nat} {s : List UInt8} {mk : α → List UInt8 → Out} {pr : PR α} {b : Bool} {x y : Option Out} (hb : b = true) (h : ReadsO n x s mk pr) : ReadsO n (bif b then x else y) s mk pr := by rw [hb]; exact h
theorem condO' {α : Type} {n : Nat} {s : List UInt8} {mk : α → List UInt8 → Out} {pr : PR α} {b : Bool} {x y : Option Out} (hb : b = false) (h : ReadsO n y s mk pr) : ReadsO n (bif b then x else y) s mk pr := by rw [hb]; exact h

/-! ### need -/

theorem needL_cons (c : UInt8) (w l : List UInt8) : needL (c :: w) l = if hd l = c then needL w (l.drop 1) else .err 2 l := rfl

def needOut (s : List UInt8) (x : Option Out) : PR Unit → Prop
  | .ok _ l => l <:+ s ∧ x = some { ex := .exit 0, fr := List.replicate 22 AV.undef, hp := scn s (pos s l), df := [] }
  | .err e l => l <:+ s ∧ x = some { ex := .pan (flt (pos s l) e), fr := List.replicate 22 AV.undef, hp := scn s (pos s l), df := [] }

theorem need_loop {s w : List UInt8} (hs : s.length ≤ 100000) (hw : w.length ≤ 100000) (h0 : ∀ c ∈ w, c ≠ 0) : ∀ (j i : Nat) (l : List UInt8), i + j = w.length → l <:+ s →
    needOut s (LL 133 1 lc_133_1 (((((List.replicate 22 AV.undef).set 0 (.ptr 0 0)).set 1 (.e (.str w))).set 6 (.e (.int .i64 w.length))).set 7 (.e (.int .i64 (i : Int)))) (scn s (pos s l))) (needL (w.drop i) l) := by
  intro j
  induction j with
  | zero =>
    intro i l h hl
    have : i = w.length := by omega
    subst this
    rw [List.drop_length]
    exact ⟨hl, loop_of_body ((eq_needL1 RR LL s (pos s l) w w.length w.length).trans (cond_not (end_nat _) rfl))⟩
  | succ j ih =>
    intro i l h hl
    have hi : i < w.length := by omega
    have hx : w.drop i = w.getD i 0 :: w.drop (i + 1) := dropU hi
    have hm : w.getD i 0 ∈ w := by rw [List.getD_eq_getElem?_getD, List.getElem?_eq_getElem hi]; simp
    rw [hx, needL_cons]
    by_cases hc : hd l = w.getD i 0
    · rw [if_pos hc]
      obtain ⟨st1, st2⟩ := pos_step hl hs (by rw [hc]; exact h0 _ hm)
      have e := ih (i + 1) (l.drop 1) (by omega) st2
      have step : ∀ o, LL 133 1 lc_133_1 (((((List.replicate 22 AV.undef).set 0 (.ptr 0 0)).set 1 (.e (.str w))).set 6 (.e (.int .i64 w.length))).set 7 (.e (.int .i64 ((i + 1 : Nat) : Int)))) (scn s (pos s (l.drop 1))) = some o →
          LL 133 1 lc_133_1 (((((List.replicate 22 AV.undef).set 0 (.ptr 0 0)).set 1 (.e (.str w))).set 6 (.e (.int .i64 w.length))).set 7 (.e (.int .i64 (i : Int)))) (scn s (pos s l)) = some o := by
        intro o ho
        refine loop_of_body ((eq_needL1 RR LL s (pos s l) w w.length i).trans (cond_run (lt_nat hi) (cond_run (in_nat hi) (cond_run (pos_ge hl) (cond_not ?_ ?_)))))
        · rw [pk_pos hl, at_nat, u8_eq, hc]; simp
        · rw [st1, wrap_nat hi (by rw [maxLen_eq]; omega)]
          exact bind_run ho rfl
      generalize hn : needL (w.drop (i + 1)) (l.drop 1) = pr at e ⊢
      cases pr with
      | ok a r => exact ⟨e.1, step _ e.2⟩
      | err e' r => exact ⟨e.1, step _ e.2⟩
    · rw [if_neg hc]
      refine ⟨hl, loop_of_body ((eq_needL1 RR LL s (pos s l) w w.length i).trans (cond_run (lt_nat hi) (cond_run (in_nat hi) (cond_run (pos_ge hl) (cond_run ?_ rfl)))))⟩
      rw [pk_pos hl, at_nat, u8_eq, beq_false_of_ne hc]; rfl

theorem need_run {s w l : List UInt8} (hs : s.length ≤ 100000) (hw : w.length ≤ 100000) (h0 : ∀ c ∈ w, c ≠ 0) (hl : l <:+ s) :
    Reads (RR none 133 [.ptr 0 0, str w] (scn s (pos s l))) s (fun _ : Unit => .tup []) (needL w l) := by
  have e := need_loop hs hw h0 w.length 0 l (by omega) hl
  rw [List.drop_zero] at e
  cases hn : needL w l with
  | ok a r =>
    rw [hn] at e
    exact ⟨e.1, run_of_body ((eq_need RR LL s (pos s l) w).trans (bind_run e.2 (cond_run rfl (cond_run rfl rfl))))⟩
  | err x r =>
    rw [hn] at e
    exact ⟨e.1, _, run_of_body ((eq_need RR LL s (pos s l) w).trans (bind_run e.2 (cond_not rfl (cond_run rfl (cond_run rfl rfl)))))⟩

/-! ### number -/

/-- What the loop over digits comes to: the number, whether it is too large, whether there was a digit. -/
def numLoop : List UInt8 → Int → Bool → Bool → Int × Bool × Bool
  | [], n, lg, sm => (n, lg, sm)
  | c :: r, n, lg, _ => if lg = true ∨ (4611686018427387904 - ((c.toNat : Int) - 48)).tdiv 10 < n then numLoop r n true true else numLoop r (10 * n + ((c.toNat : Int) - 48)) false true

theorem takeWhile_hd {p : UInt8 → Bool} {l : List UInt8} (h0 : p 0 = false) (h : p (hd l) = true) : l.takeWhile p = hd l :: (l.drop 1).takeWhile p ∧ l.dropWhile p = (l.drop 1).dropWhile p ∧ hd l ≠ 0 ∧ l ≠ [] := by
  cases l with
  | nil => rw [show hd [] = 0 from rfl, h0] at h; cases h
  | cons c l =>
    have hc : p c = true := h
    refine ⟨by rw [List.takeWhile_cons, hc]; rfl, by rw [List.dropWhile_cons, hc]; rfl, ?_, by simp⟩
    intro e
    rw [show hd (c :: l) = c from rfl] at e
    rw [e, h0] at hc; cases hc
theorem takeWhile_no {p : UInt8 → Bool} {l : List UInt8} (h : p (hd l) = false) : l.takeWhile p = [] ∧ l.dropWhile p = l := by
  cases l with
  | nil => exact ⟨rfl, rfl⟩
  | cons c l =>
    have hc : p c = false := h
    exact ⟨by rw [List.takeWhile_cons, hc]; rfl, by rw [List.dropWhile_cons, hc]; rfl⟩
theorem dig_int (c : UInt8) : (bif decide ((48 : Int) ≤ (c.toNat : Int)) then decide ((c.toNat : Int) ≤ 57) else false) = digC c := by
  unfold digC
  rw [bif_and]
  congr 1
  · by_cases h : 48 ≤ c
    · rw [decide_eq_true h]; exact dec_yes (by have := UInt8.le_iff_toNat_le.1 h; simp at this; omega)
    · rw [decide_eq_false h]; exact dec_no (fun h' => h (UInt8.le_iff_toNat_le.2 (by simp; omega)))
  · by_cases h : c ≤ 57
    · rw [decide_eq_true h]; exact dec_yes (by have := UInt8.le_iff_toNat_le.1 h; simp at this; omega)
    · rw [decide_eq_false h]; exact dec_no (fun h' => h (UInt8.le_iff_toNat_le.2 (by simp; omega)))
theorem u8sub : ∀ k : Nat, 48 ≤ k → k < 58 → IntKind.i64.wrap (IntKind.u8.wrap ((k : Int) - 48)) = (k : Int) - 48 := by
  intro k h1 h2
  have : k = 48 ∨ k = 49 ∨ k = 50 ∨ k = 51 ∨ k = 52 ∨ k = 53 ∨ k = 54 ∨ k = 55 ∨ k = 56 ∨ k = 57 := by omega
  rcases this with rfl | rfl | rfl | rfl | rfl | rfl | rfl | rfl | rfl | rfl <;> decide

theorem numLoop_range : ∀ (ds : List UInt8) (n : Int) (lg sm : Bool), (∀ c ∈ ds, digC c = true) → 0 ≤ n → n ≤ 4611686018427387904 → 0 ≤ (numLoop ds n lg sm).1 ∧ (numLoop ds n lg sm).1 ≤ 4611686018427387904
  | [], n, lg, sm, _, h0, h1 => ⟨h0, h1⟩
  | c :: ds, n, lg, sm, hd', h0, h1 => by
    have hc := hd' c (by simp)
    simp only [digC, Bool.and_eq_true, decide_eq_true_eq, UInt8.le_iff_toNat_le] at hc
    have c1 : 48 ≤ c.toNat := hc.1
    have c2 : c.toNat ≤ 57 := hc.2
    unfold numLoop
    split
    · exact numLoop_range ds n true true (fun x hx => hd' x (by simp [hx])) h0 h1
    · rename_i h
      refine numLoop_range ds _ false true (fun x hx => hd' x (by simp [hx])) (by omega) ?_
      have : ¬ (4611686018427387904 - ((c.toNat : Int) - 48)).tdiv 10 < n := fun h' => h (.inr h')
      rw [Int.tdiv_eq_ediv_of_nonneg (by omega)] at this
      omega

theorem number_loop {s : List UInt8} {p : Int} {g : Bool} (hs : s.length ≤ 100000) : ∀ (m : Nat) (l : List UInt8) (n : Int) (lg sm : Bool), l.length = m → l <:+ s → 0 ≤ n → n ≤ 4611686018427387904 →
    LL 144 1 lc_144_9 ((((((((List.replicate 71 AV.undef).set 0 (.ptr 0 0)).set 3 (.e (.int .i64 p))).set 4 (.e (.bool g))).set 5 (.e (.int .i64 n))).set 6 (.e (.bool lg))).set 7 (.e (.bool sm))).set 8 (.e (.int .u8 ((hd l).toNat : Int)))) (scn s (pos s l)) =
      some { ex := .exit 0, fr := [.ptr 0 0, AV.undef, AV.undef, num p, yes g, num (numLoop (l.takeWhile digC) n lg sm).1, yes (numLoop (l.takeWhile digC) n lg sm).2.1, yes (numLoop (l.takeWhile digC) n lg sm).2.2] ++ List.replicate 63 AV.undef, hp := scn s (pos s (l.dropWhile digC)), df := [] } := by
  intro m
  induction m with
  | zero =>
    intro l n lg sm h hl h0 h1
    have : l = [] := List.length_eq_zero_iff.1 h
    subst this
    exact loop_of_body ((eq_numberL9 RR LL s (pos s []) p g n lg sm _).trans (cond_not (by rw [dig_int]; rfl) rfl))
  | succ m ih =>
    intro l n lg sm h hl h0 h1
    refine loop_of_body ((eq_numberL9 RR LL s (pos s l) p g n lg sm _).trans ?_)
    cases hd1 : digC (hd l) with
    | false =>
      obtain ⟨t1, t2⟩ := takeWhile_no hd1
      rw [t1, t2]
      exact cond_not (by rw [dig_int, hd1]) rfl
    | true =>
      obtain ⟨t1, t2, nz, ne⟩ := takeWhile_hd (by decide) hd1
      obtain ⟨st1, st2⟩ := pos_step hl hs nz
      have hm : (l.drop 1).length = m := by rw [List.length_drop]; omega
      rw [t1, t2]
      refine cond_run (by rw [dig_int, hd1]) ?_
      have hc := hd1
      simp only [digC, Bool.and_eq_true, decide_eq_true_eq, UInt8.le_iff_toNat_le] at hc
      have c1 : 48 ≤ (hd l).toNat := hc.1
      have c2 : (hd l).toNat ≤ 57 := hc.2
      rw [u8sub _ c1 (by omega), st1, pk_pos st2, pos_ge st2]
      rw [wrap_in (n := 4611686018427387904 - (((hd l).toNat : Int) - 48)) (by omega) (by omega)]
      have q1 : 0 ≤ (4611686018427387904 - (((hd l).toNat : Int) - 48)).tdiv 10 ∧ (4611686018427387904 - (((hd l).toNat : Int) - 48)).tdiv 10 ≤ 4611686018427387904 := by
        rw [Int.tdiv_eq_ediv_of_nonneg (by omega)]; omega
      rw [wrap_in (n := (4611686018427387904 - (((hd l).toNat : Int) - 48)).tdiv 10) (by omega) (by omega)]
      unfold numLoop
      cases lg with
      | true =>
        rw [if_pos (.inl rfl)]
        exact cond_not rfl (cond_run rfl (bind_run (ih (l.drop 1) n true true hm st2 h0 h1) rfl))
      | false =>
        refine cond_run rfl ?_
        by_cases hb : (4611686018427387904 - (((hd l).toNat : Int) - 48)).tdiv 10 < n
        · rw [if_pos (.inr hb)]
          exact cond_run (dec_yes hb) (cond_run rfl (bind_run (ih (l.drop 1) n true true hm st2 h0 h1) rfl))
        · rw [if_neg (by rintro (h | h); cases h; exact hb h)]
          have hb' := hb
          rw [Int.tdiv_eq_ediv_of_nonneg (by omega)] at hb'
          rw [wrap_in (n := 10 * n) (by omega) (by omega), wrap_in (n := 10 * n + (((hd l).toNat : Int) - 48)) (by omega) (by omega)]
          exact cond_not (dec_no hb) (cond_run rfl (bind_run (ih (l.drop 1) _ false true hm st2 (by omega) (by omega)) rfl))

theorem numLoop_val : ∀ (ds : List UInt8) (n : Nat) (sm : Bool), (∀ c ∈ ds, digC c = true) → n ≤ 4611686018427387904 →
    (numLoop ds n false sm).2.1 = decide (4611686018427387904 < decV n ds) ∧ (decV n ds ≤ 4611686018427387904 → (numLoop ds n false sm).1 = decV n ds) ∧ (numLoop ds n false sm).2.2 = (sm || !ds.isEmpty)
  | [], n, sm, _, h => ⟨(dec_no (by simp [decV]; omega)).symm, fun _ => rfl, by simp [numLoop]⟩
  | c :: ds, n, sm, hd', h => by
    have hc := hd' c (by simp)
    simp only [digC, Bool.and_eq_true, decide_eq_true_eq, UInt8.le_iff_toNat_le] at hc
    have c1 : 48 ≤ c.toNat := hc.1
    have c2 : c.toNat ≤ 57 := hc.2
    have big : ∀ (ds : List UInt8) (m : Nat), m ≤ decV m ds := by
      intro ds
      induction ds with
      | nil => intro m; exact Nat.le_refl _
      | cons d ds ih => intro m; exact Nat.le_trans (by omega) (ih (10 * m + (d.toNat - 48)))
    have lgs : ∀ (ds : List UInt8) (m : Int) (sm : Bool), (numLoop ds m true sm).2.1 = true ∧ (numLoop ds m true true).2.2 = true := by
      intro ds
      induction ds with
      | nil => intro m sm; exact ⟨rfl, rfl⟩
      | cons d ds ih => intro m sm; unfold numLoop; rw [if_pos (.inl rfl)]; exact ⟨(ih m true).1, (ih m true).2⟩
    have sms : ∀ (ds : List UInt8) (m : Int) (lg : Bool), (numLoop ds m lg true).2.2 = true := by
      intro ds
      induction ds with
      | nil => intro m lg; rfl
      | cons d ds ih => intro m lg; unfold numLoop; split <;> exact ih _ _
    have e : decV n (c :: ds) = decV (10 * n + (c.toNat - 48)) ds := rfl
    rw [e]
    unfold numLoop
    by_cases hb : (4611686018427387904 - ((c.toNat : Int) - 48)).tdiv 10 < (n : Int)
    · rw [if_pos (.inr hb)]
      rw [Int.tdiv_eq_ediv_of_nonneg (by omega)] at hb
      have := big ds (10 * n + (c.toNat - 48))
      refine ⟨by rw [(lgs ds n true).1]; exact (dec_yes (by omega)).symm, fun h' => by omega, by rw [sms]; simp⟩
    · rw [if_neg (by rintro (h | h); cases h; exact hb h)]
      rw [Int.tdiv_eq_ediv_of_nonneg (by omega)] at hb
      have e2 : 10 * (n : Int) + ((c.toNat : Int) - 48) = ((10 * n + (c.toNat - 48) : Nat) : Int) := by omega
      rw [e2]
      obtain ⟨k1, k2, k3⟩ := numLoop_val ds (10 * n + (c.toNat - 48)) true (fun x hx => hd' x (by simp [hx])) (by omega)
      exact ⟨k1, k2, by rw [k3]; simp⟩

theorem number_run {s l : List UInt8} (hs : s.length ≤ 100000) (hl : l <:+ s) : Reads (RR none 144 [.ptr 0 0] (scn s (pos s l))) s num (numL l) := by
  refine reads_of (eq_number RR LL s (pos s l)) (condR (pos_ge hl) ?_)
  rw [pk_pos hl]
  have e45 : ((((hd l).toNat : Int)) == 45) = (hd l == 45) := u8_eq (b := 45)
  have e48 : ∀ l : List UInt8, ((((hd l).toNat : Int)) == 48) = (hd l == 48) := fun l => u8_eq (b := 48)
  -- behind the sign
  have main : ∀ (g : Bool) (l1 : List UInt8), l1 <:+ s → hd l1 ≠ 48 → ∀ (p0 : Int), p0 = pos s l →
      Reads ((LL 144 1 lc_144_9 ((((((((List.replicate 71 AV.undef).set 0 (.ptr 0 0)).set 3 (.e (.int .i64 p0))).set 4 (.e (.bool g))).set 5 (.e (.int .i64 0))).set 6 (.e (.bool false))).set 7 (.e (.bool false))).set 8 (.e (.int .u8 ((hd l1).toNat : Int)))) (scn s (pos s l1))).bind fun o =>
        bif o.ex.isWay (Way.exit 0) then bif okFr ([.ptr 0 0, AV.undef, AV.undef, num 0, yes false, num 0, yes false, yes false] ++ List.replicate 63 AV.undef) o.2 && okHeap (scn [] 0) o.3 then
          bif !(List.getD o.fr 7 AV.undef).data.toBool then some (Res.pan (.ifc 150 (.agg [E.int IntKind.i64 2, E.int IntKind.i64 ((o.hp.ob 0).cell 1).data.toInt].reverse)), [Ob.box [str (((o.hp.ob 0).cell 0).data.toStr), num (((o.hp.ob 0).cell 1).data.toInt)]])
          else bif (List.getD o.fr 6 AV.undef).data.toBool then some (Res.pan (.ifc 150 (.agg [E.int IntKind.i64 1, E.int IntKind.i64 (List.getD o.fr 3 AV.undef).data.toInt].reverse)), [Ob.box [str (((o.hp.ob 0).cell 0).data.toStr), num (((o.hp.ob 0).cell 1).data.toInt)]])
          else bif (List.getD o.fr 4 AV.undef).data.toBool then some (Res.ret (num (IntKind.i64.wrap (0 - (List.getD o.fr 5 AV.undef).data.toInt))), [Ob.box [str (((o.hp.ob 0).cell 0).data.toStr), num (((o.hp.ob 0).cell 1).data.toInt)]])
          else some (Res.ret (num ((List.getD o.fr 5 AV.undef).data.toInt)), [Ob.box [str (((o.hp.ob 0).cell 0).data.toStr), num (((o.hp.ob 0).cell 1).data.toInt)]]) else none else none)
        s num (if l1.takeWhile digC = [] then .err 2 l1 else if 4611686018427387904 < decV 0 (l1.takeWhile digC) then .err 1 l else .ok (if g = true then -(decV 0 (l1.takeWhile digC) : Int) else decV 0 (l1.takeWhile digC)) (l1.dropWhile digC)) := by
    rintro g l1 h1 h48 p0 rfl
    rw [number_loop hs l1.length l1 0 false false rfl h1 (by omega) (by omega)]
    have hall := takeWhile_all (p := digC) l1
    obtain ⟨v1, v2, v3⟩ := numLoop_val (l1.takeWhile digC) 0 false hall (by omega)
    have hr := numLoop_range (l1.takeWhile digC) 0 false false hall (by omega) (by omega)
    have hsuf : l1.dropWhile digC <:+ s := (List.dropWhile_suffix digC).trans h1
    change Reads (bif !(numLoop (l1.takeWhile digC) ((0 : Nat) : Int) false false).2.2 then some (Res.pan (flt (pos s (l1.dropWhile digC)) 2), scn s (pos s (l1.dropWhile digC)))
      else bif (numLoop (l1.takeWhile digC) ((0 : Nat) : Int) false false).2.1 then some (Res.pan (flt (pos s l) 1), scn s (pos s (l1.dropWhile digC)))
      else bif g then some (Res.ret (num (IntKind.i64.wrap (0 - (numLoop (l1.takeWhile digC) ((0 : Nat) : Int) false false).1))), scn s (pos s (l1.dropWhile digC))) else some (Res.ret (num (numLoop (l1.takeWhile digC) ((0 : Nat) : Int) false false).1), scn s (pos s (l1.dropWhile digC)))) s num _
    change 0 ≤ (numLoop (l1.takeWhile digC) ((0 : Nat) : Int) false false).1 ∧ (numLoop (l1.takeWhile digC) ((0 : Nat) : Int) false false).1 ≤ 4611686018427387904 at hr
    rw [v3, v1]
    by_cases hne : l1.takeWhile digC = []
    · rw [if_pos hne]
      have e : l1.dropWhile digC = l1 := by
        have := List.takeWhile_append_dropWhile (p := digC) (l := l1)
        rw [hne] at this; simpa using this
      rw [hne, e]
      exact ⟨h1, _, rfl⟩
    · rw [if_neg hne]
      have hemp : (l1.takeWhile digC).isEmpty = false := by
        cases hh : l1.takeWhile digC with
        | nil => exact absurd hh hne
        | cons _ _ => rfl
      rw [hemp]
      refine condR' rfl ?_
      by_cases hbig : 4611686018427387904 < decV 0 (l1.takeWhile digC)
      · rw [if_pos hbig, dec_yes hbig]
        exact ⟨hl, _, rfl⟩
      · rw [if_neg hbig, dec_no hbig, v2 (by omega)]
        cases g with
        | true =>
          refine ⟨hsuf, ?_⟩
          show some (Res.ret (num (IntKind.i64.wrap (0 - (decV 0 (l1.takeWhile digC) : Int)))), _) = _
          rw [wrap_in (by omega) (by omega)]
          rw [show (0 : Int) - (decV 0 (l1.takeWhile digC) : Int) = -(decV 0 (l1.takeWhile digC) : Int) by omega]
          rfl
        | false => exact ⟨hsuf, rfl⟩
  unfold numL
  dsimp only
  cases hg : (hd l == 45) with
  | false =>
    rw [e45, hg]
    refine condR rfl (condR (pos_ge hl) ?_)
    rw [e48]
    simp only [Bool.false_eq_true, if_false]
    by_cases h48 : hd l = 48
    · rw [if_pos h48, h48]
      obtain ⟨st1, st2⟩ := pos_step hl hs (by rw [h48]; decide)
      refine condR' rfl ?_
      rw [st1]
      exact ⟨st2, rfl⟩
    · rw [if_neg h48, beq_false_of_ne h48]
      refine condR rfl (condR (pos_ge hl) ?_)
      exact main false l hl h48 _ rfl
  | true =>
    have h45 : hd l = 45 := by simpa using hg
    rw [e45, hg]
    obtain ⟨st1, st2⟩ := pos_step hl hs (by rw [h45]; decide)
    refine condR' rfl ?_
    rw [st1]
    refine condR (pos_ge st2) ?_
    rw [pk_pos st2, e48]
    simp only [if_true]
    by_cases h48 : hd (l.drop 1) = 48
    · rw [if_pos h48, h48]
      obtain ⟨st3, st4⟩ := pos_step st2 hs (by rw [h48]; decide)
      refine condR' rfl ⟨st2, pos s ((l.drop 1).drop 1), ?_⟩
      rw [st3]
      have : IntKind.i64.wrap (pos s ((l.drop 1).drop 1) - 1) = pos s (l.drop 1) := by
        have h1 := st2.length_le
        have hne : l.drop 1 ≠ [] := by rintro e; rw [e] at h48; revert h48; decide
        have h2 := List.length_pos_iff.2 hne
        have h3 : ((l.drop 1).drop 1).length = (l.drop 1).length - 1 := List.length_drop
        unfold pos
        rw [h3, wrap_in (by omega) (by omega)]
        omega
      rw [this]
      rfl
    · rw [if_neg h48, beq_false_of_ne h48]
      refine condR rfl (condR (pos_ge st2) ?_)
      exact main true (l.drop 1) st2 h48 _ rfl

end Go.Proofs.YtghdhhmlmdohkaaGreatDoor
