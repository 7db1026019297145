/- Copies: of a schema, of a registry. -/
import Derived.Test.YtapndkailgcboaaGreatDoorRb
namespace Go.Proofs.YtapndkailgcboaaGreatDoor
open Go Go.Den
set_option maxRecDepth 100000

/-- A schema whose lists are short. -/
inductive Sm : E → Prop
  | mk (k mn mx : Int) (os fs gs : List E) (ho : os.length ≤ 16) (hf : fs.length ≤ 16) (hg : gs.length ≤ 16) (hfs : ∀ x ∈ fs, Sm x) (hgs : ∀ x ∈ gs, Sm (fieldTy x)) (hgn : ∀ x ∈ gs, ∃ n op cs, x = .agg (.str n :: .bool op :: cs)) :
    Sm (.agg [.int .i64 k, .int .i64 mn, .int .i64 mx, .sl 9 os, .sl 31 fs, .sl 65 gs])
theorem Ful.sm : ∀ {d : Nat} {x : E}, Ful 9 31 65 d x → Sm x
  | 0, _, h => h.elim
  | d + 1, x, h => by
    rcases h with ⟨_, _, rfl, _⟩ | ⟨_, _, rfl, _⟩ | rfl | ⟨os, rfl, _, h2, _⟩ | ⟨_, _, y, rfl, _, _, _, hy⟩ | ⟨gs, rfl, h1, _, h2⟩ | rfl
    · exact .mk _ _ _ _ _ _ (Nat.zero_le _) (Nat.zero_le _) (Nat.zero_le _) (fun x h => by cases h) (fun x h => by cases h) (fun x h => by cases h)
    · exact .mk _ _ _ _ _ _ (Nat.zero_le _) (Nat.zero_le _) (Nat.zero_le _) (fun x h => by cases h) (fun x h => by cases h) (fun x h => by cases h)
    · exact .mk _ _ _ _ _ _ (Nat.zero_le _) (Nat.zero_le _) (Nat.zero_le _) (fun x h => by cases h) (fun x h => by cases h) (fun x h => by cases h)
    · exact .mk _ _ _ _ _ _ h2 (Nat.zero_le _) (Nat.zero_le _) (fun x h => by cases h) (fun x h => by cases h) (fun x h => by cases h)
    · exact .mk _ _ _ _ _ _ (Nat.zero_le _) (by simp) (Nat.zero_le _) (fun x h => by rw [List.mem_singleton.1 h]; exact Ful.sm hy) (fun x h => by cases h) (fun x h => by cases h)
    · refine .mk _ _ _ _ _ _ (Nat.zero_le _) (Nat.zero_le _) h1 (fun x h => by cases h) (fun x h => ?_) (fun x h => ?_)
      · obtain ⟨n, o, y, rfl, _, _, hy⟩ := h2 x h
        rw [hy.fieldTy]; exact Ful.sm hy
      · obtain ⟨n, o, y, rfl, _, _, hy⟩ := h2 x h
        obtain ⟨cs, rfl⟩ := hy.agg
        exact ⟨n, o, _, rfl⟩
    · exact .mk _ _ _ _ _ _ (Nat.zero_le _) (Nat.zero_le _) (Nat.zero_le _) (fun x h => by cases h) (fun x h => by cases h) (fun x h => by cases h)

theorem el31 (k mn mx : Int) (os fs gs : List E) : elems PP 31 6 1 [E.int .i64 k, E.int .i64 mn, E.int .i64 mx, E.sl 9 os, E.sl 31 fs, E.sl 65 gs] = [.agg [E.int .i64 k, E.int .i64 mn, E.int .i64 mx, E.sl 9 os, E.sl 31 fs, E.sl 65 gs]] := by
  unfold elems; rw [show isAggB PP 31 = true from aggT]; rfl
theorem el65 (n : List UInt8) (o : Bool) (k mn mx : Int) (os fs gs : List E) : elems PP 65 8 1 [E.str n, E.bool o, E.int .i64 k, E.int .i64 mn, E.int .i64 mx, E.sl 9 os, E.sl 31 fs, E.sl 65 gs] = [.agg [E.str n, E.bool o, E.int .i64 k, E.int .i64 mn, E.int .i64 mx, E.sl 9 os, E.sl 31 fs, E.sl 65 gs]] := by
  unfold elems; rw [show isAggB PP 65 = true from aggF]; rfl
theorem el46 (n f : List UInt8) (m : Int) (vs : List E) : elems PP 46 4 1 [E.str n, E.str f, E.int .i64 m, E.sl 31 vs] = [.agg [E.str n, E.str f, E.int .i64 m, E.sl 31 vs]] := by
  unfold elems; rw [show isAggB PP 46 = true from aggU]; rfl

abbrev tyB (k mn mx : Int) (os fs gs : List E) : Ob := .box [num k, num mn, num mx, .e (.sl 9 os), .e (.sl 31 fs), .e (.sl 65 gs)]
abbrev tyO (i j l : Nat) (k mn mx : Int) (os fs gs : List E) : Ob := .box [num k, num mn, num mx, .own i 9 os, .own j 31 fs, .own l 65 gs]
abbrev c5H (k mn mx : Int) (os fs gs a : List E) : Heap := [tyB k mn mx os fs gs, tyO 3 4 5 0 0 0 [] [] [], .box [num k, num mn, num mx, .e (.sl 9 os), .own 6 31 a, .e (.sl 65 gs)], .vec 9 0, .vec 31 0, .vec 65 0, .vec 31 a.length]
abbrev c11H (k mn mx : Int) (os fs a : List E) : Heap := [tyO 2 3 4 0 0 0 [] [] [], .box [num k, num mn, num mx, .e (.sl 9 os), .own 5 31 fs, .own 6 65 a], .vec 9 0, .vec 31 0, .vec 65 0, .vec 31 fs.length, .vec 65 a.length]

theorem clone5 (k mn mx : Int) (os fs gs : List E) (hl : fs.length ≤ 16) (hs : ∀ x ∈ fs, Sm x) (ih : ∀ x ∈ fs, RR none 43 [slotsOf x] [] = some (.ret (slotsOf x), [])) : ∀ (j i : Nat), i + j = fs.length →
    LL 43 0 lc_43_5 (((((((List.replicate 49 AV.undef).set 1 (.ptr 0 0)).set 2 (.ptr 1 0)).set 3 (.ptr 2 0)).set 15 (.e (.sl 31 fs))).set 16 (.e (.int .i64 (fs.length : Int)))).set 17 (.e (.int .i64 (i : Int)))) (c5H k mn mx os fs gs (fs.take i)) =
      some { ex := .exit 0, fr := [AV.undef, AV.ptr 0 0, AV.ptr 1 0, AV.ptr 2 0] ++ List.replicate 45 AV.undef, hp := c5H k mn mx os fs gs fs, df := [] } := by
  intro j
  induction j with
  | zero =>
    intro i h
    have : i = fs.length := by omega
    subst this
    rw [List.take_length]
    exact loop_of_body ((eq_cloneL5 RR LL fs fs.length fs.length k mn mx os fs gs 0 0 0 [] [] [] k mn mx os fs gs).trans (cond_not (nat_end _) rfl))
  | succ j ihj =>
    intro i h
    have hi : i < fs.length := by omega
    have body := eq_cloneL5 RR LL fs fs.length i k mn mx os fs gs 0 0 0 [] [] [] k mn mx os (fs.take i) gs
    have w : IntKind.i64.wrap ((i : Int) + 1) = ((i + 1 : Nat) : Int) := by rw [wrap_in (by omega) (by omega)]; omega
    rw [nat_at, w] at body
    have c := ih _ (getD_mem hi)
    have e : fs.take (i + 1) = fs.take i ++ [fs.getD i E.nili] := by
      rw [List.take_add_one, List.getElem?_eq_getElem hi, List.getD_eq_getElem?_getD, List.getElem?_eq_getElem hi]; rfl
    have r := ihj (i + 1) (by omega)
    rw [e] at r
    have sm := hs _ (getD_mem hi)
    generalize fs.getD i E.nili = x at body c r sm
    cases sm with
    | mk k' mn' mx' os' fs' gs' _ _ _ _ _ _ =>
    have tl : (fs.take i).length ≤ 16 := by rw [List.length_take]; omega
    refine loop_of_body (body.trans (cond_run (nat_lt hi) (cond_run (nat_in hi) (bind_run c (cond_run rfl (cond_run (by kernel_rfl) (cond_run ?_ ?_)))))))
    · show (decide ((fs.take i).length = (fs.take i).length) && decide (((fs.take i).length + (elems PP 31 6 1 [E.int .i64 k', E.int .i64 mn', E.int .i64 mx', E.sl 9 os', E.sl 31 fs', E.sl 65 gs']).length) * 96 ≤ 140737488355328)) = true
      rw [el31, dec_yes rfl, dec_yes (by simp; omega)]; rfl
    · have q := el31 k' mn' mx' os' fs' gs'
      show (Option.bind (LL 43 0 lc_43_5 ([AV.undef, AV.ptr 0 0, AV.ptr 1 0, AV.ptr 2 0] ++ List.replicate 11 AV.undef ++ [AV.e (E.sl 31 fs), num (fs.length : Int), num ((i + 1 : Nat) : Int)] ++ List.replicate 31 AV.undef)
        (c5H k mn mx os fs gs (fs.take i ++ elems PP 31 6 1 [E.int .i64 k', E.int .i64 mn', E.int .i64 mx', E.sl 9 os', E.sl 31 fs', E.sl 65 gs']))) fun o => some o) = _
      rw [q]
      exact bind_run r rfl

theorem clone11 (k mn mx : Int) (os fs gs : List E) (hl : gs.length ≤ 16) (hs : ∀ x ∈ gs, Sm (fieldTy x)) (hn : ∀ x ∈ gs, ∃ n op cs, x = .agg (.str n :: .bool op :: cs)) (ih : ∀ x ∈ gs, RR none 43 [slotsOf (fieldTy x)] [] = some (.ret (slotsOf (fieldTy x)), [])) : ∀ (j i : Nat), i + j = gs.length →
    LL 43 0 lc_43_11 ((((((List.replicate 49 AV.undef).set 2 (.ptr 0 0)).set 3 (.ptr 1 0)).set 31 (.e (.sl 65 gs))).set 32 (.e (.int .i64 (gs.length : Int)))).set 33 (.e (.int .i64 (i : Int)))) (c11H k mn mx os fs (gs.take i)) =
      some { ex := .exit 2, fr := [AV.undef, AV.undef, AV.ptr 0 0, AV.ptr 1 0] ++ List.replicate 45 AV.undef, hp := c11H k mn mx os fs gs, df := [] } := by
  intro j
  induction j with
  | zero =>
    intro i h
    have : i = gs.length := by omega
    subst this
    rw [List.take_length]
    exact loop_of_body ((eq_cloneL11 RR LL gs gs.length gs.length 0 0 0 [] [] [] k mn mx os fs gs).trans (cond_not (nat_end _) rfl))
  | succ j ihj =>
    intro i h
    have hi : i < gs.length := by omega
    have body := eq_cloneL11 RR LL gs gs.length i 0 0 0 [] [] [] k mn mx os fs (gs.take i)
    have w : IntKind.i64.wrap ((i : Int) + 1) = ((i + 1 : Nat) : Int) := by rw [wrap_in (by omega) (by omega)]; omega
    rw [nat_at, w] at body
    have c := ih _ (getD_mem hi)
    have e : gs.take (i + 1) = gs.take i ++ [gs.getD i E.nili] := by
      rw [List.take_add_one, List.getElem?_eq_getElem hi, List.getD_eq_getElem?_getD, List.getElem?_eq_getElem hi]; rfl
    have r := ihj (i + 1) (by omega)
    rw [e] at r
    have sm := hs _ (getD_mem hi)
    obtain ⟨n, op, cs, hx⟩ := hn _ (getD_mem hi)
    generalize gs.getD i E.nili = x at body c r sm hx
    subst hx
    change Sm (.agg cs) at sm
    cases sm with
    | mk k' mn' mx' os' fs' gs' _ _ _ _ _ _ =>
    have tl : (gs.take i).length ≤ 16 := by rw [List.length_take]; omega
    refine loop_of_body (body.trans (cond_run (nat_lt hi) (cond_run (nat_in hi) (bind_run c (cond_run rfl (cond_run (by kernel_rfl) (cond_run ?_ ?_)))))))
    · show (decide ((gs.take i).length = (gs.take i).length) && decide (((gs.take i).length + (elems PP 65 8 1 [E.str n, E.bool op, E.int .i64 k', E.int .i64 mn', E.int .i64 mx', E.sl 9 os', E.sl 31 fs', E.sl 65 gs']).length) * 120 ≤ 140737488355328)) = true
      rw [el65, dec_yes rfl, dec_yes (by simp; omega)]; rfl
    · have q := el65 n op k' mn' mx' os' fs' gs'
      show (Option.bind (LL 43 0 lc_43_11 ([AV.undef, AV.undef, AV.ptr 0 0, AV.ptr 1 0] ++ List.replicate 27 AV.undef ++ [AV.e (E.sl 65 gs), num (gs.length : Int), num ((i + 1 : Nat) : Int)] ++ List.replicate 15 AV.undef)
        (c11H k mn mx os fs (gs.take i ++ elems PP 65 8 1 [E.str n, E.bool op, E.int .i64 k', E.int .i64 mn', E.int .i64 mx', E.sl 9 os', E.sl 31 fs', E.sl 65 gs']))) fun o => some o) = _
      rw [q]
      exact bind_run r rfl

theorem clone_run {e : E} (h : Sm e) : RR none 43 [slotsOf e] [] = some (.ret (slotsOf e), []) := by
  induction h with
  | mk k mn mx os fs gs ho hf hg hfs hgs hgn ihf ihg =>
    have e5 := clone5 k mn mx os fs gs hf hfs ihf fs.length 0 (by omega)
    have e11 := clone11 k mn mx os fs gs hg hgs hgn ihg gs.length 0 (by omega)
    rw [List.take_zero] at e5 e11
    exact run_of_body ((eq_clone RR LL k mn mx os fs gs).trans (cond_run (dec_yes (by omega)) (bind_run e5 (cond_run rfl (cond_run rfl (bind_run e11 (cond_run rfl (cond_run rfl rfl))))))))

end Go.Proofs.YtapndkailgcboaaGreatDoor
