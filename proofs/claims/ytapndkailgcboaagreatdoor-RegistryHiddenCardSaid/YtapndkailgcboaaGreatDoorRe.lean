/- Find: the program's and the reference's. -/
import Derived.Test.YtapndkailgcboaaGreatDoorRd
namespace Go.Proofs.YtapndkailgcboaaGreatDoor
open Go Go.Den
set_option maxRecDepth 100000

abbrev mq (t : List UInt8) (e : E) : Bool := Top.matchS (sF e) t
theorem idxG_loop (xs : List E) (n : List UInt8) (hl : xs.length ≤ maxLen) :
    LL 44 1 lc_44_2 (((((List.replicate 19 AV.undef).set 0 (.e (.sl 46 xs))).set 1 (.clo 45 [(0, 0)])).set 7 (.e (.int .i64 (xs.length : Int)))).set 8 (.e (.int .i64 0))) [.box [.e (.str n)]] =
      some (((firstO (fun i => if mq n (xs.getD i E.nili) = true then some (i : Int) else none) xs.length 0).map (fxR n)).getD (fxX 19 n)) := by
  refine scan_inv (G := fun i => LL 44 1 lc_44_2 (((((List.replicate 19 AV.undef).set 0 (.e (.sl 46 xs))).set 1 (.clo 45 [(0, 0)])).set 7 (.e (.int .i64 (xs.length : Int)))).set 8 (.e (.int .i64 (i : Int)))) [.box [.e (.str n)]]) ?_ ?_
  · intro i hi _ r h
    have body := eq_idxGL2 RR LL xs xs.length i n
    have c : RR none 45 [suS (xs.getD i E.nili), .ptr 0 0] [.box [str n]] = some (.ret (yes (mq n (xs.getD i E.nili))), [.box [str n]]) :=
      run_of_body ((eq_idxGC RR LL n _ _ _ _).trans (callB (Top.Matches_run _ n) rfl))
    rw [nat_at, nat_wrap hi hl] at body
    refine loop_of_body (body.trans (cond_run (nat_lt hi) (cond_run (nat_in hi) (bind_run c (cond_run rfl (cond_run (okBool _) ?_))))))
    show (bif mq n (xs.getD i E.nili) then _ else _) = _
    cases hq : mq n (xs.getD i E.nili) with
    | true => simp only [hq, if_true] at h; exact cond_run rfl h
    | false => simp only [hq, Bool.false_eq_true, if_false] at h; exact cond_not rfl (bind_run h rfl)
  · exact loop_of_body ((eq_idxGL2 RR LL xs xs.length xs.length n).trans (cond_not (nat_end _) rfl))
theorem idxG_run (xs : List E) (n : List UInt8) (hl : xs.length ≤ maxLen) : RR none 44 [.e (.sl 46 xs), .clo 45 [(0, 0)]] [.box [str n]] = some (.ret (num (ixS (mq n) xs)), [.box [str n]]) := by
  refine run_of_body ((eq_idxG RR LL xs n).trans (bind_run (idxG_loop xs n hl) ?_))
  unfold ixS
  cases firstO (fun i => if mq n (xs.getD i E.nili) = true then some (i : Int) else none) xs.length 0 <;> rfl

def su0 : E := .agg [.str [], .str [], .int .i64 0, .sl 31 []]
def fndE (xs : List E) (t : List UInt8) : E := if 0 ≤ ixS (mq t) xs then xs.getD (ixS (mq t) xs).toNat E.nili else su0
def fndB (xs : List E) (t : List UInt8) : Bool := decide (0 ≤ ixS (mq t) xs)
abbrev fndA (xs : List E) (t : List UInt8) : AV := .tup [suS (fndE xs t), yes (fndB xs t)]

theorem Find_run {xs : List E} (t : List UInt8) (hl : xs.length ≤ 1000) (hs : ∀ x ∈ xs, SuS x) : RR none 23 [.e (.sl 46 xs), str t] [] = some (.ret (fndA xs t), []) := by
  refine run_of_body ((eq_Find RR LL xs t).trans (bind_run (idxG_run xs t (by rw [maxLen_eq]; omega)) (cond_run rfl (cond_run (okInt _) ?_))))
  show (bif decide (ixS (mq t) xs < 0) then _ else _) = _
  unfold fndA fndE fndB
  rcases ixS_cases (mq t) xs with ⟨h1, _⟩ | ⟨j, h1, h2, h3, _⟩
  · rw [h1]
    exact cond_run (by decide) rfl
  · have d0 : decide ((0 : Int) ≤ (j : Int)) = true := dec_yes (by omega)
    rw [h1, if_pos (show (0 : Int) ≤ (j : Int) by omega), nat_at, d0]
    have w : IntKind.i64.wrap ((j : Int) + 1) = ((j + 1 : Nat) : Int) := by rw [wrap_in (by omega) (by omega)]; omega
    refine cond_not (dec_no (by omega)) (cond_run ?_ ?_)
    · show (decide ((0 : Int) ≤ (j : Int)) && decide ((j : Int) ≤ IntKind.i64.wrap ((j : Int) + 1)) && decide (IntKind.i64.wrap ((j : Int) + 1) ≤ (xs.length : Int))) = true
      rw [w, dec_yes (by omega), dec_yes (by omega), dec_yes (by omega)]; rfl
    · have e : List.drop j (List.take (j + 1) xs) = [xs.getD j E.nili] := by
        rw [List.take_add_one, List.getElem?_eq_getElem h2, List.drop_append_of_le_length (by rw [List.length_take]; omega), List.getD_eq_getElem?_getD, List.getElem?_eq_getElem h2]
        rw [List.drop_eq_nil_of_le (by rw [List.length_take]; omega)]; rfl
      have c := copies_run (xs := [xs.getD j E.nili]) (by simp) (fun x hx => by rw [List.mem_singleton.1 hx]; exact hs _ (getD_mem h2))
      show (Option.bind (RR none 41 [AV.e (E.sl 46 (List.drop ((j : Int)).toNat (List.take (IntKind.i64.wrap ((j : Int) + 1)).toNat xs)))] []) _) = _
      rw [w, nat_at, nat_at, e]
      exact bind_run c (cond_run rfl (cond_not rfl (cond_run rfl (cond_run rfl rfl))))

def rfX' (k : Nat) : Out := { ex := .exit 0, fr := [AV.undef, AV.undef, AV.undef, AV.undef, AV.ptr 0 0] ++ List.replicate k AV.undef, hp := [.box [str [], str [], num 0, .own 1 31 []], .vec 31 0], df := [] }
def rfR' (xs : List E) (i : Int) : Out := { ex := .ret, fr := [AV.undef, AV.undef, AV.undef, AV.undef, AV.ptr 0 0, yes true] ++ List.replicate 19 AV.undef, hp := [.box [str (sN (xs.getD i.toNat E.nili)), str (sF (xs.getD i.toNat E.nili)), num (sM (xs.getD i.toNat E.nili)), .e (.sl 31 (sV (xs.getD i.toNat E.nili)))]], df := [] }
end Go.Proofs.YtapndkailgcboaaGreatDoor
