/- The program's readers of fields. -/
import Derived.Test.YtmocefjnplmibaaGreatDoorPf
import Derived.Test.YtmocefjnplmibaaGreatDoorPa
import Derived.Test.YtmocefjnplmibaaGreatDoorRb
namespace Go.Proofs.YtmocefjnplmibaaGreatDoor
open Go Go.Den
set_option maxRecDepth 100000

/-! ### canonical -/

theorem canonical_run (s : S8) (hl : s.length ≤ 100000) : RR none 122 [str s] [] = some (.ret (yes (numC s)), []) := by
  refine run_of_body ((eq_canonical RR LL s).trans ?_)
  have fin : ∀ t : S8, t.length ≤ 100000 → (LL 122 0 lc_122_5 (((List.replicate 34 AV.undef).set 3 (str t)).set 4 (num 0)) []).bind (fun o =>
      bif o.ex.isWay (Way.exit 0) then bif okFr (List.replicate 34 uu) o.2 && okHeap [] o.3 then some (Res.ret (AV.e (E.bool true)), ([] : Heap)) else none
      else bif o.ex.isWay Way.ret then bif okFr ([uu, uu, (yes false)] ++ List.replicate 31 uu) o.2 && okHeap [] o.3 then some (Res.ret (yes (List.getD o.fr 2 uu).data.toBool), []) else none else none) = some (.ret (yes (t.all digB)), []) := by
    intro t ht
    refine bind_run (canon_loop t ht) ?_
    cases t.all digB <;> rfl
  cases hs : s with
  | nil => rfl
  | cons x xs =>
  rw [← hs]
  have h1 : 0 < s.length := by rw [hs]; simp
  have htk : List.drop 0 (List.take 1 s) = [x] := by rw [hs]; rfl
  have hg : s.getD 0 0 = x := by rw [hs]; rfl
  rw [nat_at, List.take_length, htk, strEq_dec]
  refine cond_run (by rw [dec_yes (by omega)]; rfl) (cond_run (dec_yes (by omega)) ?_)
  by_cases hx : x = 45
  · have hm : s.drop 1 = magS s := by unfold magS; rw [if_pos (by rw [hg]; exact hx)]
    rw [hm]
    refine cond_run (dec_yes (by rw [hx])) (cond_run (by rw [dec_yes (by omega), dec_yes (by omega)]; rfl) ?_)
    have hs48 : s ≠ [48] := by intro e; rw [hs] at e; injection e with e _; rw [hx] at e; cases e
    have e48 := byte_is (c := (magS s).getD 0 0) (n := 48) (by decide)
    change ((((magS s).getD 0 0).toNat : Int) == 48) = decide ((magS s).getD 0 0 = 48) at e48
    rw [e48]
    unfold numC
    have hml : (magS s).length ≤ 100000 := by rw [← hm, List.length_drop]; omega
    cases he : strEq (magS s) [] with
    | true => exact cond_not rfl rfl
    | false =>
      have hne : 0 < (magS s).length := by
        rw [strEq_dec] at he
        exact List.length_pos_iff.2 (of_decide_eq_false he)
      refine cond_run rfl (cond_run (dec_yes (by omega)) ?_)
      have hn : strEq s [48] = false := by rw [strEq_dec, dec_no hs48]
      rw [hn]
      cases decide ((magS s).getD 0 0 = 48) with
      | true => exact cond_run rfl rfl
      | false => exact cond_not rfl (fin _ hml)
  · have hm : magS s = s := by unfold magS; rw [if_neg (by rw [hg]; exact hx)]
    have e48 := byte_is (c := s.getD 0 0) (n := 48) (by decide)
    change (((s.getD 0 0).toNat : Int) == 48) = decide (s.getD 0 0 = 48) at e48
    rw [e48]
    refine cond_not (dec_no (by intro e; injection e with e; exact hx e)) ?_
    unfold numC
    rw [hm]
    have he : strEq s [] = false := by rw [strEq_dec, dec_no (by rw [hs]; simp)]
    rw [he]
    refine cond_run rfl (cond_run (dec_yes (by omega)) ?_)
    cases h48 : decide (s.getD 0 0 = 48) with
    | false => exact cond_not rfl (fin _ hl)
    | true =>
      refine cond_run rfl ?_
      cases hn : strEq s [48] with
      | false => exact cond_run rfl rfl
      | true => exact cond_not rfl (fin _ hl)

/-! ### One field at a time -/

abbrev bx (l : List S8) (i : Nat) : Heap := [.box [.e (.sl 9 (strs l)), num (i : Int)]]
abbrev failV (e : Int) : E := .ifc 73 (.agg [.int .i64 e])
def resV : Except Int AV → Res
  | .ok v => .ret v
  | .error e => .pan (failV e)
def truR (s : S8) : Except Int Bool := if s = [121, 101, 115] then .ok true else if s = [110, 111] then .ok false else .error 2
def txtR (s : S8) : Except Int S8 := match unqS s with | some a => .ok a | none => .error 2
def optR (s : S8) : Except Int S8 := if s = [] then .error 11 else if s = [45] then .ok [] else .ok s
def kndR (s : S8) : Except Int Int := if s = exwS 1 then .ok 1 else if s = exwS 2 then .ok 2 else if s = exwS 3 then .ok 3 else if s = exwS 4 then .ok 4 else .error 10
theorem w1 {l : List S8} {i : Nat} (hi : i < l.length) (hl : l.length ≤ 1000000) : IntKind.i64.wrap ((i : Int) + 1) = ((i + 1 : Nat) : Int) := nat_wrap hi (by rw [maxLen_eq]; omega)
theorem w2 {l : List S8} {i : Nat} (hi : i < l.length) (hl : l.length ≤ 1000000) : IntKind.i64.wrap (((i + 1 : Nat) : Int) - 1) = (i : Int) := by rw [wrap_in (by omega) (by omega)]; omega
theorem inS {l : List S8} {i : Nat} (hi : i < l.length) : (decide ((0 : Int) ≤ (i : Int)) && decide ((i : Int) < ((strs l).length : Int))) = true := by rw [List.length_map]; exact nat_in hi

theorem pnumber_run {l : List S8} {i : Nat} (hi : i < l.length) (hl : l.length ≤ 1000000) (hs : (l.getD i []).length ≤ 100000) : RR none 92 [.ptr 0 0] (bx l i) = some (resV ((numR (l.getD i [])).map num), bx l (i + 1)) := by
  have body := eq_pnumber RR LL (strs l) (i : Int)
  rw [w1 hi hl, w2 hi hl, nat_at, strs_get l i hi] at body
  refine run_of_body (body.trans (cond_run (inS hi) (bind_run (canonical_run _ hs) (cond_run rfl (cond_run (okB _) ?_)))))
  rw [valB]
  generalize l.getD i [] = s at hs ⊢
  cases hc : numC s with
  | false => rw [numR_no hc]; exact cond_run rfl rfl
  | true =>
    obtain ⟨h1, h2⟩ := atoi_num hc
    refine cond_not rfl (cond_run (dec_yes (by omega)) ?_)
    rw [h1]
    cases hi64 : inI64 (numV s) with
    | true => rw [numR_yes hc hi64, h2 hi64]; rfl
    | false => rw [numR_out hc hi64]; rfl
theorem ptruth_run {l : List S8} {i : Nat} (hi : i < l.length) (hl : l.length ≤ 1000000) : RR none 96 [.ptr 0 0] (bx l i) = some (resV ((truR (l.getD i [])).map yes), bx l (i + 1)) := by
  have body := eq_ptruth RR LL (strs l) (i : Int)
  rw [w1 hi hl, w2 hi hl, nat_at, strs_get l i hi] at body
  refine run_of_body (body.trans (cond_run (inS hi) ?_))
  generalize l.getD i [] = s
  rw [strEq_dec, strEq_dec]
  unfold truR
  by_cases h1 : s = [121, 101, 115]
  · rw [if_pos h1, dec_yes h1]; rfl
  · rw [if_neg h1, dec_no h1]
    by_cases h2 : s = [110, 111]
    · rw [if_pos h2, dec_yes h2]; rfl
    · rw [if_neg h2, dec_no h2]; rfl
theorem ptext_run {l : List S8} {i : Nat} (hi : i < l.length) (hl : l.length ≤ 1000000) (hs : (l.getD i []).length ≤ 10000) : RR none 95 [.ptr 0 0] (bx l i) = some (resV ((txtR (l.getD i [])).map str), bx l (i + 1)) := by
  have body := eq_ptext RR LL (strs l) (i : Int)
  rw [w1 hi hl, w2 hi hl, nat_at, strs_get l i hi] at body
  refine run_of_body (body.trans (cond_run (inS hi) (bind_run (Unquote_run hs) (cond_run rfl (cond_run (unqA_ok _) ?_)))))
  unfold txtR
  cases unqS (l.getD i []) <;> rfl
theorem popt_run {l : List S8} {i : Nat} (hi : i < l.length) (hl : l.length ≤ 1000000) : RR none 94 [.ptr 0 0] (bx l i) = some (resV ((optR (l.getD i [])).map str), bx l (i + 1)) := by
  have body := eq_popt RR LL (strs l) (i : Int)
  rw [w1 hi hl, w2 hi hl, nat_at, strs_get l i hi] at body
  refine run_of_body (body.trans (cond_run (inS hi) ?_))
  generalize l.getD i [] = s
  rw [strEq_dec, strEq_dec]
  unfold optR
  by_cases h1 : s = []
  · rw [if_pos h1, dec_yes h1]; rfl
  · rw [if_neg h1, dec_no h1]
    by_cases h2 : s = [45]
    · rw [if_pos h2, dec_yes h2]; rfl
    · rw [if_neg h2, dec_no h2]; rfl

def pkX (l : List S8) (i : Nat) : Out := { ex := .exit 0, fr := [AV.undef, AV.undef, num 0] ++ List.replicate 15 AV.undef, hp := bx l i, df := [] }
def pkR (l : List S8) (i : Nat) (k : Int) : Out := { ex := .ret, fr := [AV.undef, AV.undef, num k] ++ List.replicate 15 AV.undef, hp := bx l i, df := [] }
theorem pkind_step (l : List S8) (i : Nat) (s : S8) (k : Int) (h : btw k 1 4 = true) {r : Out} (hr : (if s = exwS k then some (pkR l i k) else LL 93 1 lc_93_3 ((((List.replicate 18 AV.undef).set 2 (num 0)).set 3 (str s)).set 4 (num (k + 1))) (bx l i)) = some r) :
    LL 93 1 lc_93_3 ((((List.replicate 18 AV.undef).set 2 (num 0)).set 3 (str s)).set 4 (num k)) (bx l i) = some r := by
  have hk := btw_iff.1 h
  have body := eq_pkindL3 RR LL (strs l) (i : Int) 0 s k
  rw [wrap_in (n := k + 1) (by omega) (by omega)] at body
  refine loop_of_body (body.trans (cond_run (dec_yes (by omega)) (callT (exWord_run k h) ?_)))
  rw [valS, strEq_dec]
  by_cases e : s = exwS k
  · rw [if_pos e] at hr
    exact cond_run (dec_yes e.symm) hr
  · rw [if_neg e] at hr
    exact cond_not (dec_no (fun h => e h.symm)) (bind_run hr rfl)
theorem pkind_loop (l : List S8) (i : Nat) (s : S8) : LL 93 1 lc_93_3 ((((List.replicate 18 AV.undef).set 2 (num 0)).set 3 (str s)).set 4 (num 1)) (bx l i) = some (match kndR s with | .ok k => pkR l i k | .error _ => pkX l i) := by
  unfold kndR
  refine pkind_step l i s 1 rfl ?_
  by_cases e1 : s = exwS 1
  · rw [if_pos e1, if_pos e1]
  rw [if_neg e1, if_neg e1]
  refine pkind_step l i s 2 rfl ?_
  by_cases e2 : s = exwS 2
  · rw [if_pos e2, if_pos e2]
  rw [if_neg e2, if_neg e2]
  refine pkind_step l i s 3 rfl ?_
  by_cases e3 : s = exwS 3
  · rw [if_pos e3, if_pos e3]
  rw [if_neg e3, if_neg e3]
  refine pkind_step l i s 4 rfl ?_
  by_cases e4 : s = exwS 4
  · rw [if_pos e4, if_pos e4]
  rw [if_neg e4, if_neg e4]
  exact loop_of_body ((eq_pkindL3 RR LL (strs l) (i : Int) 0 s 5).trans (cond_not rfl rfl))
theorem kndR_err {s : S8} {e : Int} (h : kndR s = .error e) : e = 10 := by
  unfold kndR at h
  split at h
  · cases h
  split at h
  · cases h
  split at h
  · cases h
  split at h
  · cases h
  · injection h with h; exact h.symm
theorem pkind_run {l : List S8} {i : Nat} (hi : i < l.length) (hl : l.length ≤ 1000000) : RR none 93 [.ptr 0 0] (bx l i) = some (resV ((kndR (l.getD i [])).map num), bx l (i + 1)) := by
  have body := eq_pkind RR LL (strs l) (i : Int)
  rw [w1 hi hl, w2 hi hl, nat_at, strs_get l i hi] at body
  refine run_of_body (body.trans (cond_run (inS hi) (bind_run (pkind_loop l (i + 1) _) ?_)))
  cases hk : kndR (l.getD i []) with
  | ok k => rfl
  | error e => rw [kndR_err hk]; rfl

end Go.Proofs.YtmocefjnplmibaaGreatDoor
