/- Parse: the program's, where it succeeds. -/
import Derived.Test.YtmocefjnplmibaaGreatDoorPc
import Derived.Test.YtmocefjnplmibaaGreatDoorPg
namespace Go.Proofs.YtmocefjnplmibaaGreatDoor
open Go Go.Den
set_option maxRecDepth 100000

/-! ### The kind of a word -/

def kAt (s : S8) (i : Nat) : Option Int := if wordS ((i + 1 : Nat) : Int) = s then some ((i + 1 : Nat) : Int) else none
def kOf (s : S8) : Int := (firstFrom (kAt s) 15 0).getD 0
def koX : Out := { ex := .exit 0, fr := List.replicate 13 AV.undef, hp := [], df := [] }
def koR (k : Int) : Out := { ex := .ret, fr := [AV.undef, AV.undef, num k] ++ List.replicate 10 AV.undef, hp := [], df := [] }
theorem kindOf_loop (s : S8) : LL 57 0 lc_57_2 (((List.replicate 13 AV.undef).set 0 (str s)).set 3 (num 1)) [] = some ((firstFrom (fun i => (kAt s i).map koR) 15 0).getD koX) := by
  refine scan_first (G := fun i => LL 57 0 lc_57_2 (((List.replicate 13 AV.undef).set 0 (str s)).set 3 (num ((i + 1 : Nat) : Int))) []) ?_ ?_
  · intro i hi r h
    have body := eq_kindOfL2 RR LL s ((i + 1 : Nat) : Int)
    rw [wrap_in (n := ((i + 1 : Nat) : Int) + 1) (by omega) (by omega), show ((i + 1 : Nat) : Int) + 1 = ((i + 1 + 1 : Nat) : Int) by omega] at body
    refine loop_of_body (body.trans (cond_run (dec_yes (by omega)) (callT (word_run _ (btw_iff.2 ⟨by omega, by omega⟩)) ?_)))
    rw [valS, strEq_dec]
    unfold kAt at h
    by_cases e : wordS ((i + 1 : Nat) : Int) = s
    · rw [if_pos e] at h
      exact cond_run (dec_yes e) h
    · rw [if_neg e] at h
      exact cond_not (dec_no e) (bind_run h rfl)
  · exact loop_of_body ((eq_kindOfL2 RR LL s 16).trans (cond_not rfl rfl))
theorem kindOf_run (s : S8) : RR none 57 [str s] [] = some (.ret (num (kOf s)), []) := by
  refine run_of_body ((eq_kindOf RR LL s).trans (bind_run (kindOf_loop s) ?_))
  rw [firstFrom_map]
  unfold kOf
  cases firstFrom (kAt s) 15 0 <;> rfl
theorem kOf_word (k : Int) (h : btw k 1 15 = true) : kOf (wordS k) = k := by
  rcases kinds h with rfl | rfl | rfl | rfl | rfl | rfl | rfl | rfl | rfl | rfl | rfl | rfl | rfl | rfl | rfl <;> decide +kernel
def openB (k : Int) : Bool := k == 3 || k == 4 || k == 5
theorem count_run (k : Int) (h : btw k 1 15 = true) : RR none 60 [num k] [] = some (.ret (.tup [num (cntS k), yes (openB k)]), []) := by
  refine run_of_body ((eq_count RR LL k).trans ?_)
  rcases kinds h with rfl | rfl | rfl | rfl | rfl | rfl | rfl | rfl | rfl | rfl | rfl | rfl | rfl | rfl | rfl <;> rfl
theorem ok81 (n : Int) (b : Bool) : okRes PP 81 (.ret (.tup [num n, yes b])) = true := by kernel_rfl

theorem preq_run {k : Int} (h : btw k 1 15 = true) {l : List S8} (hn : cntS k ≤ l.length) (hl : l.length ≤ 1000000) (hx : ∀ i, (l.getD i []).length ≤ 10000) : ∃ m, RR none 61 [.ptr 0 0, num k] (bx l 1) = some (resV ((bodyR k l).map reqA), bx l m) := by
  rcases kinds h with rfl | rfl | rfl | rfl | rfl | rfl | rfl | rfl | rfl | rfl | rfl | rfl | rfl | rfl | rfl
  · exact preq_k1 (by have : ((6 : Nat) : Int) ≤ l.length := hn; omega) hl hx
  · exact preq_k2 (by have : ((8 : Nat) : Int) ≤ l.length := hn; omega) hl hx
  · exact preq_k3 (by have : ((7 : Nat) : Int) ≤ l.length := hn; omega) hl hx
  · exact preq_k4 (by have : ((7 : Nat) : Int) ≤ l.length := hn; omega) hl hx
  · exact preq_k5 (by have : ((13 : Nat) : Int) ≤ l.length := hn; omega) hl hx
  · exact preq_k6 (by have : ((6 : Nat) : Int) ≤ l.length := hn; omega) hl hx
  · exact preq_k7 (by have : ((4 : Nat) : Int) ≤ l.length := hn; omega) hl hx
  · exact preq_k8 (by have : ((5 : Nat) : Int) ≤ l.length := hn; omega) hl hx
  · exact preq_k9 (by have : ((5 : Nat) : Int) ≤ l.length := hn; omega) hl hx
  · exact preq_k10 (by have : ((3 : Nat) : Int) ≤ l.length := hn; omega) hl hx
  · exact preq_k11 (by have : ((3 : Nat) : Int) ≤ l.length := hn; omega) hl hx
  · exact preq_k12 (by have : ((3 : Nat) : Int) ≤ l.length := hn; omega) hl hx
  · exact preq_k13 (by have : ((4 : Nat) : Int) ≤ l.length := hn; omega) hl hx
  · exact preq_k14 (by have : ((4 : Nat) : Int) ≤ l.length := hn; omega) hl hx
  · exact preq_k15 (by have : ((4 : Nat) : Int) ≤ l.length := hn; omega) hl hx


/-- The number of fields fits the kind. -/
def fitsC (k : Int) (n : Nat) : Bool := !(decide ((n : Int) < cntS k)) && (openB k || !decide (cntS k < (n : Int)))
theorem Parse_good {s : S8} {r : Req} (hs : s.length ≤ 10000) (hk : btw (kOf ((splitAt 32 s).getD 0 [])) 1 15 = true) (hc : fitsC (kOf ((splitAt 32 s).getD 0 [])) (splitAt 32 s).length = true)
    (hl : (splitAt 32 s).length ≤ 1000000) (hx : ∀ i, ((splitAt 32 s).getD i []).length ≤ 10000) (hb : bodyR (kOf ((splitAt 32 s).getD 0 [])) (splitAt 32 s) = .ok r) (h1 : r.bd.mtch.length ≤ maxLen) (h2 : r.msg.props.length ≤ maxLen) (he : checkE r = 0) :
    RR none 21 [str s] [] = some (.ret (.tup [reqA r, num 0]), []) := by
  have hpos : 0 < (splitAt 32 s).length := by rw [split_len]; omega
  generalize hL : splitAt 32 s = l at *
  generalize hkk : kOf (l.getD 0 []) = k at *
  unfold fitsC at hc
  rw [Bool.and_eq_true] at hc
  have hn : cntS k ≤ l.length := by
    have := unnot' hc.1
    have := of_decide_eq_false this
    omega
  obtain ⟨m, hq⟩ := preq_run hk hn hl hx
  rw [hb] at hq
  have body := eq_Parse RR LL s
  rw [hL] at body
  have h0 : ((((strs l).getD 0 .nili).cell 0).toStr) = l.getD 0 [] := strs_get l 0 hpos
  have hkr := kindOf_run (l.getD 0 [])
  rw [hkk] at hkr
  have hlen : (((l.map E.str).length : Nat) : Int) = (l.length : Int) := by rw [List.length_map]
  rw [show ((((List.map E.str l).getD 0 .nili).cell 0).toStr) = l.getD 0 [] from h0, hlen] at body
  have hk0 : (k == 0) = false := by
    have := btw_iff.1 hk
    exact beq_false_of_ne (by omega)
  have hchk := Check_run r h1 h2
  rw [he] at hchk
  have hrec : RR (some none) 55 [.ptr 0 0, .ptr 1 0] [.box [num r.kind, num r.conn, num r.serial, num r.tag, num r.limit, yes r.flag, str r.name, str r.key, str r.ex.name, num r.ex.kind, str r.ex.alt, str r.sp.name, num r.sp.max, num r.sp.ttl, num r.sp.att, str r.sp.dead, str r.bd.exch, str r.bd.queue, str r.bd.key, yes r.bd.all, prp r.bd.mtch, str r.msg.topic, str r.msg.payload, num r.msg.level, yes r.msg.retain, num r.msg.prio, num r.msg.expires, str r.msg.sender, num r.msg.seq, prp r.msg.props], .box [num 0]] = some (.ret (.tup []), [.box [num r.kind, num r.conn, num r.serial, num r.tag, num r.limit, yes r.flag, str r.name, str r.key, str r.ex.name, num r.ex.kind, str r.ex.alt, str r.sp.name, num r.sp.max, num r.sp.ttl, num r.sp.att, str r.sp.dead, str r.bd.exch, str r.bd.queue, str r.bd.key, yes r.bd.all, prp r.bd.mtch, str r.msg.topic, str r.msg.payload, num r.msg.level, yes r.msg.retain, num r.msg.prio, num r.msg.expires, str r.msg.sender, num r.msg.seq, prp r.msg.props], .box [num 0]]) := run_of_body (eq_Rec2 RR LL r.kind r.conn r.serial r.tag r.limit r.flag r.name r.key r.ex.name r.ex.kind r.ex.alt r.sp.name r.sp.max r.sp.ttl r.sp.att r.sp.dead r.bd.exch r.bd.queue r.bd.key r.bd.all r.bd.mtch r.msg.topic r.msg.payload r.msg.level r.msg.retain r.msg.prio r.msg.expires r.msg.sender r.msg.seq r.msg.props)
  refine run_of_body (body.trans (cond_run (dec_yes (by omega)) (cond_run (dec_yes (by show (0 : Int) < (l.length : Int); omega)) (bind_run hkr (cond_run rfl (cond_run (okI _) (cond_not hk0 (bind_run (count_run k hk) (cond_run rfl (cond_run (ok81 _ _) (cond_run ?_ ?_)))))))))))
  · show (decide ((l.length : Int) < cntS k) == false) = true
    rw [unnot' hc.1]; rfl
  show (bif decide (cntS k < (l.length : Int)) == true then (bif !openB k then _ else _) else _) = _
  cases hd : decide (cntS k < (l.length : Int)) with
  | true =>
    have ho : openB k = true := by
      have := hc.2
      rw [hd] at this
      cases hob : openB k with
      | true => rfl
      | false => rw [hob] at this; cases this
    rw [ho]
    exact cond_run rfl (cond_not rfl (rd_ok hq rfl (okReq _) (bind_run hchk (cond_run rfl (cond_run (okN _) (cond_not rfl (bind_run hrec (cond_run rfl (cond_run rfl rfl)))))))))
  | false =>
    exact cond_not rfl (rd_ok hq rfl (okReq _) (bind_run hchk (cond_run rfl (cond_run (okN _) (cond_not rfl (bind_run hrec (cond_run rfl (cond_run rfl rfl))))))))

end Go.Proofs.YtmocefjnplmibaaGreatDoor
