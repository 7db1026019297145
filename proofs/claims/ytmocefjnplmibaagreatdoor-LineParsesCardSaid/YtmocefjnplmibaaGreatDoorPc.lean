/- The program's readers of properties, messages, requests. -/
import Derived.Test.YtmocefjnplmibaaGreatDoorPb
namespace Go.Proofs.YtmocefjnplmibaaGreatDoor
open Go Go.Den
set_option maxRecDepth 100000

theorem rd_ok {β : Type} {x : Option (Res × Heap)} {v : AV} {h h0 : Heap} {t : TypeId} {p K : Res × Heap → Option β} {r : Option β} (hx : x = some (.ret v, h)) (hh : okHeap h0 h = true) (ht : okRes PP t (.ret v) = true) (hK : K (.ret v, h) = r) :
    (x.bind fun rh => bif okHeap h0 rh.2 then bif rh.1.isPan then p rh else bif okRes PP t rh.1 then K rh else none else none) = r :=
  bind_run hx (cond_run hh (cond_not rfl (cond_run ht hK)))
theorem rd_pan {β : Type} {x : Option (Res × Heap)} {e : E} {h h0 : Heap} {p K : Res × Heap → Option β} {r : Option β} (hx : x = some (.pan e, h)) (hh : okHeap h0 h = true) (hp : p (.pan e, h) = r) :
    (x.bind fun rh => bif okHeap h0 rh.2 then bif rh.1.isPan then p rh else K rh else none) = r :=
  bind_run hx (cond_run hh (cond_run rfl hp))
theorem okP (l : List E) : okRes PP 33 (.ret (prp l)) = true := by kernel_rfl
theorem okM (m : Msg) : okRes PP 37 (.ret (msgA m)) = true := by kernel_rfl

/-! ### Properties -/

def cutP (x : S8) : Option (S8 × S8) := if 0 ≤ Lib.indexByte x 61 then some (x.take (Lib.indexByte x 61).toNat, x.drop ((Lib.indexByte x 61).toNat + 1)) else none
def prpR1 (x : S8) : Except Int E := match cutP x with | some (k, v) => (txtR v).map fun t => .agg [.str k, .str t] | none => .error 2
def prpsR : List S8 → Except Int (List E)
  | [] => .ok []
  | x :: l => (prpR1 x).bind fun p => (prpsR l).bind fun r => .ok (p :: r)
theorem ib_lt : ∀ (l : S8) (c : UInt8), 0 ≤ Lib.indexByte l c → Lib.indexByte l c < l.length := by
  intro l c
  induction l with
  | nil => intro h; exact absurd h (by show ¬ (0 : Int) ≤ -1; omega)
  | cons b l ih =>
    intro h
    unfold Lib.indexByte at h ⊢
    rw [List.length_cons]
    split
    · omega
    · rename_i hb
      rw [if_neg hb] at h
      split
      · rename_i h1; rw [if_pos h1] at h; omega
      · rename_i h1
        rw [if_neg h1] at h
        have hg := ib_ge l c
        have : Lib.indexByte l c ≠ -1 := by simpa using h1
        have := ih (by omega)
        omega
theorem elems97 (a b : E) : elems PP 97 2 1 [b, a].reverse = [.agg [a, b]] := by kernel_rfl
def prX (l : List S8) (a : List E) (i : Nat) : Out := { ex := .exit 0, fr := [AV.undef, AV.undef, AV.undef, .own 1 97 a] ++ List.replicate 33 AV.undef, hp := bx l i ++ [.vec 97 a.length], df := [] }
def prP (l : List S8) (e : Int) (i : Nat) : Out := { ex := .pan (failV e), fr := List.replicate 37 AV.undef, hp := bx l i, df := [] }
abbrev prF (a : List E) : Fr := ((List.replicate 37 AV.undef).set 0 (.ptr 0 0)).set 3 (.own 1 97 a)
def prO (l : List S8) (a : List E) (m : Nat) : Except Int (List E) → Out
  | .ok r => prX l (a ++ r) l.length
  | .error e => prP l e m
theorem pprops_loop {l : List S8} (hl : l.length ≤ 1000000) (hx : ∀ i, (l.getD i []).length ≤ 10000) : ∀ (j i : Nat) (a : List E), i + j = l.length → a.length ≤ i →
    ∃ m, LL 97 1 lc_97_2 (prF a) (bx l i ++ [.vec 97 a.length]) = some (prO l a m (prpsR (l.drop i))) := by
  intro j
  induction j with
  | zero =>
    intro i a h _
    have : i = l.length := by omega
    subst this
    rw [List.drop_length]
    refine ⟨0, loop_of_body ((eq_ppropsL2 RR LL (strs l) (l.length : Int) a).trans (cond_not (by rw [List.length_map]; exact nat_end _) ?_))⟩
    show _ = some (prX l (a ++ []) l.length)
    rw [List.append_nil]; rfl
  | succ j ih =>
    intro i a h ha
    have hi : i < l.length := by omega
    have body := eq_ppropsL2 RR LL (strs l) (i : Int) a
    rw [w1 hi hl, w2 hi hl, nat_at, strs_get l i hi] at body
    have hd : l.drop i = l.getD i [] :: l.drop (i + 1) := drop_getD hi []
    have hxi := hx i
    rw [hd]
    generalize l.getD i [] = x at body hxi ⊢
    unfold prpsR prpR1 cutP
    have hlt : decide ((i : Int) < ((strs l).length : Int)) = true := by rw [List.length_map]; exact nat_lt hi
    by_cases hq : 0 ≤ Lib.indexByte x 61
    · have hq1 := ib_lt x 61 hq
      rw [if_pos hq]
      obtain ⟨q, hqe⟩ : ∃ q : Nat, Lib.indexByte x 61 = q := ⟨(Lib.indexByte x 61).toNat, by omega⟩
      rw [hqe] at body hq1 ⊢
      rw [show (q : Int) + 1 = ((q + 1 : Nat) : Int) by omega, wrap_in (n := ((q + 1 : Nat) : Int)) (by omega) (by omega), nat_at, nat_at, nat_at, List.take_length] at body
      simp only [elems97] at body
      rw [nat_at]
      have hu := Unquote_run (t := x.drop (q + 1)) (by rw [List.length_drop]; omega)
      have step := fun (r : Out) hr => body.trans (cond_run hlt (cond_run (inS hi) (cond_run (dec_yes (by omega)) (cond_run (by rw [dec_yes (by omega), dec_yes (by omega)]; rfl) (cond_run (by rw [dec_yes (by omega), dec_yes (by omega), dec_yes (by omega)]; rfl)
        (bind_run hu (cond_run rfl (cond_run (unqA_ok _) (show _ = some r from hr)))))))))
      show ∃ m, _ = some (prO l a m (((txtR (x.drop (q + 1))).map fun t => E.agg [.str (x.take q), .str t]).bind fun p => (prpsR (l.drop (i + 1))).bind fun r => .ok (p :: r)))
      unfold txtR
      cases he : unqS (x.drop (q + 1)) with
      | none => 
        rw [he] at step
        exact ⟨i + 1, loop_of_body (step _ (cond_run rfl rfl))⟩
      | some t =>
        rw [he] at step
        obtain ⟨m, hm⟩ := ih (i + 1) (a ++ [.agg [.str (x.take q), .str t]]) (by omega) (by simp; omega)
        refine ⟨m, loop_of_body (step _ (cond_not rfl (cond_run (and_yes rfl (dec_yes (by show (a.length + 1) * 32 ≤ _; omega))) (bind_run hm ?_))))⟩
        show some (prO l (a ++ [.agg [.str (x.take q), .str t]]) m (prpsR (l.drop (i + 1)))) = some (prO l a m ((prpsR (l.drop (i + 1))).bind fun r => .ok (.agg [.str (x.take q), .str t] :: r)))
        cases prpsR (l.drop (i + 1)) with
        | error e => rfl
        | ok r =>
          show some (prX l (a ++ [_] ++ r) l.length) = some (prX l (a ++ (_ :: r)) l.length)
          rw [List.append_assoc]; rfl
    · rw [if_neg hq]
      exact ⟨i + 1, loop_of_body (body.trans (cond_run hlt (cond_run (inS hi) (cond_not (dec_no hq) rfl))))⟩
theorem pprops_run {l : List S8} {i : Nat} (hi : i ≤ l.length) (hl : l.length ≤ 1000000) (hx : ∀ i, (l.getD i []).length ≤ 10000) : ∃ m, RR none 97 [.ptr 0 0] (bx l i) = some (resV ((prpsR (l.drop i)).map prp), bx l m) := by
  obtain ⟨m, h⟩ := pprops_loop hl hx (l.length - i) i [] (by omega) (by simp)
  cases he : prpsR (l.drop i) with
  | error e => rw [he] at h; exact ⟨m, run_of_body ((eq_pprops RR LL (strs l) (i : Int)).trans (bind_run h rfl))⟩
  | ok r => rw [he] at h; exact ⟨l.length, run_of_body ((eq_pprops RR LL (strs l) (i : Int)).trans (bind_run h rfl))⟩

/-! ### Messages -/

def msgR (l : List S8) (i : Nat) : Except Int Msg :=
  (txtR (l.getD i [])).bind fun t => (txtR (l.getD (i + 1) [])).bind fun p => (numR (l.getD (i + 2) [])).bind fun v => (truR (l.getD (i + 3) [])).bind fun r => (numR (l.getD (i + 4) [])).bind fun o =>
  (numR (l.getD (i + 5) [])).bind fun x => (optR (l.getD (i + 6) [])).bind fun f => (numR (l.getD (i + 7) [])).bind fun s => (prpsR (l.drop (i + 8))).bind fun q => .ok ⟨t, p, v, r, o, x, f, s, q⟩
theorem pmsg_run {l : List S8} {i : Nat} (hi : i + 8 ≤ l.length) (hl : l.length ≤ 1000000) (hx : ∀ i, (l.getD i []).length ≤ 10000) : ∃ m, RR none 98 [.ptr 0 0] (bx l i) = some (resV ((msgR l i).map msgA), bx l m) := by
  have body := eq_pmsg RR LL (strs l) (i : Int)
  unfold msgR
  have q0 := ptext_run (l := l) (i := i) (by omega) hl (hx _)
  cases e0 : txtR (l.getD (i) []) with
  | error x =>
    rw [e0] at q0
    exact ⟨_, run_of_body (body.trans (rd_pan q0 rfl rfl))⟩
  | ok v0 =>
  rw [e0] at q0
  have q1 := ptext_run (l := l) (i := i + 1) (by omega) hl (hx _)
  cases e1 : txtR (l.getD (i + 1) []) with
  | error x =>
    rw [e1] at q1
    exact ⟨_, run_of_body (body.trans (rd_ok q0 rfl (okStr _) (rd_pan q1 rfl rfl)))⟩
  | ok v1 =>
  rw [e1] at q1
  have q2 := pnumber_run (l := l) (i := i + 2) (by omega) hl (by have := hx (i + 2); omega)
  cases e2 : numR (l.getD (i + 2) []) with
  | error x =>
    rw [e2] at q2
    exact ⟨_, run_of_body (body.trans (rd_ok q0 rfl (okStr _) (rd_ok q1 rfl (okStr _) (rd_pan q2 rfl rfl))))⟩
  | ok v2 =>
  rw [e2] at q2
  have q3 := ptruth_run (l := l) (i := i + 3) (by omega) hl
  cases e3 : truR (l.getD (i + 3) []) with
  | error x =>
    rw [e3] at q3
    exact ⟨_, run_of_body (body.trans (rd_ok q0 rfl (okStr _) (rd_ok q1 rfl (okStr _) (rd_ok q2 rfl (okI _) (rd_pan q3 rfl rfl)))))⟩
  | ok v3 =>
  rw [e3] at q3
  have q4 := pnumber_run (l := l) (i := i + 4) (by omega) hl (by have := hx (i + 4); omega)
  cases e4 : numR (l.getD (i + 4) []) with
  | error x =>
    rw [e4] at q4
    exact ⟨_, run_of_body (body.trans (rd_ok q0 rfl (okStr _) (rd_ok q1 rfl (okStr _) (rd_ok q2 rfl (okI _) (rd_ok q3 rfl (okB _) (rd_pan q4 rfl rfl))))))⟩
  | ok v4 =>
  rw [e4] at q4
  have q5 := pnumber_run (l := l) (i := i + 5) (by omega) hl (by have := hx (i + 5); omega)
  cases e5 : numR (l.getD (i + 5) []) with
  | error x =>
    rw [e5] at q5
    exact ⟨_, run_of_body (body.trans (rd_ok q0 rfl (okStr _) (rd_ok q1 rfl (okStr _) (rd_ok q2 rfl (okI _) (rd_ok q3 rfl (okB _) (rd_ok q4 rfl (okI _) (rd_pan q5 rfl rfl)))))))⟩
  | ok v5 =>
  rw [e5] at q5
  have q6 := popt_run (l := l) (i := i + 6) (by omega) hl
  cases e6 : optR (l.getD (i + 6) []) with
  | error x =>
    rw [e6] at q6
    exact ⟨_, run_of_body (body.trans (rd_ok q0 rfl (okStr _) (rd_ok q1 rfl (okStr _) (rd_ok q2 rfl (okI _) (rd_ok q3 rfl (okB _) (rd_ok q4 rfl (okI _) (rd_ok q5 rfl (okI _) (rd_pan q6 rfl rfl))))))))⟩
  | ok v6 =>
  rw [e6] at q6
  have q7 := pnumber_run (l := l) (i := i + 7) (by omega) hl (by have := hx (i + 7); omega)
  cases e7 : numR (l.getD (i + 7) []) with
  | error x =>
    rw [e7] at q7
    exact ⟨_, run_of_body (body.trans (rd_ok q0 rfl (okStr _) (rd_ok q1 rfl (okStr _) (rd_ok q2 rfl (okI _) (rd_ok q3 rfl (okB _) (rd_ok q4 rfl (okI _) (rd_ok q5 rfl (okI _) (rd_ok q6 rfl (okStr _) (rd_pan q7 rfl rfl)))))))))⟩
  | ok v7 =>
  rw [e7] at q7
  obtain ⟨m8, q8⟩ := pprops_run (l := l) (i := i + 8) (by omega) hl hx
  cases e8 : prpsR (l.drop (i + 8)) with
  | error x =>
    rw [e8] at q8
    exact ⟨_, run_of_body (body.trans (rd_ok q0 rfl (okStr _) (rd_ok q1 rfl (okStr _) (rd_ok q2 rfl (okI _) (rd_ok q3 rfl (okB _) (rd_ok q4 rfl (okI _) (rd_ok q5 rfl (okI _) (rd_ok q6 rfl (okStr _) (rd_ok q7 rfl (okI _) (rd_pan q8 rfl rfl))))))))))⟩
  | ok v8 =>
  rw [e8] at q8
  exact ⟨_, run_of_body (body.trans (rd_ok q0 rfl (okStr _) (rd_ok q1 rfl (okStr _) (rd_ok q2 rfl (okI _) (rd_ok q3 rfl (okB _) (rd_ok q4 rfl (okI _) (rd_ok q5 rfl (okI _) (rd_ok q6 rfl (okStr _) (rd_ok q7 rfl (okI _) (rd_ok q8 rfl (okP _) rfl))))))))))⟩

/-! ### Requests -/

def bodyR (k : Int) (l : List S8) : Except Int Req :=
  (numR (l.getD 1 [])).bind fun c => (numR (l.getD 2 [])).bind fun s =>
  bif k == 1 then (kndR (l.getD 4 [])).bind fun d => (optR (l.getD 5 [])).bind fun a => .ok { Req.zero with kind := k, conn := c, serial := s, ex := ⟨l.getD 3 [], d, a⟩ }
  else bif k == 2 then (numR (l.getD 4 [])).bind fun x => (numR (l.getD 5 [])).bind fun t => (numR (l.getD 6 [])).bind fun a => (optR (l.getD 7 [])).bind fun d => .ok { Req.zero with kind := k, conn := c, serial := s, sp := ⟨l.getD 3 [], x, t, a, d⟩ }
  else bif (bif k == 3 then true else k == 4) then (txtR (l.getD 5 [])).bind fun y => (truR (l.getD 6 [])).bind fun a => (prpsR (l.drop 7)).bind fun p => .ok { Req.zero with kind := k, conn := c, serial := s, bd := ⟨l.getD 3 [], l.getD 4 [], y, a, p⟩ }
  else bif k == 5 then (optR (l.getD 3 [])).bind fun n => (txtR (l.getD 4 [])).bind fun y => (msgR l 5).bind fun m => .ok { Req.zero with kind := k, conn := c, serial := s, name := n, key := y, msg := m }
  else bif k == 6 then (numR (l.getD 3 [])).bind fun t => (numR (l.getD 5 [])).bind fun m => .ok { Req.zero with kind := k, conn := c, serial := s, tag := t, name := l.getD 4 [], limit := m }
  else bif k == 7 then (numR (l.getD 3 [])).bind fun t => .ok { Req.zero with kind := k, conn := c, serial := s, tag := t }
  else bif (bif k == 8 then true else k == 9) then (numR (l.getD 3 [])).bind fun t => (truR (l.getD 4 [])).bind fun f => .ok { Req.zero with kind := k, conn := c, serial := s, tag := t, flag := f }
  else bif decide (13 ≤ k) then .ok { Req.zero with kind := k, conn := c, serial := s, name := l.getD 3 [] } else .ok { Req.zero with kind := k, conn := c, serial := s }
def cntS (k : Int) : Int := [0, 6, 8, 7, 7, 13, 6, 4, 5, 5, 3, 3, 3, 4, 4, 4].getD k.toNat 0
theorem nx_in3 {l : List S8} (h : 4 ≤ l.length) : (decide ((0 : Int) ≤ 3) && decide ((3 : Int) < ((strs l).length : Int))) = true := by rw [List.length_map]; exact dec_yes (by omega)
theorem nx_in4 {l : List S8} (h : 5 ≤ l.length) : (decide ((0 : Int) ≤ 4) && decide ((4 : Int) < ((strs l).length : Int))) = true := by rw [List.length_map]; exact dec_yes (by omega)
theorem preq_k1 {l : List S8} (hn : 6 ≤ l.length) (hl : l.length ≤ 1000000) (hx : ∀ i, (l.getD i []).length ≤ 10000) : ∃ m, RR none 61 [.ptr 0 0, num 1] (bx l 1) = some (resV ((bodyR 1 l).map reqA), bx l m) := by
  have body := eq_prequestK1 RR LL (strs l) 1
  unfold bodyR
  have q0 := pnumber_run (l := l) (i := 1) (by omega) hl (by have := hx (1); omega)
  cases e0 : numR (l.getD (1) []) with
  | error x =>
    rw [e0] at q0
    exact ⟨_, run_of_body (body.trans (rd_pan q0 rfl rfl))⟩
  | ok v0 =>
  rw [e0] at q0
  have q1 := pnumber_run (l := l) (i := 2) (by omega) hl (by have := hx (2); omega)
  cases e1 : numR (l.getD (2) []) with
  | error x =>
    rw [e1] at q1
    exact ⟨_, run_of_body (body.trans (rd_ok q0 rfl (okI _) (rd_pan q1 rfl rfl)))⟩
  | ok v1 =>
  rw [e1] at q1
  have q3 := pkind_run (l := l) (i := 4) (by omega) hl
  cases e3 : kndR (l.getD (4) []) with
  | error x =>
    rw [e3] at q3
    exact ⟨_, run_of_body (body.trans (rd_ok q0 rfl (okI _) (rd_ok q1 rfl (okI _) (cond_run (nx_in3 (by omega)) (rd_pan q3 rfl rfl)))))⟩
  | ok v3 =>
  rw [e3] at q3
  have q4 := popt_run (l := l) (i := 5) (by omega) hl
  cases e4 : optR (l.getD (5) []) with
  | error x =>
    rw [e4] at q4
    exact ⟨_, run_of_body (body.trans (rd_ok q0 rfl (okI _) (rd_ok q1 rfl (okI _) (cond_run (nx_in3 (by omega)) (rd_ok q3 rfl (okI _) (rd_pan q4 rfl rfl))))))⟩
  | ok v4 =>
  rw [e4] at q4
  exact ⟨_, run_of_body (body.trans (rd_ok q0 rfl (okI _) (rd_ok q1 rfl (okI _) (cond_run (nx_in3 (by omega)) (rd_ok q3 rfl (okI _) (rd_ok q4 rfl (okStr _) (by rw [← strs_get l 3 (by omega)]; rfl)))))))⟩
theorem preq_k2 {l : List S8} (hn : 8 ≤ l.length) (hl : l.length ≤ 1000000) (hx : ∀ i, (l.getD i []).length ≤ 10000) : ∃ m, RR none 61 [.ptr 0 0, num 2] (bx l 1) = some (resV ((bodyR 2 l).map reqA), bx l m) := by
  have body := eq_prequestK2 RR LL (strs l) 1
  unfold bodyR
  have q0 := pnumber_run (l := l) (i := 1) (by omega) hl (by have := hx (1); omega)
  cases e0 : numR (l.getD (1) []) with
  | error x =>
    rw [e0] at q0
    exact ⟨_, run_of_body (body.trans (rd_pan q0 rfl rfl))⟩
  | ok v0 =>
  rw [e0] at q0
  have q1 := pnumber_run (l := l) (i := 2) (by omega) hl (by have := hx (2); omega)
  cases e1 : numR (l.getD (2) []) with
  | error x =>
    rw [e1] at q1
    exact ⟨_, run_of_body (body.trans (rd_ok q0 rfl (okI _) (rd_pan q1 rfl rfl)))⟩
  | ok v1 =>
  rw [e1] at q1
  have q3 := pnumber_run (l := l) (i := 4) (by omega) hl (by have := hx (4); omega)
  cases e3 : numR (l.getD (4) []) with
  | error x =>
    rw [e3] at q3
    exact ⟨_, run_of_body (body.trans (rd_ok q0 rfl (okI _) (rd_ok q1 rfl (okI _) (cond_run (nx_in3 (by omega)) (rd_pan q3 rfl rfl)))))⟩
  | ok v3 =>
  rw [e3] at q3
  have q4 := pnumber_run (l := l) (i := 5) (by omega) hl (by have := hx (5); omega)
  cases e4 : numR (l.getD (5) []) with
  | error x =>
    rw [e4] at q4
    exact ⟨_, run_of_body (body.trans (rd_ok q0 rfl (okI _) (rd_ok q1 rfl (okI _) (cond_run (nx_in3 (by omega)) (rd_ok q3 rfl (okI _) (rd_pan q4 rfl rfl))))))⟩
  | ok v4 =>
  rw [e4] at q4
  have q5 := pnumber_run (l := l) (i := 6) (by omega) hl (by have := hx (6); omega)
  cases e5 : numR (l.getD (6) []) with
  | error x =>
    rw [e5] at q5
    exact ⟨_, run_of_body (body.trans (rd_ok q0 rfl (okI _) (rd_ok q1 rfl (okI _) (cond_run (nx_in3 (by omega)) (rd_ok q3 rfl (okI _) (rd_ok q4 rfl (okI _) (rd_pan q5 rfl rfl)))))))⟩
  | ok v5 =>
  rw [e5] at q5
  have q6 := popt_run (l := l) (i := 7) (by omega) hl
  cases e6 : optR (l.getD (7) []) with
  | error x =>
    rw [e6] at q6
    exact ⟨_, run_of_body (body.trans (rd_ok q0 rfl (okI _) (rd_ok q1 rfl (okI _) (cond_run (nx_in3 (by omega)) (rd_ok q3 rfl (okI _) (rd_ok q4 rfl (okI _) (rd_ok q5 rfl (okI _) (rd_pan q6 rfl rfl))))))))⟩
  | ok v6 =>
  rw [e6] at q6
  exact ⟨_, run_of_body (body.trans (rd_ok q0 rfl (okI _) (rd_ok q1 rfl (okI _) (cond_run (nx_in3 (by omega)) (rd_ok q3 rfl (okI _) (rd_ok q4 rfl (okI _) (rd_ok q5 rfl (okI _) (rd_ok q6 rfl (okStr _) (by rw [← strs_get l 3 (by omega)]; rfl)))))))))⟩
theorem preq_k3 {l : List S8} (hn : 7 ≤ l.length) (hl : l.length ≤ 1000000) (hx : ∀ i, (l.getD i []).length ≤ 10000) : ∃ m, RR none 61 [.ptr 0 0, num 3] (bx l 1) = some (resV ((bodyR 3 l).map reqA), bx l m) := by
  have body := eq_prequestK3 RR LL (strs l) 1
  unfold bodyR
  have q0 := pnumber_run (l := l) (i := 1) (by omega) hl (by have := hx (1); omega)
  cases e0 : numR (l.getD (1) []) with
  | error x =>
    rw [e0] at q0
    exact ⟨_, run_of_body (body.trans (rd_pan q0 rfl rfl))⟩
  | ok v0 =>
  rw [e0] at q0
  have q1 := pnumber_run (l := l) (i := 2) (by omega) hl (by have := hx (2); omega)
  cases e1 : numR (l.getD (2) []) with
  | error x =>
    rw [e1] at q1
    exact ⟨_, run_of_body (body.trans (rd_ok q0 rfl (okI _) (rd_pan q1 rfl rfl)))⟩
  | ok v1 =>
  rw [e1] at q1
  have q4 := ptext_run (l := l) (i := 5) (by omega) hl (hx _)
  cases e4 : txtR (l.getD (5) []) with
  | error x =>
    rw [e4] at q4
    exact ⟨_, run_of_body (body.trans (rd_ok q0 rfl (okI _) (rd_ok q1 rfl (okI _) (cond_run (nx_in3 (by omega)) (cond_run (nx_in4 (by omega)) (rd_pan q4 rfl rfl))))))⟩
  | ok v4 =>
  rw [e4] at q4
  have q5 := ptruth_run (l := l) (i := 6) (by omega) hl
  cases e5 : truR (l.getD (6) []) with
  | error x =>
    rw [e5] at q5
    exact ⟨_, run_of_body (body.trans (rd_ok q0 rfl (okI _) (rd_ok q1 rfl (okI _) (cond_run (nx_in3 (by omega)) (cond_run (nx_in4 (by omega)) (rd_ok q4 rfl (okStr _) (rd_pan q5 rfl rfl)))))))⟩
  | ok v5 =>
  rw [e5] at q5
  obtain ⟨m6, q6⟩ := pprops_run (l := l) (i := 7) (by omega) hl hx
  cases e6 : prpsR (l.drop (7)) with
  | error x =>
    rw [e6] at q6
    exact ⟨_, run_of_body (body.trans (rd_ok q0 rfl (okI _) (rd_ok q1 rfl (okI _) (cond_run (nx_in3 (by omega)) (cond_run (nx_in4 (by omega)) (rd_ok q4 rfl (okStr _) (rd_ok q5 rfl (okB _) (rd_pan q6 rfl rfl))))))))⟩
  | ok v6 =>
  rw [e6] at q6
  exact ⟨_, run_of_body (body.trans (rd_ok q0 rfl (okI _) (rd_ok q1 rfl (okI _) (cond_run (nx_in3 (by omega)) (cond_run (nx_in4 (by omega)) (rd_ok q4 rfl (okStr _) (rd_ok q5 rfl (okB _) (rd_ok q6 rfl (okP _) (by rw [← strs_get l 3 (by omega)]; rw [← strs_get l 4 (by omega)]; rfl)))))))))⟩
theorem preq_k4 {l : List S8} (hn : 7 ≤ l.length) (hl : l.length ≤ 1000000) (hx : ∀ i, (l.getD i []).length ≤ 10000) : ∃ m, RR none 61 [.ptr 0 0, num 4] (bx l 1) = some (resV ((bodyR 4 l).map reqA), bx l m) := by
  have body := eq_prequestK4 RR LL (strs l) 1
  unfold bodyR
  have q0 := pnumber_run (l := l) (i := 1) (by omega) hl (by have := hx (1); omega)
  cases e0 : numR (l.getD (1) []) with
  | error x =>
    rw [e0] at q0
    exact ⟨_, run_of_body (body.trans (rd_pan q0 rfl rfl))⟩
  | ok v0 =>
  rw [e0] at q0
  have q1 := pnumber_run (l := l) (i := 2) (by omega) hl (by have := hx (2); omega)
  cases e1 : numR (l.getD (2) []) with
  | error x =>
    rw [e1] at q1
    exact ⟨_, run_of_body (body.trans (rd_ok q0 rfl (okI _) (rd_pan q1 rfl rfl)))⟩
  | ok v1 =>
  rw [e1] at q1
  have q4 := ptext_run (l := l) (i := 5) (by omega) hl (hx _)
  cases e4 : txtR (l.getD (5) []) with
  | error x =>
    rw [e4] at q4
    exact ⟨_, run_of_body (body.trans (rd_ok q0 rfl (okI _) (rd_ok q1 rfl (okI _) (cond_run (nx_in3 (by omega)) (cond_run (nx_in4 (by omega)) (rd_pan q4 rfl rfl))))))⟩
  | ok v4 =>
  rw [e4] at q4
  have q5 := ptruth_run (l := l) (i := 6) (by omega) hl
  cases e5 : truR (l.getD (6) []) with
  | error x =>
    rw [e5] at q5
    exact ⟨_, run_of_body (body.trans (rd_ok q0 rfl (okI _) (rd_ok q1 rfl (okI _) (cond_run (nx_in3 (by omega)) (cond_run (nx_in4 (by omega)) (rd_ok q4 rfl (okStr _) (rd_pan q5 rfl rfl)))))))⟩
  | ok v5 =>
  rw [e5] at q5
  obtain ⟨m6, q6⟩ := pprops_run (l := l) (i := 7) (by omega) hl hx
  cases e6 : prpsR (l.drop (7)) with
  | error x =>
    rw [e6] at q6
    exact ⟨_, run_of_body (body.trans (rd_ok q0 rfl (okI _) (rd_ok q1 rfl (okI _) (cond_run (nx_in3 (by omega)) (cond_run (nx_in4 (by omega)) (rd_ok q4 rfl (okStr _) (rd_ok q5 rfl (okB _) (rd_pan q6 rfl rfl))))))))⟩
  | ok v6 =>
  rw [e6] at q6
  exact ⟨_, run_of_body (body.trans (rd_ok q0 rfl (okI _) (rd_ok q1 rfl (okI _) (cond_run (nx_in3 (by omega)) (cond_run (nx_in4 (by omega)) (rd_ok q4 rfl (okStr _) (rd_ok q5 rfl (okB _) (rd_ok q6 rfl (okP _) (by rw [← strs_get l 3 (by omega)]; rw [← strs_get l 4 (by omega)]; rfl)))))))))⟩
theorem preq_k5 {l : List S8} (hn : 13 ≤ l.length) (hl : l.length ≤ 1000000) (hx : ∀ i, (l.getD i []).length ≤ 10000) : ∃ m, RR none 61 [.ptr 0 0, num 5] (bx l 1) = some (resV ((bodyR 5 l).map reqA), bx l m) := by
  have body := eq_prequestK5 RR LL (strs l) 1
  unfold bodyR
  have q0 := pnumber_run (l := l) (i := 1) (by omega) hl (by have := hx (1); omega)
  cases e0 : numR (l.getD (1) []) with
  | error x =>
    rw [e0] at q0
    exact ⟨_, run_of_body (body.trans (rd_pan q0 rfl rfl))⟩
  | ok v0 =>
  rw [e0] at q0
  have q1 := pnumber_run (l := l) (i := 2) (by omega) hl (by have := hx (2); omega)
  cases e1 : numR (l.getD (2) []) with
  | error x =>
    rw [e1] at q1
    exact ⟨_, run_of_body (body.trans (rd_ok q0 rfl (okI _) (rd_pan q1 rfl rfl)))⟩
  | ok v1 =>
  rw [e1] at q1
  have q2 := popt_run (l := l) (i := 3) (by omega) hl
  cases e2 : optR (l.getD (3) []) with
  | error x =>
    rw [e2] at q2
    exact ⟨_, run_of_body (body.trans (rd_ok q0 rfl (okI _) (rd_ok q1 rfl (okI _) (rd_pan q2 rfl rfl))))⟩
  | ok v2 =>
  rw [e2] at q2
  have q3 := ptext_run (l := l) (i := 4) (by omega) hl (hx _)
  cases e3 : txtR (l.getD (4) []) with
  | error x =>
    rw [e3] at q3
    exact ⟨_, run_of_body (body.trans (rd_ok q0 rfl (okI _) (rd_ok q1 rfl (okI _) (rd_ok q2 rfl (okStr _) (rd_pan q3 rfl rfl)))))⟩
  | ok v3 =>
  rw [e3] at q3
  obtain ⟨m4, q4⟩ := pmsg_run (l := l) (i := 5) (by omega) hl hx
  cases e4 : msgR l (5) with
  | error x =>
    rw [e4] at q4
    exact ⟨_, run_of_body (body.trans (rd_ok q0 rfl (okI _) (rd_ok q1 rfl (okI _) (rd_ok q2 rfl (okStr _) (rd_ok q3 rfl (okStr _) (rd_pan q4 rfl rfl))))))⟩
  | ok v4 =>
  rw [e4] at q4
  exact ⟨_, run_of_body (body.trans (rd_ok q0 rfl (okI _) (rd_ok q1 rfl (okI _) (rd_ok q2 rfl (okStr _) (rd_ok q3 rfl (okStr _) (rd_ok q4 rfl (okM _) rfl))))))⟩
theorem preq_k6 {l : List S8} (hn : 6 ≤ l.length) (hl : l.length ≤ 1000000) (hx : ∀ i, (l.getD i []).length ≤ 10000) : ∃ m, RR none 61 [.ptr 0 0, num 6] (bx l 1) = some (resV ((bodyR 6 l).map reqA), bx l m) := by
  have body := eq_prequestK6 RR LL (strs l) 1
  unfold bodyR
  have q0 := pnumber_run (l := l) (i := 1) (by omega) hl (by have := hx (1); omega)
  cases e0 : numR (l.getD (1) []) with
  | error x =>
    rw [e0] at q0
    exact ⟨_, run_of_body (body.trans (rd_pan q0 rfl rfl))⟩
  | ok v0 =>
  rw [e0] at q0
  have q1 := pnumber_run (l := l) (i := 2) (by omega) hl (by have := hx (2); omega)
  cases e1 : numR (l.getD (2) []) with
  | error x =>
    rw [e1] at q1
    exact ⟨_, run_of_body (body.trans (rd_ok q0 rfl (okI _) (rd_pan q1 rfl rfl)))⟩
  | ok v1 =>
  rw [e1] at q1
  have q2 := pnumber_run (l := l) (i := 3) (by omega) hl (by have := hx (3); omega)
  cases e2 : numR (l.getD (3) []) with
  | error x =>
    rw [e2] at q2
    exact ⟨_, run_of_body (body.trans (rd_ok q0 rfl (okI _) (rd_ok q1 rfl (okI _) (rd_pan q2 rfl rfl))))⟩
  | ok v2 =>
  rw [e2] at q2
  have q4 := pnumber_run (l := l) (i := 5) (by omega) hl (by have := hx (5); omega)
  cases e4 : numR (l.getD (5) []) with
  | error x =>
    rw [e4] at q4
    exact ⟨_, run_of_body (body.trans (rd_ok q0 rfl (okI _) (rd_ok q1 rfl (okI _) (rd_ok q2 rfl (okI _) (cond_run (nx_in4 (by omega)) (rd_pan q4 rfl rfl))))))⟩
  | ok v4 =>
  rw [e4] at q4
  exact ⟨_, run_of_body (body.trans (rd_ok q0 rfl (okI _) (rd_ok q1 rfl (okI _) (rd_ok q2 rfl (okI _) (cond_run (nx_in4 (by omega)) (rd_ok q4 rfl (okI _) (by rw [← strs_get l 4 (by omega)]; rfl)))))))⟩
theorem preq_k7 {l : List S8} (hn : 4 ≤ l.length) (hl : l.length ≤ 1000000) (hx : ∀ i, (l.getD i []).length ≤ 10000) : ∃ m, RR none 61 [.ptr 0 0, num 7] (bx l 1) = some (resV ((bodyR 7 l).map reqA), bx l m) := by
  have body := eq_prequestK7 RR LL (strs l) 1
  unfold bodyR
  have q0 := pnumber_run (l := l) (i := 1) (by omega) hl (by have := hx (1); omega)
  cases e0 : numR (l.getD (1) []) with
  | error x =>
    rw [e0] at q0
    exact ⟨_, run_of_body (body.trans (rd_pan q0 rfl rfl))⟩
  | ok v0 =>
  rw [e0] at q0
  have q1 := pnumber_run (l := l) (i := 2) (by omega) hl (by have := hx (2); omega)
  cases e1 : numR (l.getD (2) []) with
  | error x =>
    rw [e1] at q1
    exact ⟨_, run_of_body (body.trans (rd_ok q0 rfl (okI _) (rd_pan q1 rfl rfl)))⟩
  | ok v1 =>
  rw [e1] at q1
  have q2 := pnumber_run (l := l) (i := 3) (by omega) hl (by have := hx (3); omega)
  cases e2 : numR (l.getD (3) []) with
  | error x =>
    rw [e2] at q2
    exact ⟨_, run_of_body (body.trans (rd_ok q0 rfl (okI _) (rd_ok q1 rfl (okI _) (rd_pan q2 rfl rfl))))⟩
  | ok v2 =>
  rw [e2] at q2
  exact ⟨_, run_of_body (body.trans (rd_ok q0 rfl (okI _) (rd_ok q1 rfl (okI _) (rd_ok q2 rfl (okI _) rfl))))⟩
theorem preq_k8 {l : List S8} (hn : 5 ≤ l.length) (hl : l.length ≤ 1000000) (hx : ∀ i, (l.getD i []).length ≤ 10000) : ∃ m, RR none 61 [.ptr 0 0, num 8] (bx l 1) = some (resV ((bodyR 8 l).map reqA), bx l m) := by
  have body := eq_prequestK8 RR LL (strs l) 1
  unfold bodyR
  have q0 := pnumber_run (l := l) (i := 1) (by omega) hl (by have := hx (1); omega)
  cases e0 : numR (l.getD (1) []) with
  | error x =>
    rw [e0] at q0
    exact ⟨_, run_of_body (body.trans (rd_pan q0 rfl rfl))⟩
  | ok v0 =>
  rw [e0] at q0
  have q1 := pnumber_run (l := l) (i := 2) (by omega) hl (by have := hx (2); omega)
  cases e1 : numR (l.getD (2) []) with
  | error x =>
    rw [e1] at q1
    exact ⟨_, run_of_body (body.trans (rd_ok q0 rfl (okI _) (rd_pan q1 rfl rfl)))⟩
  | ok v1 =>
  rw [e1] at q1
  have q2 := pnumber_run (l := l) (i := 3) (by omega) hl (by have := hx (3); omega)
  cases e2 : numR (l.getD (3) []) with
  | error x =>
    rw [e2] at q2
    exact ⟨_, run_of_body (body.trans (rd_ok q0 rfl (okI _) (rd_ok q1 rfl (okI _) (rd_pan q2 rfl rfl))))⟩
  | ok v2 =>
  rw [e2] at q2
  have q3 := ptruth_run (l := l) (i := 4) (by omega) hl
  cases e3 : truR (l.getD (4) []) with
  | error x =>
    rw [e3] at q3
    exact ⟨_, run_of_body (body.trans (rd_ok q0 rfl (okI _) (rd_ok q1 rfl (okI _) (rd_ok q2 rfl (okI _) (rd_pan q3 rfl rfl)))))⟩
  | ok v3 =>
  rw [e3] at q3
  exact ⟨_, run_of_body (body.trans (rd_ok q0 rfl (okI _) (rd_ok q1 rfl (okI _) (rd_ok q2 rfl (okI _) (rd_ok q3 rfl (okB _) rfl)))))⟩
theorem preq_k9 {l : List S8} (hn : 5 ≤ l.length) (hl : l.length ≤ 1000000) (hx : ∀ i, (l.getD i []).length ≤ 10000) : ∃ m, RR none 61 [.ptr 0 0, num 9] (bx l 1) = some (resV ((bodyR 9 l).map reqA), bx l m) := by
  have body := eq_prequestK9 RR LL (strs l) 1
  unfold bodyR
  have q0 := pnumber_run (l := l) (i := 1) (by omega) hl (by have := hx (1); omega)
  cases e0 : numR (l.getD (1) []) with
  | error x =>
    rw [e0] at q0
    exact ⟨_, run_of_body (body.trans (rd_pan q0 rfl rfl))⟩
  | ok v0 =>
  rw [e0] at q0
  have q1 := pnumber_run (l := l) (i := 2) (by omega) hl (by have := hx (2); omega)
  cases e1 : numR (l.getD (2) []) with
  | error x =>
    rw [e1] at q1
    exact ⟨_, run_of_body (body.trans (rd_ok q0 rfl (okI _) (rd_pan q1 rfl rfl)))⟩
  | ok v1 =>
  rw [e1] at q1
  have q2 := pnumber_run (l := l) (i := 3) (by omega) hl (by have := hx (3); omega)
  cases e2 : numR (l.getD (3) []) with
  | error x =>
    rw [e2] at q2
    exact ⟨_, run_of_body (body.trans (rd_ok q0 rfl (okI _) (rd_ok q1 rfl (okI _) (rd_pan q2 rfl rfl))))⟩
  | ok v2 =>
  rw [e2] at q2
  have q3 := ptruth_run (l := l) (i := 4) (by omega) hl
  cases e3 : truR (l.getD (4) []) with
  | error x =>
    rw [e3] at q3
    exact ⟨_, run_of_body (body.trans (rd_ok q0 rfl (okI _) (rd_ok q1 rfl (okI _) (rd_ok q2 rfl (okI _) (rd_pan q3 rfl rfl)))))⟩
  | ok v3 =>
  rw [e3] at q3
  exact ⟨_, run_of_body (body.trans (rd_ok q0 rfl (okI _) (rd_ok q1 rfl (okI _) (rd_ok q2 rfl (okI _) (rd_ok q3 rfl (okB _) rfl)))))⟩
theorem preq_k10 {l : List S8} (hn : 3 ≤ l.length) (hl : l.length ≤ 1000000) (hx : ∀ i, (l.getD i []).length ≤ 10000) : ∃ m, RR none 61 [.ptr 0 0, num 10] (bx l 1) = some (resV ((bodyR 10 l).map reqA), bx l m) := by
  have body := eq_prequestK10 RR LL (strs l) 1
  unfold bodyR
  have q0 := pnumber_run (l := l) (i := 1) (by omega) hl (by have := hx (1); omega)
  cases e0 : numR (l.getD (1) []) with
  | error x =>
    rw [e0] at q0
    exact ⟨_, run_of_body (body.trans (rd_pan q0 rfl rfl))⟩
  | ok v0 =>
  rw [e0] at q0
  have q1 := pnumber_run (l := l) (i := 2) (by omega) hl (by have := hx (2); omega)
  cases e1 : numR (l.getD (2) []) with
  | error x =>
    rw [e1] at q1
    exact ⟨_, run_of_body (body.trans (rd_ok q0 rfl (okI _) (rd_pan q1 rfl rfl)))⟩
  | ok v1 =>
  rw [e1] at q1
  exact ⟨_, run_of_body (body.trans (rd_ok q0 rfl (okI _) (rd_ok q1 rfl (okI _) rfl)))⟩
theorem preq_k11 {l : List S8} (hn : 3 ≤ l.length) (hl : l.length ≤ 1000000) (hx : ∀ i, (l.getD i []).length ≤ 10000) : ∃ m, RR none 61 [.ptr 0 0, num 11] (bx l 1) = some (resV ((bodyR 11 l).map reqA), bx l m) := by
  have body := eq_prequestK11 RR LL (strs l) 1
  unfold bodyR
  have q0 := pnumber_run (l := l) (i := 1) (by omega) hl (by have := hx (1); omega)
  cases e0 : numR (l.getD (1) []) with
  | error x =>
    rw [e0] at q0
    exact ⟨_, run_of_body (body.trans (rd_pan q0 rfl rfl))⟩
  | ok v0 =>
  rw [e0] at q0
  have q1 := pnumber_run (l := l) (i := 2) (by omega) hl (by have := hx (2); omega)
  cases e1 : numR (l.getD (2) []) with
  | error x =>
    rw [e1] at q1
    exact ⟨_, run_of_body (body.trans (rd_ok q0 rfl (okI _) (rd_pan q1 rfl rfl)))⟩
  | ok v1 =>
  rw [e1] at q1
  exact ⟨_, run_of_body (body.trans (rd_ok q0 rfl (okI _) (rd_ok q1 rfl (okI _) rfl)))⟩
theorem preq_k12 {l : List S8} (hn : 3 ≤ l.length) (hl : l.length ≤ 1000000) (hx : ∀ i, (l.getD i []).length ≤ 10000) : ∃ m, RR none 61 [.ptr 0 0, num 12] (bx l 1) = some (resV ((bodyR 12 l).map reqA), bx l m) := by
  have body := eq_prequestK12 RR LL (strs l) 1
  unfold bodyR
  have q0 := pnumber_run (l := l) (i := 1) (by omega) hl (by have := hx (1); omega)
  cases e0 : numR (l.getD (1) []) with
  | error x =>
    rw [e0] at q0
    exact ⟨_, run_of_body (body.trans (rd_pan q0 rfl rfl))⟩
  | ok v0 =>
  rw [e0] at q0
  have q1 := pnumber_run (l := l) (i := 2) (by omega) hl (by have := hx (2); omega)
  cases e1 : numR (l.getD (2) []) with
  | error x =>
    rw [e1] at q1
    exact ⟨_, run_of_body (body.trans (rd_ok q0 rfl (okI _) (rd_pan q1 rfl rfl)))⟩
  | ok v1 =>
  rw [e1] at q1
  exact ⟨_, run_of_body (body.trans (rd_ok q0 rfl (okI _) (rd_ok q1 rfl (okI _) rfl)))⟩
theorem preq_k13 {l : List S8} (hn : 4 ≤ l.length) (hl : l.length ≤ 1000000) (hx : ∀ i, (l.getD i []).length ≤ 10000) : ∃ m, RR none 61 [.ptr 0 0, num 13] (bx l 1) = some (resV ((bodyR 13 l).map reqA), bx l m) := by
  have body := eq_prequestK13 RR LL (strs l) 1
  unfold bodyR
  have q0 := pnumber_run (l := l) (i := 1) (by omega) hl (by have := hx (1); omega)
  cases e0 : numR (l.getD (1) []) with
  | error x =>
    rw [e0] at q0
    exact ⟨_, run_of_body (body.trans (rd_pan q0 rfl rfl))⟩
  | ok v0 =>
  rw [e0] at q0
  have q1 := pnumber_run (l := l) (i := 2) (by omega) hl (by have := hx (2); omega)
  cases e1 : numR (l.getD (2) []) with
  | error x =>
    rw [e1] at q1
    exact ⟨_, run_of_body (body.trans (rd_ok q0 rfl (okI _) (rd_pan q1 rfl rfl)))⟩
  | ok v1 =>
  rw [e1] at q1
  exact ⟨_, run_of_body (body.trans (rd_ok q0 rfl (okI _) (rd_ok q1 rfl (okI _) (cond_run (nx_in3 (by omega)) (by rw [← strs_get l 3 (by omega)]; rfl)))))⟩
theorem preq_k14 {l : List S8} (hn : 4 ≤ l.length) (hl : l.length ≤ 1000000) (hx : ∀ i, (l.getD i []).length ≤ 10000) : ∃ m, RR none 61 [.ptr 0 0, num 14] (bx l 1) = some (resV ((bodyR 14 l).map reqA), bx l m) := by
  have body := eq_prequestK14 RR LL (strs l) 1
  unfold bodyR
  have q0 := pnumber_run (l := l) (i := 1) (by omega) hl (by have := hx (1); omega)
  cases e0 : numR (l.getD (1) []) with
  | error x =>
    rw [e0] at q0
    exact ⟨_, run_of_body (body.trans (rd_pan q0 rfl rfl))⟩
  | ok v0 =>
  rw [e0] at q0
  have q1 := pnumber_run (l := l) (i := 2) (by omega) hl (by have := hx (2); omega)
  cases e1 : numR (l.getD (2) []) with
  | error x =>
    rw [e1] at q1
    exact ⟨_, run_of_body (body.trans (rd_ok q0 rfl (okI _) (rd_pan q1 rfl rfl)))⟩
  | ok v1 =>
  rw [e1] at q1
  exact ⟨_, run_of_body (body.trans (rd_ok q0 rfl (okI _) (rd_ok q1 rfl (okI _) (cond_run (nx_in3 (by omega)) (by rw [← strs_get l 3 (by omega)]; rfl)))))⟩
theorem preq_k15 {l : List S8} (hn : 4 ≤ l.length) (hl : l.length ≤ 1000000) (hx : ∀ i, (l.getD i []).length ≤ 10000) : ∃ m, RR none 61 [.ptr 0 0, num 15] (bx l 1) = some (resV ((bodyR 15 l).map reqA), bx l m) := by
  have body := eq_prequestK15 RR LL (strs l) 1
  unfold bodyR
  have q0 := pnumber_run (l := l) (i := 1) (by omega) hl (by have := hx (1); omega)
  cases e0 : numR (l.getD (1) []) with
  | error x =>
    rw [e0] at q0
    exact ⟨_, run_of_body (body.trans (rd_pan q0 rfl rfl))⟩
  | ok v0 =>
  rw [e0] at q0
  have q1 := pnumber_run (l := l) (i := 2) (by omega) hl (by have := hx (2); omega)
  cases e1 : numR (l.getD (2) []) with
  | error x =>
    rw [e1] at q1
    exact ⟨_, run_of_body (body.trans (rd_ok q0 rfl (okI _) (rd_pan q1 rfl rfl)))⟩
  | ok v1 =>
  rw [e1] at q1
  exact ⟨_, run_of_body (body.trans (rd_ok q0 rfl (okI _) (rd_ok q1 rfl (okI _) (cond_run (nx_in3 (by omega)) (by rw [← strs_get l 3 (by omega)]; rfl)))))⟩

end Go.Proofs.YtmocefjnplmibaaGreatDoor
