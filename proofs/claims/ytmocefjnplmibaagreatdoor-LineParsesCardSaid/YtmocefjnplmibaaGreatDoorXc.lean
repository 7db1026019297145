/- The reference's reader of messages and requests. -/
import Derived.Test.YtmocefjnplmibaaGreatDoorXb
import Derived.Test.YtmocefjnplmibaaGreatDoorOa
namespace Go.Proofs.YtmocefjnplmibaaGreatDoor
open Go Go.Den
set_option maxRecDepth 100000

theorem rx {β : Type} {x : Option (Res × Heap)} {v : AV} {h h0 : Heap} {t : TypeId} {K : Res × Heap → Option β} {r : Option β} (hx : x = some (.ret v, h)) (ht : okRes PP t (.ret v) = true) (hK : K (.ret v, h) = r) (hh : okHeap h0 h = true := by rfl) :
    (x.bind fun rh => bif okHeap h0 rh.2 then bif okRes PP t rh.1 then K rh else none else none) = r :=
  bind_run hx (cond_run hh (cond_run ht hK))
theorem ln3 {l : List S8} (h : 4 ≤ l.length) : decide ((((strs l).length : Nat) : Int) ≤ 3) = false := by rw [List.length_map]; exact dec_no (by omega)
theorem ln4 {l : List S8} (h : 5 ≤ l.length) : decide ((((strs l).length : Nat) : Int) ≤ 4) = false := by rw [List.length_map]; exact dec_no (by omega)
theorem xmsg_dead (l : List S8) (i : Nat) {e : Int} (he : e ≠ 0) : RR none 106 [.ptr 0 0] (by3 l i e) = some (.ret (msgA .zero), by3 l i e) :=
  run_of_body ((eq_xMsg RR LL (strs l) (i : Int) e).trans (rx (xtxt_dead l (i) he) (okStr _) (rx (xtxt_dead l (i) he) (okStr _) (rx (xnum_dead l (i) he) (okI _) (rx (xtru_dead l (i) he) (okB _) (rx (xnum_dead l (i) he) (okI _) (rx (xnum_dead l (i) he) (okI _) (rx (xopt_dead l (i) he) (okStr _) (rx (xnum_dead l (i) he) (okI _) (rx (xprops_dead l (i) he) (okP _) rfl))))))))))
theorem xmsg_run {l : List S8} {i : Nat} (hi : i + 8 ≤ l.length) (hl : l.length ≤ 1000000) (hx : ∀ i, (l.getD i []).length ≤ 10000) :
    ∃ m g, g.props.length ≤ l.length ∧ RR none 106 [.ptr 0 0] (by3 l i 0) = some (.ret (msgA g), by3 l m (errE (msgR l i))) ∧ ∀ r, msgR l i = .ok r → g = r := by
  have body := eq_xMsg RR LL (strs l) (i : Int) 0
  unfold msgR
  have q0 := xtxt_live (l := l) (i := i) (by omega) hl (by have := hx (i); omega)
  cases e0 : txtR (l.getD (i) []) with
  | error x =>
    have hne : x ≠ 0 := txtR_good _ _ e0
    rw [e0] at q0
    exact ⟨_, ⟨_, _, _, _, _, _, _, _, []⟩, Nat.zero_le _, run_of_body (body.trans (rx q0 (okStr _) (rx (xtxt_dead l (i + 1) hne) (okStr _) (rx (xnum_dead l (i + 1) hne) (okI _) (rx (xtru_dead l (i + 1) hne) (okB _) (rx (xnum_dead l (i + 1) hne) (okI _) (rx (xnum_dead l (i + 1) hne) (okI _) (rx (xopt_dead l (i + 1) hne) (okStr _) (rx (xnum_dead l (i + 1) hne) (okI _) (rx (xprops_dead l (i + 1) hne) (okP _) rfl)))))))))), fun r h => by cases h⟩
  | ok v0 =>
  rw [e0] at q0
  have q1 := xtxt_live (l := l) (i := i + 1) (by omega) hl (by have := hx (i + 1); omega)
  cases e1 : txtR (l.getD (i + 1) []) with
  | error x =>
    have hne : x ≠ 0 := txtR_good _ _ e1
    rw [e1] at q1
    exact ⟨_, ⟨_, _, _, _, _, _, _, _, []⟩, Nat.zero_le _, run_of_body (body.trans (rx q0 (okStr _) (rx q1 (okStr _) (rx (xnum_dead l (i + 1 + 1) hne) (okI _) (rx (xtru_dead l (i + 1 + 1) hne) (okB _) (rx (xnum_dead l (i + 1 + 1) hne) (okI _) (rx (xnum_dead l (i + 1 + 1) hne) (okI _) (rx (xopt_dead l (i + 1 + 1) hne) (okStr _) (rx (xnum_dead l (i + 1 + 1) hne) (okI _) (rx (xprops_dead l (i + 1 + 1) hne) (okP _) rfl)))))))))), fun r h => by cases h⟩
  | ok v1 =>
  rw [e1] at q1
  have q2 := xnum_live (l := l) (i := i + 2) (by omega) hl (by have := hx (i + 2); omega)
  cases e2 : numR (l.getD (i + 2) []) with
  | error x =>
    have hne : x ≠ 0 := numR_good _ _ e2
    rw [e2] at q2
    exact ⟨_, ⟨_, _, _, _, _, _, _, _, []⟩, Nat.zero_le _, run_of_body (body.trans (rx q0 (okStr _) (rx q1 (okStr _) (rx q2 (okI _) (rx (xtru_dead l (i + 2 + 1) hne) (okB _) (rx (xnum_dead l (i + 2 + 1) hne) (okI _) (rx (xnum_dead l (i + 2 + 1) hne) (okI _) (rx (xopt_dead l (i + 2 + 1) hne) (okStr _) (rx (xnum_dead l (i + 2 + 1) hne) (okI _) (rx (xprops_dead l (i + 2 + 1) hne) (okP _) rfl)))))))))), fun r h => by cases h⟩
  | ok v2 =>
  rw [e2] at q2
  have q3 := xtru_live (l := l) (i := i + 3) (by omega) hl
  cases e3 : truR (l.getD (i + 3) []) with
  | error x =>
    have hne : x ≠ 0 := truR_good _ _ e3
    rw [e3] at q3
    exact ⟨_, ⟨_, _, _, _, _, _, _, _, []⟩, Nat.zero_le _, run_of_body (body.trans (rx q0 (okStr _) (rx q1 (okStr _) (rx q2 (okI _) (rx q3 (okB _) (rx (xnum_dead l (i + 3 + 1) hne) (okI _) (rx (xnum_dead l (i + 3 + 1) hne) (okI _) (rx (xopt_dead l (i + 3 + 1) hne) (okStr _) (rx (xnum_dead l (i + 3 + 1) hne) (okI _) (rx (xprops_dead l (i + 3 + 1) hne) (okP _) rfl)))))))))), fun r h => by cases h⟩
  | ok v3 =>
  rw [e3] at q3
  have q4 := xnum_live (l := l) (i := i + 4) (by omega) hl (by have := hx (i + 4); omega)
  cases e4 : numR (l.getD (i + 4) []) with
  | error x =>
    have hne : x ≠ 0 := numR_good _ _ e4
    rw [e4] at q4
    exact ⟨_, ⟨_, _, _, _, _, _, _, _, []⟩, Nat.zero_le _, run_of_body (body.trans (rx q0 (okStr _) (rx q1 (okStr _) (rx q2 (okI _) (rx q3 (okB _) (rx q4 (okI _) (rx (xnum_dead l (i + 4 + 1) hne) (okI _) (rx (xopt_dead l (i + 4 + 1) hne) (okStr _) (rx (xnum_dead l (i + 4 + 1) hne) (okI _) (rx (xprops_dead l (i + 4 + 1) hne) (okP _) rfl)))))))))), fun r h => by cases h⟩
  | ok v4 =>
  rw [e4] at q4
  have q5 := xnum_live (l := l) (i := i + 5) (by omega) hl (by have := hx (i + 5); omega)
  cases e5 : numR (l.getD (i + 5) []) with
  | error x =>
    have hne : x ≠ 0 := numR_good _ _ e5
    rw [e5] at q5
    exact ⟨_, ⟨_, _, _, _, _, _, _, _, []⟩, Nat.zero_le _, run_of_body (body.trans (rx q0 (okStr _) (rx q1 (okStr _) (rx q2 (okI _) (rx q3 (okB _) (rx q4 (okI _) (rx q5 (okI _) (rx (xopt_dead l (i + 5 + 1) hne) (okStr _) (rx (xnum_dead l (i + 5 + 1) hne) (okI _) (rx (xprops_dead l (i + 5 + 1) hne) (okP _) rfl)))))))))), fun r h => by cases h⟩
  | ok v5 =>
  rw [e5] at q5
  have q6 := xopt_live (l := l) (i := i + 6) (by omega) hl
  cases e6 : optR (l.getD (i + 6) []) with
  | error x =>
    have hne : x ≠ 0 := optR_good _ _ e6
    rw [e6] at q6
    exact ⟨_, ⟨_, _, _, _, _, _, _, _, []⟩, Nat.zero_le _, run_of_body (body.trans (rx q0 (okStr _) (rx q1 (okStr _) (rx q2 (okI _) (rx q3 (okB _) (rx q4 (okI _) (rx q5 (okI _) (rx q6 (okStr _) (rx (xnum_dead l (i + 6 + 1) hne) (okI _) (rx (xprops_dead l (i + 6 + 1) hne) (okP _) rfl)))))))))), fun r h => by cases h⟩
  | ok v6 =>
  rw [e6] at q6
  have q7 := xnum_live (l := l) (i := i + 7) (by omega) hl (by have := hx (i + 7); omega)
  cases e7 : numR (l.getD (i + 7) []) with
  | error x =>
    have hne : x ≠ 0 := numR_good _ _ e7
    rw [e7] at q7
    exact ⟨_, ⟨_, _, _, _, _, _, _, _, []⟩, Nat.zero_le _, run_of_body (body.trans (rx q0 (okStr _) (rx q1 (okStr _) (rx q2 (okI _) (rx q3 (okB _) (rx q4 (okI _) (rx q5 (okI _) (rx q6 (okStr _) (rx q7 (okI _) (rx (xprops_dead l (i + 7 + 1) hne) (okP _) rfl)))))))))), fun r h => by cases h⟩
  | ok v7 =>
  rw [e7] at q7
  cases e8 : prpsR (l.drop (i + 8)) with
  | error x =>
    obtain ⟨m8, b8, hb8, q8⟩ := xprops_err hl hx (i := i + 8) (by omega) e8
    exact ⟨_, ⟨_, _, _, _, _, _, _, _, _⟩, hb8, run_of_body (body.trans (rx q0 (okStr _) (rx q1 (okStr _) (rx q2 (okI _) (rx q3 (okB _) (rx q4 (okI _) (rx q5 (okI _) (rx q6 (okStr _) (rx q7 (okI _) (rx q8 (okP _) rfl)))))))))), fun r h => by cases h⟩
  | ok v8 =>
  have q8 := xprops_ok hl hx (i := i + 8) (by omega) e8
  have hb8 : v8.length ≤ l.length := by have := prpsR_len e8; rw [List.length_drop] at this; omega
  exact ⟨_, ⟨_, _, _, _, _, _, _, _, _⟩, hb8, run_of_body (body.trans (rx q0 (okStr _) (rx q1 (okStr _) (rx q2 (okI _) (rx q3 (okB _) (rx q4 (okI _) (rx q5 (okI _) (rx q6 (okStr _) (rx q7 (okI _) (rx q8 (okP _) rfl)))))))))), fun r h => by injection h with h⟩

/-! ### Requests -/

def restB (k c s : Int) (l : List S8) : Except Int Req :=
  bif k == 1 then (kndR (l.getD 4 [])).bind fun d => (optR (l.getD 5 [])).bind fun a => .ok { Req.zero with kind := k, conn := c, serial := s, ex := ⟨l.getD 3 [], d, a⟩ }
  else bif k == 2 then (numR (l.getD 4 [])).bind fun x => (numR (l.getD 5 [])).bind fun t => (numR (l.getD 6 [])).bind fun a => (optR (l.getD 7 [])).bind fun d => .ok { Req.zero with kind := k, conn := c, serial := s, sp := ⟨l.getD 3 [], x, t, a, d⟩ }
  else bif (bif k == 3 then true else k == 4) then (txtR (l.getD 5 [])).bind fun y => (truR (l.getD 6 [])).bind fun a => (prpsR (l.drop 7)).bind fun p => .ok { Req.zero with kind := k, conn := c, serial := s, bd := ⟨l.getD 3 [], l.getD 4 [], y, a, p⟩ }
  else bif k == 5 then (optR (l.getD 3 [])).bind fun n => (txtR (l.getD 4 [])).bind fun y => (msgR l 5).bind fun m => .ok { Req.zero with kind := k, conn := c, serial := s, name := n, key := y, msg := m }
  else bif k == 6 then (numR (l.getD 3 [])).bind fun t => (numR (l.getD 5 [])).bind fun m => .ok { Req.zero with kind := k, conn := c, serial := s, tag := t, name := l.getD 4 [], limit := m }
  else bif k == 7 then (numR (l.getD 3 [])).bind fun t => .ok { Req.zero with kind := k, conn := c, serial := s, tag := t }
  else bif (bif k == 8 then true else k == 9) then (numR (l.getD 3 [])).bind fun t => (truR (l.getD 4 [])).bind fun f => .ok { Req.zero with kind := k, conn := c, serial := s, tag := t, flag := f }
  else bif decide (13 ≤ k) then .ok { Req.zero with kind := k, conn := c, serial := s, name := l.getD 3 [] } else .ok { Req.zero with kind := k, conn := c, serial := s }
theorem body_rest (k : Int) (l : List S8) : bodyR k l = (numR (l.getD 1 [])).bind fun c => (numR (l.getD 2 [])).bind fun s => restB k c s l := rfl
abbrev req0 (k c s : Int) : Req := { Req.zero with kind := k, conn := c, serial := s }
def Small (r : Req) (n : Nat) : Prop := r.bd.mtch.length ≤ n ∧ r.msg.props.length ≤ n
theorem rb_k1 {l : List S8} (c s : Int) (hn : 6 ≤ l.length) (hl : l.length ≤ 1000000) (hx : ∀ i, (l.getD i []).length ≤ 10000) :
    ∃ m g, Small g l.length ∧ RR none 66 [.ptr 0 0, reqA (req0 1 c s)] (by3 l 3 0) = some (.ret (reqA g), by3 l m (errE (restB 1 c s l))) ∧ ∀ r, restB 1 c s l = .ok r → g = r := by
  have body := eq_rbodyK1 RR LL (strs l) 3 0 c s 0 0 false [] [] [] 0 [] [] 0 0 0 [] [] [] [] false [] [] [] 0 false 0 0 [] 0 []
  unfold restB
  have q1 := xknd_live (l := l) (i := 4) (by omega) hl
  cases e1 : kndR (l.getD (4) []) with
  | error x =>
    have hne : x ≠ 0 := kndR_good _ _ e1
    rw [e1] at q1
    exact ⟨_, ⟨_, _, _, _, _, _, _, _, ⟨_, _, _⟩, ⟨_, _, _, _, _⟩, ⟨_, _, _, _, []⟩, ⟨_, _, _, _, _, _, _, _, []⟩⟩, ⟨Nat.zero_le _, Nat.zero_le _⟩, run_of_body (body.trans (cond_run rfl (cond_not (ln3 (by omega)) (cond_run (nx_in3 (by omega)) (rx q1 (okI _) (rx (xopt_dead l (4 + 1) hne) (okStr _) rfl)))))), fun r h => by cases h⟩
  | ok v1 =>
  rw [e1] at q1
  have q2 := xopt_live (l := l) (i := 5) (by omega) hl
  cases e2 : optR (l.getD (5) []) with
  | error x =>
    have hne : x ≠ 0 := optR_good _ _ e2
    rw [e2] at q2
    exact ⟨_, ⟨_, _, _, _, _, _, _, _, ⟨_, _, _⟩, ⟨_, _, _, _, _⟩, ⟨_, _, _, _, []⟩, ⟨_, _, _, _, _, _, _, _, []⟩⟩, ⟨Nat.zero_le _, Nat.zero_le _⟩, run_of_body (body.trans (cond_run rfl (cond_not (ln3 (by omega)) (cond_run (nx_in3 (by omega)) (rx q1 (okI _) (rx q2 (okStr _) rfl)))))), fun r h => by cases h⟩
  | ok v2 =>
  rw [e2] at q2
  exact ⟨_, { Req.zero with kind := 1, conn := c, serial := s, ex := ⟨l.getD 3 [], v1, v2⟩ }, ⟨Nat.zero_le _, Nat.zero_le _⟩, run_of_body (body.trans (cond_run rfl (cond_not (ln3 (by omega)) (cond_run (nx_in3 (by omega)) (rx q1 (okI _) (rx q2 (okStr _) (by rw [← strs_get l 3 (by omega)]; rfl))))))), fun r h => by injection h with h⟩
theorem rd_k1 (l : List S8) (i : Nat) (c s : Int) {e : Int} (he : e ≠ 0) : ∃ g, Small g l.length ∧ RR none 66 [.ptr 0 0, reqA (req0 1 c s)] (by3 l i e) = some (.ret (reqA g), by3 l i e) := by
  exact ⟨⟨_, _, _, _, _, _, _, _, ⟨_, _, _⟩, ⟨_, _, _, _, _⟩, ⟨_, _, _, _, []⟩, ⟨_, _, _, _, _, _, _, _, []⟩⟩, ⟨Nat.zero_le _, Nat.zero_le _⟩, run_of_body ((eq_rbodyK1 RR LL (strs l) (i : Int) e c s 0 0 false [] [] [] 0 [] [] 0 0 0 [] [] [] [] false [] [] [] 0 false 0 0 [] 0 []).trans (cond_not (dead_c he) (rx (xknd_dead l (i) he) (okI _) (rx (xopt_dead l (i) he) (okStr _) rfl))))⟩
theorem rb_k2 {l : List S8} (c s : Int) (hn : 8 ≤ l.length) (hl : l.length ≤ 1000000) (hx : ∀ i, (l.getD i []).length ≤ 10000) :
    ∃ m g, Small g l.length ∧ RR none 66 [.ptr 0 0, reqA (req0 2 c s)] (by3 l 3 0) = some (.ret (reqA g), by3 l m (errE (restB 2 c s l))) ∧ ∀ r, restB 2 c s l = .ok r → g = r := by
  have body := eq_rbodyK2 RR LL (strs l) 3 0 c s 0 0 false [] [] [] 0 [] [] 0 0 0 [] [] [] [] false [] [] [] 0 false 0 0 [] 0 []
  unfold restB
  have q1 := xnum_live (l := l) (i := 4) (by omega) hl (by have := hx (4); omega)
  cases e1 : numR (l.getD (4) []) with
  | error x =>
    have hne : x ≠ 0 := numR_good _ _ e1
    rw [e1] at q1
    exact ⟨_, ⟨_, _, _, _, _, _, _, _, ⟨_, _, _⟩, ⟨_, _, _, _, _⟩, ⟨_, _, _, _, []⟩, ⟨_, _, _, _, _, _, _, _, []⟩⟩, ⟨Nat.zero_le _, Nat.zero_le _⟩, run_of_body (body.trans (cond_run rfl (cond_not (ln3 (by omega)) (cond_run (nx_in3 (by omega)) (rx q1 (okI _) (rx (xnum_dead l (4 + 1) hne) (okI _) (rx (xnum_dead l (4 + 1) hne) (okI _) (rx (xopt_dead l (4 + 1) hne) (okStr _) rfl)))))))), fun r h => by cases h⟩
  | ok v1 =>
  rw [e1] at q1
  have q2 := xnum_live (l := l) (i := 5) (by omega) hl (by have := hx (5); omega)
  cases e2 : numR (l.getD (5) []) with
  | error x =>
    have hne : x ≠ 0 := numR_good _ _ e2
    rw [e2] at q2
    exact ⟨_, ⟨_, _, _, _, _, _, _, _, ⟨_, _, _⟩, ⟨_, _, _, _, _⟩, ⟨_, _, _, _, []⟩, ⟨_, _, _, _, _, _, _, _, []⟩⟩, ⟨Nat.zero_le _, Nat.zero_le _⟩, run_of_body (body.trans (cond_run rfl (cond_not (ln3 (by omega)) (cond_run (nx_in3 (by omega)) (rx q1 (okI _) (rx q2 (okI _) (rx (xnum_dead l (5 + 1) hne) (okI _) (rx (xopt_dead l (5 + 1) hne) (okStr _) rfl)))))))), fun r h => by cases h⟩
  | ok v2 =>
  rw [e2] at q2
  have q3 := xnum_live (l := l) (i := 6) (by omega) hl (by have := hx (6); omega)
  cases e3 : numR (l.getD (6) []) with
  | error x =>
    have hne : x ≠ 0 := numR_good _ _ e3
    rw [e3] at q3
    exact ⟨_, ⟨_, _, _, _, _, _, _, _, ⟨_, _, _⟩, ⟨_, _, _, _, _⟩, ⟨_, _, _, _, []⟩, ⟨_, _, _, _, _, _, _, _, []⟩⟩, ⟨Nat.zero_le _, Nat.zero_le _⟩, run_of_body (body.trans (cond_run rfl (cond_not (ln3 (by omega)) (cond_run (nx_in3 (by omega)) (rx q1 (okI _) (rx q2 (okI _) (rx q3 (okI _) (rx (xopt_dead l (6 + 1) hne) (okStr _) rfl)))))))), fun r h => by cases h⟩
  | ok v3 =>
  rw [e3] at q3
  have q4 := xopt_live (l := l) (i := 7) (by omega) hl
  cases e4 : optR (l.getD (7) []) with
  | error x =>
    have hne : x ≠ 0 := optR_good _ _ e4
    rw [e4] at q4
    exact ⟨_, ⟨_, _, _, _, _, _, _, _, ⟨_, _, _⟩, ⟨_, _, _, _, _⟩, ⟨_, _, _, _, []⟩, ⟨_, _, _, _, _, _, _, _, []⟩⟩, ⟨Nat.zero_le _, Nat.zero_le _⟩, run_of_body (body.trans (cond_run rfl (cond_not (ln3 (by omega)) (cond_run (nx_in3 (by omega)) (rx q1 (okI _) (rx q2 (okI _) (rx q3 (okI _) (rx q4 (okStr _) rfl)))))))), fun r h => by cases h⟩
  | ok v4 =>
  rw [e4] at q4
  exact ⟨_, { Req.zero with kind := 2, conn := c, serial := s, sp := ⟨l.getD 3 [], v1, v2, v3, v4⟩ }, ⟨Nat.zero_le _, Nat.zero_le _⟩, run_of_body (body.trans (cond_run rfl (cond_not (ln3 (by omega)) (cond_run (nx_in3 (by omega)) (rx q1 (okI _) (rx q2 (okI _) (rx q3 (okI _) (rx q4 (okStr _) (by rw [← strs_get l 3 (by omega)]; rfl))))))))), fun r h => by injection h with h⟩
theorem rd_k2 (l : List S8) (i : Nat) (c s : Int) {e : Int} (he : e ≠ 0) : ∃ g, Small g l.length ∧ RR none 66 [.ptr 0 0, reqA (req0 2 c s)] (by3 l i e) = some (.ret (reqA g), by3 l i e) := by
  exact ⟨⟨_, _, _, _, _, _, _, _, ⟨_, _, _⟩, ⟨_, _, _, _, _⟩, ⟨_, _, _, _, []⟩, ⟨_, _, _, _, _, _, _, _, []⟩⟩, ⟨Nat.zero_le _, Nat.zero_le _⟩, run_of_body ((eq_rbodyK2 RR LL (strs l) (i : Int) e c s 0 0 false [] [] [] 0 [] [] 0 0 0 [] [] [] [] false [] [] [] 0 false 0 0 [] 0 []).trans (cond_not (dead_c he) (rx (xnum_dead l (i) he) (okI _) (rx (xnum_dead l (i) he) (okI _) (rx (xnum_dead l (i) he) (okI _) (rx (xopt_dead l (i) he) (okStr _) rfl))))))⟩
theorem rb_k3 {l : List S8} (c s : Int) (hn : 7 ≤ l.length) (hl : l.length ≤ 1000000) (hx : ∀ i, (l.getD i []).length ≤ 10000) :
    ∃ m g, Small g l.length ∧ RR none 66 [.ptr 0 0, reqA (req0 3 c s)] (by3 l 3 0) = some (.ret (reqA g), by3 l m (errE (restB 3 c s l))) ∧ ∀ r, restB 3 c s l = .ok r → g = r := by
  have body := eq_rbodyK3 RR LL (strs l) 3 0 c s 0 0 false [] [] [] 0 [] [] 0 0 0 [] [] [] [] false [] [] [] 0 false 0 0 [] 0 []
  unfold restB
  have q2 := xtxt_live (l := l) (i := 5) (by omega) hl (by have := hx (5); omega)
  cases e2 : txtR (l.getD (5) []) with
  | error x =>
    have hne : x ≠ 0 := txtR_good _ _ e2
    rw [e2] at q2
    exact ⟨_, ⟨_, _, _, _, _, _, _, _, ⟨_, _, _⟩, ⟨_, _, _, _, _⟩, ⟨_, _, _, _, []⟩, ⟨_, _, _, _, _, _, _, _, []⟩⟩, ⟨Nat.zero_le _, Nat.zero_le _⟩, run_of_body (body.trans (cond_run rfl (cond_not (ln3 (by omega)) (cond_run (nx_in3 (by omega)) (cond_run rfl (cond_not (ln4 (by omega)) (cond_run (nx_in4 (by omega)) (rx q2 (okStr _) (rx (xtru_dead l (5 + 1) hne) (okB _) (rx (xprops_dead l (5 + 1) hne) (okP _) rfl)))))))))), fun r h => by cases h⟩
  | ok v2 =>
  rw [e2] at q2
  have q3 := xtru_live (l := l) (i := 6) (by omega) hl
  cases e3 : truR (l.getD (6) []) with
  | error x =>
    have hne : x ≠ 0 := truR_good _ _ e3
    rw [e3] at q3
    exact ⟨_, ⟨_, _, _, _, _, _, _, _, ⟨_, _, _⟩, ⟨_, _, _, _, _⟩, ⟨_, _, _, _, []⟩, ⟨_, _, _, _, _, _, _, _, []⟩⟩, ⟨Nat.zero_le _, Nat.zero_le _⟩, run_of_body (body.trans (cond_run rfl (cond_not (ln3 (by omega)) (cond_run (nx_in3 (by omega)) (cond_run rfl (cond_not (ln4 (by omega)) (cond_run (nx_in4 (by omega)) (rx q2 (okStr _) (rx q3 (okB _) (rx (xprops_dead l (6 + 1) hne) (okP _) rfl)))))))))), fun r h => by cases h⟩
  | ok v3 =>
  rw [e3] at q3
  cases e4 : prpsR (l.drop (7)) with
  | error x =>
    obtain ⟨m4, b4, hb4, q4⟩ := xprops_err hl hx (i := 7) (by omega) e4
    exact ⟨_, ⟨_, _, _, _, _, _, _, _, ⟨_, _, _⟩, ⟨_, _, _, _, _⟩, ⟨_, _, _, _, _⟩, ⟨_, _, _, _, _, _, _, _, _⟩⟩, ⟨hb4, Nat.zero_le _⟩, run_of_body (body.trans (cond_run rfl (cond_not (ln3 (by omega)) (cond_run (nx_in3 (by omega)) (cond_run rfl (cond_not (ln4 (by omega)) (cond_run (nx_in4 (by omega)) (rx q2 (okStr _) (rx q3 (okB _) (rx q4 (okP _) rfl)))))))))), fun r h => by cases h⟩
  | ok v4 =>
  have q4 := xprops_ok hl hx (i := 7) (by omega) e4
  have hb4 : v4.length ≤ l.length := by have := prpsR_len e4; rw [List.length_drop] at this; omega
  exact ⟨_, { Req.zero with kind := 3, conn := c, serial := s, bd := ⟨l.getD 3 [], l.getD 4 [], v2, v3, v4⟩ }, ⟨hb4, Nat.zero_le _⟩, run_of_body (body.trans (cond_run rfl (cond_not (ln3 (by omega)) (cond_run (nx_in3 (by omega)) (cond_run rfl (cond_not (ln4 (by omega)) (cond_run (nx_in4 (by omega)) (rx q2 (okStr _) (rx q3 (okB _) (rx q4 (okP _) (by rw [← strs_get l 3 (by omega)]; rw [← strs_get l 4 (by omega)]; rfl))))))))))), fun r h => by injection h with h⟩
theorem rd_k3 (l : List S8) (i : Nat) (c s : Int) {e : Int} (he : e ≠ 0) : ∃ g, Small g l.length ∧ RR none 66 [.ptr 0 0, reqA (req0 3 c s)] (by3 l i e) = some (.ret (reqA g), by3 l i e) := by
  exact ⟨⟨_, _, _, _, _, _, _, _, ⟨_, _, _⟩, ⟨_, _, _, _, _⟩, ⟨_, _, _, _, []⟩, ⟨_, _, _, _, _, _, _, _, []⟩⟩, ⟨Nat.zero_le _, Nat.zero_le _⟩, run_of_body ((eq_rbodyK3 RR LL (strs l) (i : Int) e c s 0 0 false [] [] [] 0 [] [] 0 0 0 [] [] [] [] false [] [] [] 0 false 0 0 [] 0 []).trans (cond_not (dead_c he) (cond_not (dead_c he) (rx (xtxt_dead l (i) he) (okStr _) (rx (xtru_dead l (i) he) (okB _) (rx (xprops_dead l (i) he) (okP _) rfl))))))⟩
theorem rb_k4 {l : List S8} (c s : Int) (hn : 7 ≤ l.length) (hl : l.length ≤ 1000000) (hx : ∀ i, (l.getD i []).length ≤ 10000) :
    ∃ m g, Small g l.length ∧ RR none 66 [.ptr 0 0, reqA (req0 4 c s)] (by3 l 3 0) = some (.ret (reqA g), by3 l m (errE (restB 4 c s l))) ∧ ∀ r, restB 4 c s l = .ok r → g = r := by
  have body := eq_rbodyK4 RR LL (strs l) 3 0 c s 0 0 false [] [] [] 0 [] [] 0 0 0 [] [] [] [] false [] [] [] 0 false 0 0 [] 0 []
  unfold restB
  have q2 := xtxt_live (l := l) (i := 5) (by omega) hl (by have := hx (5); omega)
  cases e2 : txtR (l.getD (5) []) with
  | error x =>
    have hne : x ≠ 0 := txtR_good _ _ e2
    rw [e2] at q2
    exact ⟨_, ⟨_, _, _, _, _, _, _, _, ⟨_, _, _⟩, ⟨_, _, _, _, _⟩, ⟨_, _, _, _, []⟩, ⟨_, _, _, _, _, _, _, _, []⟩⟩, ⟨Nat.zero_le _, Nat.zero_le _⟩, run_of_body (body.trans (cond_run rfl (cond_not (ln3 (by omega)) (cond_run (nx_in3 (by omega)) (cond_run rfl (cond_not (ln4 (by omega)) (cond_run (nx_in4 (by omega)) (rx q2 (okStr _) (rx (xtru_dead l (5 + 1) hne) (okB _) (rx (xprops_dead l (5 + 1) hne) (okP _) rfl)))))))))), fun r h => by cases h⟩
  | ok v2 =>
  rw [e2] at q2
  have q3 := xtru_live (l := l) (i := 6) (by omega) hl
  cases e3 : truR (l.getD (6) []) with
  | error x =>
    have hne : x ≠ 0 := truR_good _ _ e3
    rw [e3] at q3
    exact ⟨_, ⟨_, _, _, _, _, _, _, _, ⟨_, _, _⟩, ⟨_, _, _, _, _⟩, ⟨_, _, _, _, []⟩, ⟨_, _, _, _, _, _, _, _, []⟩⟩, ⟨Nat.zero_le _, Nat.zero_le _⟩, run_of_body (body.trans (cond_run rfl (cond_not (ln3 (by omega)) (cond_run (nx_in3 (by omega)) (cond_run rfl (cond_not (ln4 (by omega)) (cond_run (nx_in4 (by omega)) (rx q2 (okStr _) (rx q3 (okB _) (rx (xprops_dead l (6 + 1) hne) (okP _) rfl)))))))))), fun r h => by cases h⟩
  | ok v3 =>
  rw [e3] at q3
  cases e4 : prpsR (l.drop (7)) with
  | error x =>
    obtain ⟨m4, b4, hb4, q4⟩ := xprops_err hl hx (i := 7) (by omega) e4
    exact ⟨_, ⟨_, _, _, _, _, _, _, _, ⟨_, _, _⟩, ⟨_, _, _, _, _⟩, ⟨_, _, _, _, _⟩, ⟨_, _, _, _, _, _, _, _, _⟩⟩, ⟨hb4, Nat.zero_le _⟩, run_of_body (body.trans (cond_run rfl (cond_not (ln3 (by omega)) (cond_run (nx_in3 (by omega)) (cond_run rfl (cond_not (ln4 (by omega)) (cond_run (nx_in4 (by omega)) (rx q2 (okStr _) (rx q3 (okB _) (rx q4 (okP _) rfl)))))))))), fun r h => by cases h⟩
  | ok v4 =>
  have q4 := xprops_ok hl hx (i := 7) (by omega) e4
  have hb4 : v4.length ≤ l.length := by have := prpsR_len e4; rw [List.length_drop] at this; omega
  exact ⟨_, { Req.zero with kind := 4, conn := c, serial := s, bd := ⟨l.getD 3 [], l.getD 4 [], v2, v3, v4⟩ }, ⟨hb4, Nat.zero_le _⟩, run_of_body (body.trans (cond_run rfl (cond_not (ln3 (by omega)) (cond_run (nx_in3 (by omega)) (cond_run rfl (cond_not (ln4 (by omega)) (cond_run (nx_in4 (by omega)) (rx q2 (okStr _) (rx q3 (okB _) (rx q4 (okP _) (by rw [← strs_get l 3 (by omega)]; rw [← strs_get l 4 (by omega)]; rfl))))))))))), fun r h => by injection h with h⟩
theorem rd_k4 (l : List S8) (i : Nat) (c s : Int) {e : Int} (he : e ≠ 0) : ∃ g, Small g l.length ∧ RR none 66 [.ptr 0 0, reqA (req0 4 c s)] (by3 l i e) = some (.ret (reqA g), by3 l i e) := by
  exact ⟨⟨_, _, _, _, _, _, _, _, ⟨_, _, _⟩, ⟨_, _, _, _, _⟩, ⟨_, _, _, _, []⟩, ⟨_, _, _, _, _, _, _, _, []⟩⟩, ⟨Nat.zero_le _, Nat.zero_le _⟩, run_of_body ((eq_rbodyK4 RR LL (strs l) (i : Int) e c s 0 0 false [] [] [] 0 [] [] 0 0 0 [] [] [] [] false [] [] [] 0 false 0 0 [] 0 []).trans (cond_not (dead_c he) (cond_not (dead_c he) (rx (xtxt_dead l (i) he) (okStr _) (rx (xtru_dead l (i) he) (okB _) (rx (xprops_dead l (i) he) (okP _) rfl))))))⟩
theorem rb_k5 {l : List S8} (c s : Int) (hn : 13 ≤ l.length) (hl : l.length ≤ 1000000) (hx : ∀ i, (l.getD i []).length ≤ 10000) :
    ∃ m g, Small g l.length ∧ RR none 66 [.ptr 0 0, reqA (req0 5 c s)] (by3 l 3 0) = some (.ret (reqA g), by3 l m (errE (restB 5 c s l))) ∧ ∀ r, restB 5 c s l = .ok r → g = r := by
  have body := eq_rbodyK5 RR LL (strs l) 3 0 c s 0 0 false [] [] [] 0 [] [] 0 0 0 [] [] [] [] false [] [] [] 0 false 0 0 [] 0 []
  unfold restB
  have q0 := xopt_live (l := l) (i := 3) (by omega) hl
  cases e0 : optR (l.getD (3) []) with
  | error x =>
    have hne : x ≠ 0 := optR_good _ _ e0
    rw [e0] at q0
    exact ⟨_, ⟨_, _, _, _, _, _, _, _, ⟨_, _, _⟩, ⟨_, _, _, _, _⟩, ⟨_, _, _, _, []⟩, ⟨_, _, _, _, _, _, _, _, []⟩⟩, ⟨Nat.zero_le _, Nat.zero_le _⟩, run_of_body (body.trans (rx q0 (okStr _) (rx (xtxt_dead l (3 + 1) hne) (okStr _) (rx (xmsg_dead l (3 + 1) hne) (okM _) rfl)))), fun r h => by cases h⟩
  | ok v0 =>
  rw [e0] at q0
  have q1 := xtxt_live (l := l) (i := 4) (by omega) hl (by have := hx (4); omega)
  cases e1 : txtR (l.getD (4) []) with
  | error x =>
    have hne : x ≠ 0 := txtR_good _ _ e1
    rw [e1] at q1
    exact ⟨_, ⟨_, _, _, _, _, _, _, _, ⟨_, _, _⟩, ⟨_, _, _, _, _⟩, ⟨_, _, _, _, []⟩, ⟨_, _, _, _, _, _, _, _, []⟩⟩, ⟨Nat.zero_le _, Nat.zero_le _⟩, run_of_body (body.trans (rx q0 (okStr _) (rx q1 (okStr _) (rx (xmsg_dead l (4 + 1) hne) (okM _) rfl)))), fun r h => by cases h⟩
  | ok v1 =>
  rw [e1] at q1
  obtain ⟨m2, g2, hb2, q2, u2⟩ := xmsg_run (l := l) (i := 5) (by omega) hl hx
  cases e2 : msgR l (5) with
  | error x =>
    exact ⟨_, ⟨_, _, _, _, _, _, _, _, ⟨_, _, _⟩, ⟨_, _, _, _, _⟩, ⟨_, _, _, _, _⟩, ⟨_, _, _, _, _, _, _, _, _⟩⟩, ⟨Nat.zero_le _, hb2⟩, run_of_body (body.trans (rx q0 (okStr _) (rx q1 (okStr _) (rx q2 (okM _) (by rw [e2]; rfl))))), fun r h => by cases h⟩
  | ok v2 =>
  have w2 := u2 v2 e2
  subst w2
  rw [e2] at q2
  exact ⟨_, ⟨_, _, _, _, _, _, _, _, ⟨_, _, _⟩, ⟨_, _, _, _, _⟩, ⟨_, _, _, _, _⟩, ⟨_, _, _, _, _, _, _, _, _⟩⟩, ⟨Nat.zero_le _, hb2⟩, run_of_body (body.trans (rx q0 (okStr _) (rx q1 (okStr _) (rx q2 (okM _) rfl)))), fun r h => by injection h with h⟩
theorem rd_k5 (l : List S8) (i : Nat) (c s : Int) {e : Int} (he : e ≠ 0) : ∃ g, Small g l.length ∧ RR none 66 [.ptr 0 0, reqA (req0 5 c s)] (by3 l i e) = some (.ret (reqA g), by3 l i e) := by
  exact ⟨⟨_, _, _, _, _, _, _, _, ⟨_, _, _⟩, ⟨_, _, _, _, _⟩, ⟨_, _, _, _, []⟩, ⟨_, _, _, _, _, _, _, _, []⟩⟩, ⟨Nat.zero_le _, Nat.zero_le _⟩, run_of_body ((eq_rbodyK5 RR LL (strs l) (i : Int) e c s 0 0 false [] [] [] 0 [] [] 0 0 0 [] [] [] [] false [] [] [] 0 false 0 0 [] 0 []).trans (rx (xopt_dead l (i) he) (okStr _) (rx (xtxt_dead l (i) he) (okStr _) (rx (xmsg_dead l (i) he) (okM _) rfl))))⟩
theorem rb_k6 {l : List S8} (c s : Int) (hn : 6 ≤ l.length) (hl : l.length ≤ 1000000) (hx : ∀ i, (l.getD i []).length ≤ 10000) :
    ∃ m g, Small g l.length ∧ RR none 66 [.ptr 0 0, reqA (req0 6 c s)] (by3 l 3 0) = some (.ret (reqA g), by3 l m (errE (restB 6 c s l))) ∧ ∀ r, restB 6 c s l = .ok r → g = r := by
  have body := eq_rbodyK6 RR LL (strs l) 3 0 c s 0 0 false [] [] [] 0 [] [] 0 0 0 [] [] [] [] false [] [] [] 0 false 0 0 [] 0 []
  unfold restB
  have q0 := xnum_live (l := l) (i := 3) (by omega) hl (by have := hx (3); omega)
  cases e0 : numR (l.getD (3) []) with
  | error x =>
    have hne : x ≠ 0 := numR_good _ _ e0
    rw [e0] at q0
    exact ⟨_, ⟨_, _, _, _, _, _, _, _, ⟨_, _, _⟩, ⟨_, _, _, _, _⟩, ⟨_, _, _, _, []⟩, ⟨_, _, _, _, _, _, _, _, []⟩⟩, ⟨Nat.zero_le _, Nat.zero_le _⟩, run_of_body (body.trans (rx q0 (okI _) (cond_not (dead_c hne) (rx (xnum_dead l (3 + 1) hne) (okI _) rfl)))), fun r h => by cases h⟩
  | ok v0 =>
  rw [e0] at q0
  have q2 := xnum_live (l := l) (i := 5) (by omega) hl (by have := hx (5); omega)
  cases e2 : numR (l.getD (5) []) with
  | error x =>
    have hne : x ≠ 0 := numR_good _ _ e2
    rw [e2] at q2
    exact ⟨_, ⟨_, _, _, _, _, _, _, _, ⟨_, _, _⟩, ⟨_, _, _, _, _⟩, ⟨_, _, _, _, []⟩, ⟨_, _, _, _, _, _, _, _, []⟩⟩, ⟨Nat.zero_le _, Nat.zero_le _⟩, run_of_body (body.trans (rx q0 (okI _) (cond_run rfl (cond_not (ln4 (by omega)) (cond_run (nx_in4 (by omega)) (rx q2 (okI _) rfl)))))), fun r h => by cases h⟩
  | ok v2 =>
  rw [e2] at q2
  exact ⟨_, { Req.zero with kind := 6, conn := c, serial := s, tag := v0, name := l.getD 4 [], limit := v2 }, ⟨Nat.zero_le _, Nat.zero_le _⟩, run_of_body (body.trans (rx q0 (okI _) (cond_run rfl (cond_not (ln4 (by omega)) (cond_run (nx_in4 (by omega)) (rx q2 (okI _) (by rw [← strs_get l 4 (by omega)]; rfl))))))), fun r h => by injection h with h⟩
theorem rd_k6 (l : List S8) (i : Nat) (c s : Int) {e : Int} (he : e ≠ 0) : ∃ g, Small g l.length ∧ RR none 66 [.ptr 0 0, reqA (req0 6 c s)] (by3 l i e) = some (.ret (reqA g), by3 l i e) := by
  exact ⟨⟨_, _, _, _, _, _, _, _, ⟨_, _, _⟩, ⟨_, _, _, _, _⟩, ⟨_, _, _, _, []⟩, ⟨_, _, _, _, _, _, _, _, []⟩⟩, ⟨Nat.zero_le _, Nat.zero_le _⟩, run_of_body ((eq_rbodyK6 RR LL (strs l) (i : Int) e c s 0 0 false [] [] [] 0 [] [] 0 0 0 [] [] [] [] false [] [] [] 0 false 0 0 [] 0 []).trans (rx (xnum_dead l (i) he) (okI _) (cond_not (dead_c he) (rx (xnum_dead l (i) he) (okI _) rfl))))⟩
theorem rb_k7 {l : List S8} (c s : Int) (hn : 4 ≤ l.length) (hl : l.length ≤ 1000000) (hx : ∀ i, (l.getD i []).length ≤ 10000) :
    ∃ m g, Small g l.length ∧ RR none 66 [.ptr 0 0, reqA (req0 7 c s)] (by3 l 3 0) = some (.ret (reqA g), by3 l m (errE (restB 7 c s l))) ∧ ∀ r, restB 7 c s l = .ok r → g = r := by
  have body := eq_rbodyK7 RR LL (strs l) 3 0 c s 0 0 false [] [] [] 0 [] [] 0 0 0 [] [] [] [] false [] [] [] 0 false 0 0 [] 0 []
  unfold restB
  have q0 := xnum_live (l := l) (i := 3) (by omega) hl (by have := hx (3); omega)
  cases e0 : numR (l.getD (3) []) with
  | error x =>
    have hne : x ≠ 0 := numR_good _ _ e0
    rw [e0] at q0
    exact ⟨_, ⟨_, _, _, _, _, _, _, _, ⟨_, _, _⟩, ⟨_, _, _, _, _⟩, ⟨_, _, _, _, []⟩, ⟨_, _, _, _, _, _, _, _, []⟩⟩, ⟨Nat.zero_le _, Nat.zero_le _⟩, run_of_body (body.trans (rx q0 (okI _) rfl)), fun r h => by cases h⟩
  | ok v0 =>
  rw [e0] at q0
  exact ⟨_, ⟨_, _, _, _, _, _, _, _, ⟨_, _, _⟩, ⟨_, _, _, _, _⟩, ⟨_, _, _, _, []⟩, ⟨_, _, _, _, _, _, _, _, []⟩⟩, ⟨Nat.zero_le _, Nat.zero_le _⟩, run_of_body (body.trans (rx q0 (okI _) rfl)), fun r h => by injection h with h⟩
theorem rd_k7 (l : List S8) (i : Nat) (c s : Int) {e : Int} (he : e ≠ 0) : ∃ g, Small g l.length ∧ RR none 66 [.ptr 0 0, reqA (req0 7 c s)] (by3 l i e) = some (.ret (reqA g), by3 l i e) := by
  exact ⟨⟨_, _, _, _, _, _, _, _, ⟨_, _, _⟩, ⟨_, _, _, _, _⟩, ⟨_, _, _, _, []⟩, ⟨_, _, _, _, _, _, _, _, []⟩⟩, ⟨Nat.zero_le _, Nat.zero_le _⟩, run_of_body ((eq_rbodyK7 RR LL (strs l) (i : Int) e c s 0 0 false [] [] [] 0 [] [] 0 0 0 [] [] [] [] false [] [] [] 0 false 0 0 [] 0 []).trans (rx (xnum_dead l (i) he) (okI _) rfl))⟩
theorem rb_k8 {l : List S8} (c s : Int) (hn : 5 ≤ l.length) (hl : l.length ≤ 1000000) (hx : ∀ i, (l.getD i []).length ≤ 10000) :
    ∃ m g, Small g l.length ∧ RR none 66 [.ptr 0 0, reqA (req0 8 c s)] (by3 l 3 0) = some (.ret (reqA g), by3 l m (errE (restB 8 c s l))) ∧ ∀ r, restB 8 c s l = .ok r → g = r := by
  have body := eq_rbodyK8 RR LL (strs l) 3 0 c s 0 0 false [] [] [] 0 [] [] 0 0 0 [] [] [] [] false [] [] [] 0 false 0 0 [] 0 []
  unfold restB
  have q0 := xnum_live (l := l) (i := 3) (by omega) hl (by have := hx (3); omega)
  cases e0 : numR (l.getD (3) []) with
  | error x =>
    have hne : x ≠ 0 := numR_good _ _ e0
    rw [e0] at q0
    exact ⟨_, ⟨_, _, _, _, _, _, _, _, ⟨_, _, _⟩, ⟨_, _, _, _, _⟩, ⟨_, _, _, _, []⟩, ⟨_, _, _, _, _, _, _, _, []⟩⟩, ⟨Nat.zero_le _, Nat.zero_le _⟩, run_of_body (body.trans (rx q0 (okI _) (rx (xtru_dead l (3 + 1) hne) (okB _) rfl))), fun r h => by cases h⟩
  | ok v0 =>
  rw [e0] at q0
  have q1 := xtru_live (l := l) (i := 4) (by omega) hl
  cases e1 : truR (l.getD (4) []) with
  | error x =>
    have hne : x ≠ 0 := truR_good _ _ e1
    rw [e1] at q1
    exact ⟨_, ⟨_, _, _, _, _, _, _, _, ⟨_, _, _⟩, ⟨_, _, _, _, _⟩, ⟨_, _, _, _, []⟩, ⟨_, _, _, _, _, _, _, _, []⟩⟩, ⟨Nat.zero_le _, Nat.zero_le _⟩, run_of_body (body.trans (rx q0 (okI _) (rx q1 (okB _) rfl))), fun r h => by cases h⟩
  | ok v1 =>
  rw [e1] at q1
  exact ⟨_, ⟨_, _, _, _, _, _, _, _, ⟨_, _, _⟩, ⟨_, _, _, _, _⟩, ⟨_, _, _, _, []⟩, ⟨_, _, _, _, _, _, _, _, []⟩⟩, ⟨Nat.zero_le _, Nat.zero_le _⟩, run_of_body (body.trans (rx q0 (okI _) (rx q1 (okB _) rfl))), fun r h => by injection h with h⟩
theorem rd_k8 (l : List S8) (i : Nat) (c s : Int) {e : Int} (he : e ≠ 0) : ∃ g, Small g l.length ∧ RR none 66 [.ptr 0 0, reqA (req0 8 c s)] (by3 l i e) = some (.ret (reqA g), by3 l i e) := by
  exact ⟨⟨_, _, _, _, _, _, _, _, ⟨_, _, _⟩, ⟨_, _, _, _, _⟩, ⟨_, _, _, _, []⟩, ⟨_, _, _, _, _, _, _, _, []⟩⟩, ⟨Nat.zero_le _, Nat.zero_le _⟩, run_of_body ((eq_rbodyK8 RR LL (strs l) (i : Int) e c s 0 0 false [] [] [] 0 [] [] 0 0 0 [] [] [] [] false [] [] [] 0 false 0 0 [] 0 []).trans (rx (xnum_dead l (i) he) (okI _) (rx (xtru_dead l (i) he) (okB _) rfl)))⟩
theorem rb_k9 {l : List S8} (c s : Int) (hn : 5 ≤ l.length) (hl : l.length ≤ 1000000) (hx : ∀ i, (l.getD i []).length ≤ 10000) :
    ∃ m g, Small g l.length ∧ RR none 66 [.ptr 0 0, reqA (req0 9 c s)] (by3 l 3 0) = some (.ret (reqA g), by3 l m (errE (restB 9 c s l))) ∧ ∀ r, restB 9 c s l = .ok r → g = r := by
  have body := eq_rbodyK9 RR LL (strs l) 3 0 c s 0 0 false [] [] [] 0 [] [] 0 0 0 [] [] [] [] false [] [] [] 0 false 0 0 [] 0 []
  unfold restB
  have q0 := xnum_live (l := l) (i := 3) (by omega) hl (by have := hx (3); omega)
  cases e0 : numR (l.getD (3) []) with
  | error x =>
    have hne : x ≠ 0 := numR_good _ _ e0
    rw [e0] at q0
    exact ⟨_, ⟨_, _, _, _, _, _, _, _, ⟨_, _, _⟩, ⟨_, _, _, _, _⟩, ⟨_, _, _, _, []⟩, ⟨_, _, _, _, _, _, _, _, []⟩⟩, ⟨Nat.zero_le _, Nat.zero_le _⟩, run_of_body (body.trans (rx q0 (okI _) (rx (xtru_dead l (3 + 1) hne) (okB _) rfl))), fun r h => by cases h⟩
  | ok v0 =>
  rw [e0] at q0
  have q1 := xtru_live (l := l) (i := 4) (by omega) hl
  cases e1 : truR (l.getD (4) []) with
  | error x =>
    have hne : x ≠ 0 := truR_good _ _ e1
    rw [e1] at q1
    exact ⟨_, ⟨_, _, _, _, _, _, _, _, ⟨_, _, _⟩, ⟨_, _, _, _, _⟩, ⟨_, _, _, _, []⟩, ⟨_, _, _, _, _, _, _, _, []⟩⟩, ⟨Nat.zero_le _, Nat.zero_le _⟩, run_of_body (body.trans (rx q0 (okI _) (rx q1 (okB _) rfl))), fun r h => by cases h⟩
  | ok v1 =>
  rw [e1] at q1
  exact ⟨_, ⟨_, _, _, _, _, _, _, _, ⟨_, _, _⟩, ⟨_, _, _, _, _⟩, ⟨_, _, _, _, []⟩, ⟨_, _, _, _, _, _, _, _, []⟩⟩, ⟨Nat.zero_le _, Nat.zero_le _⟩, run_of_body (body.trans (rx q0 (okI _) (rx q1 (okB _) rfl))), fun r h => by injection h with h⟩
theorem rd_k9 (l : List S8) (i : Nat) (c s : Int) {e : Int} (he : e ≠ 0) : ∃ g, Small g l.length ∧ RR none 66 [.ptr 0 0, reqA (req0 9 c s)] (by3 l i e) = some (.ret (reqA g), by3 l i e) := by
  exact ⟨⟨_, _, _, _, _, _, _, _, ⟨_, _, _⟩, ⟨_, _, _, _, _⟩, ⟨_, _, _, _, []⟩, ⟨_, _, _, _, _, _, _, _, []⟩⟩, ⟨Nat.zero_le _, Nat.zero_le _⟩, run_of_body ((eq_rbodyK9 RR LL (strs l) (i : Int) e c s 0 0 false [] [] [] 0 [] [] 0 0 0 [] [] [] [] false [] [] [] 0 false 0 0 [] 0 []).trans (rx (xnum_dead l (i) he) (okI _) (rx (xtru_dead l (i) he) (okB _) rfl)))⟩
theorem rb_k10 {l : List S8} (c s : Int) (hn : 3 ≤ l.length) (hl : l.length ≤ 1000000) (hx : ∀ i, (l.getD i []).length ≤ 10000) :
    ∃ m g, Small g l.length ∧ RR none 66 [.ptr 0 0, reqA (req0 10 c s)] (by3 l 3 0) = some (.ret (reqA g), by3 l m (errE (restB 10 c s l))) ∧ ∀ r, restB 10 c s l = .ok r → g = r := by
  have body := eq_rbodyK10 RR LL (strs l) 3 0 c s 0 0 false [] [] [] 0 [] [] 0 0 0 [] [] [] [] false [] [] [] 0 false 0 0 [] 0 []
  unfold restB
  exact ⟨_, ⟨_, _, _, _, _, _, _, _, ⟨_, _, _⟩, ⟨_, _, _, _, _⟩, ⟨_, _, _, _, []⟩, ⟨_, _, _, _, _, _, _, _, []⟩⟩, ⟨Nat.zero_le _, Nat.zero_le _⟩, run_of_body (body.trans rfl), fun r h => by injection h with h⟩
theorem rd_k10 (l : List S8) (i : Nat) (c s : Int) {e : Int} (he : e ≠ 0) : ∃ g, Small g l.length ∧ RR none 66 [.ptr 0 0, reqA (req0 10 c s)] (by3 l i e) = some (.ret (reqA g), by3 l i e) := by
  exact ⟨⟨_, _, _, _, _, _, _, _, ⟨_, _, _⟩, ⟨_, _, _, _, _⟩, ⟨_, _, _, _, []⟩, ⟨_, _, _, _, _, _, _, _, []⟩⟩, ⟨Nat.zero_le _, Nat.zero_le _⟩, run_of_body ((eq_rbodyK10 RR LL (strs l) (i : Int) e c s 0 0 false [] [] [] 0 [] [] 0 0 0 [] [] [] [] false [] [] [] 0 false 0 0 [] 0 []).trans rfl)⟩
theorem rb_k11 {l : List S8} (c s : Int) (hn : 3 ≤ l.length) (hl : l.length ≤ 1000000) (hx : ∀ i, (l.getD i []).length ≤ 10000) :
    ∃ m g, Small g l.length ∧ RR none 66 [.ptr 0 0, reqA (req0 11 c s)] (by3 l 3 0) = some (.ret (reqA g), by3 l m (errE (restB 11 c s l))) ∧ ∀ r, restB 11 c s l = .ok r → g = r := by
  have body := eq_rbodyK11 RR LL (strs l) 3 0 c s 0 0 false [] [] [] 0 [] [] 0 0 0 [] [] [] [] false [] [] [] 0 false 0 0 [] 0 []
  unfold restB
  exact ⟨_, ⟨_, _, _, _, _, _, _, _, ⟨_, _, _⟩, ⟨_, _, _, _, _⟩, ⟨_, _, _, _, []⟩, ⟨_, _, _, _, _, _, _, _, []⟩⟩, ⟨Nat.zero_le _, Nat.zero_le _⟩, run_of_body (body.trans rfl), fun r h => by injection h with h⟩
theorem rd_k11 (l : List S8) (i : Nat) (c s : Int) {e : Int} (he : e ≠ 0) : ∃ g, Small g l.length ∧ RR none 66 [.ptr 0 0, reqA (req0 11 c s)] (by3 l i e) = some (.ret (reqA g), by3 l i e) := by
  exact ⟨⟨_, _, _, _, _, _, _, _, ⟨_, _, _⟩, ⟨_, _, _, _, _⟩, ⟨_, _, _, _, []⟩, ⟨_, _, _, _, _, _, _, _, []⟩⟩, ⟨Nat.zero_le _, Nat.zero_le _⟩, run_of_body ((eq_rbodyK11 RR LL (strs l) (i : Int) e c s 0 0 false [] [] [] 0 [] [] 0 0 0 [] [] [] [] false [] [] [] 0 false 0 0 [] 0 []).trans rfl)⟩
theorem rb_k12 {l : List S8} (c s : Int) (hn : 3 ≤ l.length) (hl : l.length ≤ 1000000) (hx : ∀ i, (l.getD i []).length ≤ 10000) :
    ∃ m g, Small g l.length ∧ RR none 66 [.ptr 0 0, reqA (req0 12 c s)] (by3 l 3 0) = some (.ret (reqA g), by3 l m (errE (restB 12 c s l))) ∧ ∀ r, restB 12 c s l = .ok r → g = r := by
  have body := eq_rbodyK12 RR LL (strs l) 3 0 c s 0 0 false [] [] [] 0 [] [] 0 0 0 [] [] [] [] false [] [] [] 0 false 0 0 [] 0 []
  unfold restB
  exact ⟨_, ⟨_, _, _, _, _, _, _, _, ⟨_, _, _⟩, ⟨_, _, _, _, _⟩, ⟨_, _, _, _, []⟩, ⟨_, _, _, _, _, _, _, _, []⟩⟩, ⟨Nat.zero_le _, Nat.zero_le _⟩, run_of_body (body.trans rfl), fun r h => by injection h with h⟩
theorem rd_k12 (l : List S8) (i : Nat) (c s : Int) {e : Int} (he : e ≠ 0) : ∃ g, Small g l.length ∧ RR none 66 [.ptr 0 0, reqA (req0 12 c s)] (by3 l i e) = some (.ret (reqA g), by3 l i e) := by
  exact ⟨⟨_, _, _, _, _, _, _, _, ⟨_, _, _⟩, ⟨_, _, _, _, _⟩, ⟨_, _, _, _, []⟩, ⟨_, _, _, _, _, _, _, _, []⟩⟩, ⟨Nat.zero_le _, Nat.zero_le _⟩, run_of_body ((eq_rbodyK12 RR LL (strs l) (i : Int) e c s 0 0 false [] [] [] 0 [] [] 0 0 0 [] [] [] [] false [] [] [] 0 false 0 0 [] 0 []).trans rfl)⟩
theorem rb_k13 {l : List S8} (c s : Int) (hn : 4 ≤ l.length) (hl : l.length ≤ 1000000) (hx : ∀ i, (l.getD i []).length ≤ 10000) :
    ∃ m g, Small g l.length ∧ RR none 66 [.ptr 0 0, reqA (req0 13 c s)] (by3 l 3 0) = some (.ret (reqA g), by3 l m (errE (restB 13 c s l))) ∧ ∀ r, restB 13 c s l = .ok r → g = r := by
  have body := eq_rbodyK13 RR LL (strs l) 3 0 c s 0 0 false [] [] [] 0 [] [] 0 0 0 [] [] [] [] false [] [] [] 0 false 0 0 [] 0 []
  unfold restB
  exact ⟨_, { Req.zero with kind := 13, conn := c, serial := s, name := l.getD 3 [] }, ⟨Nat.zero_le _, Nat.zero_le _⟩, run_of_body (body.trans (cond_run rfl (cond_not (ln3 (by omega)) (cond_run (nx_in3 (by omega)) (by rw [← strs_get l 3 (by omega)]; rfl))))), fun r h => by injection h with h⟩
theorem rd_k13 (l : List S8) (i : Nat) (c s : Int) {e : Int} (he : e ≠ 0) : ∃ g, Small g l.length ∧ RR none 66 [.ptr 0 0, reqA (req0 13 c s)] (by3 l i e) = some (.ret (reqA g), by3 l i e) := by
  exact ⟨⟨_, _, _, _, _, _, _, _, ⟨_, _, _⟩, ⟨_, _, _, _, _⟩, ⟨_, _, _, _, []⟩, ⟨_, _, _, _, _, _, _, _, []⟩⟩, ⟨Nat.zero_le _, Nat.zero_le _⟩, run_of_body ((eq_rbodyK13 RR LL (strs l) (i : Int) e c s 0 0 false [] [] [] 0 [] [] 0 0 0 [] [] [] [] false [] [] [] 0 false 0 0 [] 0 []).trans (cond_not (dead_c he) rfl))⟩
theorem rb_k14 {l : List S8} (c s : Int) (hn : 4 ≤ l.length) (hl : l.length ≤ 1000000) (hx : ∀ i, (l.getD i []).length ≤ 10000) :
    ∃ m g, Small g l.length ∧ RR none 66 [.ptr 0 0, reqA (req0 14 c s)] (by3 l 3 0) = some (.ret (reqA g), by3 l m (errE (restB 14 c s l))) ∧ ∀ r, restB 14 c s l = .ok r → g = r := by
  have body := eq_rbodyK14 RR LL (strs l) 3 0 c s 0 0 false [] [] [] 0 [] [] 0 0 0 [] [] [] [] false [] [] [] 0 false 0 0 [] 0 []
  unfold restB
  exact ⟨_, { Req.zero with kind := 14, conn := c, serial := s, name := l.getD 3 [] }, ⟨Nat.zero_le _, Nat.zero_le _⟩, run_of_body (body.trans (cond_run rfl (cond_not (ln3 (by omega)) (cond_run (nx_in3 (by omega)) (by rw [← strs_get l 3 (by omega)]; rfl))))), fun r h => by injection h with h⟩
theorem rd_k14 (l : List S8) (i : Nat) (c s : Int) {e : Int} (he : e ≠ 0) : ∃ g, Small g l.length ∧ RR none 66 [.ptr 0 0, reqA (req0 14 c s)] (by3 l i e) = some (.ret (reqA g), by3 l i e) := by
  exact ⟨⟨_, _, _, _, _, _, _, _, ⟨_, _, _⟩, ⟨_, _, _, _, _⟩, ⟨_, _, _, _, []⟩, ⟨_, _, _, _, _, _, _, _, []⟩⟩, ⟨Nat.zero_le _, Nat.zero_le _⟩, run_of_body ((eq_rbodyK14 RR LL (strs l) (i : Int) e c s 0 0 false [] [] [] 0 [] [] 0 0 0 [] [] [] [] false [] [] [] 0 false 0 0 [] 0 []).trans (cond_not (dead_c he) rfl))⟩
theorem rb_k15 {l : List S8} (c s : Int) (hn : 4 ≤ l.length) (hl : l.length ≤ 1000000) (hx : ∀ i, (l.getD i []).length ≤ 10000) :
    ∃ m g, Small g l.length ∧ RR none 66 [.ptr 0 0, reqA (req0 15 c s)] (by3 l 3 0) = some (.ret (reqA g), by3 l m (errE (restB 15 c s l))) ∧ ∀ r, restB 15 c s l = .ok r → g = r := by
  have body := eq_rbodyK15 RR LL (strs l) 3 0 c s 0 0 false [] [] [] 0 [] [] 0 0 0 [] [] [] [] false [] [] [] 0 false 0 0 [] 0 []
  unfold restB
  exact ⟨_, { Req.zero with kind := 15, conn := c, serial := s, name := l.getD 3 [] }, ⟨Nat.zero_le _, Nat.zero_le _⟩, run_of_body (body.trans (cond_run rfl (cond_not (ln3 (by omega)) (cond_run (nx_in3 (by omega)) (by rw [← strs_get l 3 (by omega)]; rfl))))), fun r h => by injection h with h⟩
theorem rd_k15 (l : List S8) (i : Nat) (c s : Int) {e : Int} (he : e ≠ 0) : ∃ g, Small g l.length ∧ RR none 66 [.ptr 0 0, reqA (req0 15 c s)] (by3 l i e) = some (.ret (reqA g), by3 l i e) := by
  exact ⟨⟨_, _, _, _, _, _, _, _, ⟨_, _, _⟩, ⟨_, _, _, _, _⟩, ⟨_, _, _, _, []⟩, ⟨_, _, _, _, _, _, _, _, []⟩⟩, ⟨Nat.zero_le _, Nat.zero_le _⟩, run_of_body ((eq_rbodyK15 RR LL (strs l) (i : Int) e c s 0 0 false [] [] [] 0 [] [] 0 0 0 [] [] [] [] false [] [] [] 0 false 0 0 [] 0 []).trans (cond_not (dead_c he) rfl))⟩

end Go.Proofs.YtmocefjnplmibaaGreatDoor
