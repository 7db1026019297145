/- Parse: the program's. -/
import Derived.Test.YtmocefjnplmibaaGreatDoorPc
import Derived.Test.YtmocefjnplmibaaGreatDoorPg
namespace Go.Proofs.YtmocefjnplmibaaGreatDoor
open Go Go.Den
set_option maxRecDepth 100000

/-! ### The kind of a word -/

def kAt (s : S8) (i : Nat) : Option Int := if wordS ((i + 1 : Nat) : Int) = s then some ((i + 1 : Nat) : Int) else none
def kOf (s : S8) : Int := (firstFrom (kAt s) 15 0).getD 0
def koX : Out := { ex := .exit 0, fr := List.replicate 13 AV.undef, hp := [], df := [] }
def koR (k : Int) : Out := { ex := .ret, fr := [AV.undef, AV.undef, num k] ++ List.replicate 10 AV.undef, hp := [], df := [] }
theorem kindOf_loop (s : S8) : LL 57 0 lc_57_2 (((List.replicate 13 AV.undef).set 0 (str s)).set 3 (num 1)) [] = some ((firstFrom (fun i => (kAt s i).map koR) 15 0).getD koX) := by
  refine scan_first (G := fun i => LL 57 0 lc_57_2 (((List.replicate 13 AV.undef).set 0 (str s)).set 3 (num ((i + 1 : Nat) : Int))) []) ?_ ?_
  · intro i hi r h
    have body := eq_kindOfL2 RR LL s ((i + 1 : Nat) : Int)
    rw [wrap_in (n := ((i + 1 : Nat) : Int) + 1) (by omega) (by omega), show ((i + 1 : Nat) : Int) + 1 = ((i + 1 + 1 : Nat) : Int) by omega] at body
    refine loop_of_body (body.trans (cond_run (dec_yes (by omega)) (callT (word_run _ (btw_iff.2 ⟨by omega, by omega⟩)) ?_)))
    rw [valS, strEq_dec]
    unfold kAt at h
    by_cases e : wordS ((i + 1 : Nat) : Int) = s
    · rw [if_pos e] at h
      exact cond_run (dec_yes e) h
    · rw [if_neg e] at h
      exact cond_not (dec_no e) (bind_run h rfl)
  · exact loop_of_body ((eq_kindOfL2 RR LL s 16).trans (cond_not rfl rfl))
theorem kindOf_run (s : S8) : RR none 57 [str s] [] = some (.ret (num (kOf s)), []) := by
  refine run_of_body ((eq_kindOf RR LL s).trans (bind_run (kindOf_loop s) ?_))
  rw [firstFrom_map]
  unfold kOf
  cases firstFrom (kAt s) 15 0 <;> rfl
theorem kOf_word (k : Int) (h : btw k 1 15 = true) : kOf (wordS k) = k := by
  rcases kinds h with rfl | rfl | rfl | rfl | rfl | rfl | rfl | rfl | rfl | rfl | rfl | rfl | rfl | rfl | rfl <;> decide +kernel
def openB (k : Int) : Bool := k == 3 || k == 4 || k == 5
theorem count_run (k : Int) (h : btw k 1 15 = true) : RR none 60 [num k] [] = some (.ret (.tup [num (cntS k), yes (openB k)]), []) := by
  refine run_of_body ((eq_count RR LL k).trans ?_)
  rcases kinds h with rfl | rfl | rfl | rfl | rfl | rfl | rfl | rfl | rfl | rfl | rfl | rfl | rfl | rfl | rfl <;> rfl
theorem ok81 (n : Int) (b : Bool) : okRes PP 81 (.ret (.tup [num n, yes b])) = true := by kernel_rfl

theorem preq_run {k : Int} (h : btw k 1 15 = true) {l : List S8} (hn : cntS k ≤ l.length) (hl : l.length ≤ 1000000) (hx : ∀ i, (l.getD i []).length ≤ 10000) : ∃ m, RR none 61 [.ptr 0 0, num k] (bx l 1) = some (resV ((bodyR k l).map reqA), bx l m) := by
  rcases kinds h with rfl | rfl | rfl | rfl | rfl | rfl | rfl | rfl | rfl | rfl | rfl | rfl | rfl | rfl | rfl
  · exact preq_k1 (by have : ((6 : Nat) : Int) ≤ l.length := hn; omega) hl hx
  · exact preq_k2 (by have : ((8 : Nat) : Int) ≤ l.length := hn; omega) hl hx
  · exact preq_k3 (by have : ((7 : Nat) : Int) ≤ l.length := hn; omega) hl hx
  · exact preq_k4 (by have : ((7 : Nat) : Int) ≤ l.length := hn; omega) hl hx
  · exact preq_k5 (by have : ((13 : Nat) : Int) ≤ l.length := hn; omega) hl hx
  · exact preq_k6 (by have : ((6 : Nat) : Int) ≤ l.length := hn; omega) hl hx
  · exact preq_k7 (by have : ((4 : Nat) : Int) ≤ l.length := hn; omega) hl hx
  · exact preq_k8 (by have : ((5 : Nat) : Int) ≤ l.length := hn; omega) hl hx
  · exact preq_k9 (by have : ((5 : Nat) : Int) ≤ l.length := hn; omega) hl hx
  · exact preq_k10 (by have : ((3 : Nat) : Int) ≤ l.length := hn; omega) hl hx
  · exact preq_k11 (by have : ((3 : Nat) : Int) ≤ l.length := hn; omega) hl hx
  · exact preq_k12 (by have : ((3 : Nat) : Int) ≤ l.length := hn; omega) hl hx
  · exact preq_k13 (by have : ((4 : Nat) : Int) ≤ l.length := hn; omega) hl hx
  · exact preq_k14 (by have : ((4 : Nat) : Int) ≤ l.length := hn; omega) hl hx
  · exact preq_k15 (by have : ((4 : Nat) : Int) ≤ l.length := hn; omega) hl hx


/-- The number of fields fits the kind. -/
def fitsC (k : Int) (n : Nat) : Bool := !(decide ((n : Int) < cntS k)) && (openB k || !decide (cntS k < (n : Int)))
/-- The request of a line, or the error. -/
def parseL (l : List S8) : Except Int Req :=
  if kOf (l.getD 0 []) = 0 then .error 10
  else if fitsC (kOf (l.getD 0 [])) l.length = false then .error 2
  else (bodyR (kOf (l.getD 0 [])) l).bind fun r => if checkE r = 0 then .ok r else .error (checkE r)
def parA : Except Int Req → AV
  | .ok r => .tup [reqA r, num 0]
  | .error e => .tup [reqA .zero, num e]

theorem kAt_btw {s : S8} : ∀ {k i : Nat} {x : Int}, firstFrom (kAt s) k i = some x → i + k ≤ 15 → btw x 1 15 = true ∧ wordS x = s := by
  intro k
  induction k with
  | zero => intro i x h _; cases h
  | succ k ih =>
    intro i x h hk
    unfold firstFrom at h
    cases hi : kAt s i with
    | none => rw [hi] at h; exact ih h (by omega)
    | some y =>
      rw [hi] at h
      injection h with h; subst h
      unfold kAt at hi
      split at hi
      · injection hi with hi; subst hi
        exact ⟨btw_iff.2 ⟨by omega, by omega⟩, by assumption⟩
      · cases hi
theorem kOf_cases (s : S8) : kOf s = 0 ∨ (btw (kOf s) 1 15 = true ∧ wordS (kOf s) = s) := by
  unfold kOf
  cases h : firstFrom (kAt s) 15 0 with
  | none => exact .inl rfl
  | some x => exact .inr (kAt_btw h (by decide))

theorem bind_ok {α β : Type} {x : Except Int α} {f : α → Except Int β} {r : β} (h : x.bind f = .ok r) : ∃ a, x = .ok a ∧ f a = .ok r := by
  cases x with
  | error e => cases h
  | ok a => exact ⟨a, rfl, h⟩
theorem prpsR_len : ∀ {l : List S8} {r : List E}, prpsR l = .ok r → r.length = l.length := by
  intro l
  induction l with
  | nil => intro r h; injection h with h; subst h; rfl
  | cons x l ih =>
    intro r h
    obtain ⟨p, _, h⟩ := bind_ok h
    obtain ⟨q, hq, h⟩ := bind_ok h
    injection h with h; subst h
    rw [List.length_cons, List.length_cons, ih hq]
theorem msgR_len {l : List S8} {i : Nat} {m : Msg} (h : msgR l i = .ok m) : m.props.length ≤ l.length := by
  unfold msgR at h
  obtain ⟨_, _, h⟩ := bind_ok h
  obtain ⟨_, _, h⟩ := bind_ok h
  obtain ⟨_, _, h⟩ := bind_ok h
  obtain ⟨_, _, h⟩ := bind_ok h
  obtain ⟨_, _, h⟩ := bind_ok h
  obtain ⟨_, _, h⟩ := bind_ok h
  obtain ⟨_, _, h⟩ := bind_ok h
  obtain ⟨_, _, h⟩ := bind_ok h
  obtain ⟨q, hq, h⟩ := bind_ok h
  injection h with h; subst h
  have := prpsR_len hq
  rw [List.length_drop] at this
  show q.length ≤ _
  omega
theorem bodyR_len {k : Int} (hk : btw k 1 15 = true) {l : List S8} {r : Req} (h : bodyR k l = .ok r) : r.bd.mtch.length ≤ l.length ∧ r.msg.props.length ≤ l.length := by
  unfold bodyR at h
  obtain ⟨c, _, h⟩ := bind_ok h
  obtain ⟨s, _, h⟩ := bind_ok h
  rcases kinds hk with rfl | rfl | rfl | rfl | rfl | rfl | rfl | rfl | rfl | rfl | rfl | rfl | rfl | rfl | rfl
  · obtain ⟨_, _, h⟩ := bind_ok h
    obtain ⟨_, _, h⟩ := bind_ok h
    injection h with h; subst h
    exact ⟨Nat.zero_le _, Nat.zero_le _⟩
  · obtain ⟨_, _, h⟩ := bind_ok h
    obtain ⟨_, _, h⟩ := bind_ok h
    obtain ⟨_, _, h⟩ := bind_ok h
    obtain ⟨_, _, h⟩ := bind_ok h
    injection h with h; subst h
    exact ⟨Nat.zero_le _, Nat.zero_le _⟩
  · obtain ⟨_, _, h⟩ := bind_ok h
    obtain ⟨_, _, h⟩ := bind_ok h
    obtain ⟨p, hp, h⟩ := bind_ok h
    injection h with h; subst h
    exact ⟨by have := prpsR_len hp; rw [List.length_drop] at this; show p.length ≤ _; omega, Nat.zero_le _⟩
  · obtain ⟨_, _, h⟩ := bind_ok h
    obtain ⟨_, _, h⟩ := bind_ok h
    obtain ⟨p, hp, h⟩ := bind_ok h
    injection h with h; subst h
    exact ⟨by have := prpsR_len hp; rw [List.length_drop] at this; show p.length ≤ _; omega, Nat.zero_le _⟩
  · obtain ⟨_, _, h⟩ := bind_ok h
    obtain ⟨_, _, h⟩ := bind_ok h
    obtain ⟨p, hp, h⟩ := bind_ok h
    injection h with h; subst h
    exact ⟨Nat.zero_le _, msgR_len hp⟩
  · obtain ⟨_, _, h⟩ := bind_ok h
    obtain ⟨_, _, h⟩ := bind_ok h
    injection h with h; subst h
    exact ⟨Nat.zero_le _, Nat.zero_le _⟩
  · obtain ⟨_, _, h⟩ := bind_ok h
    injection h with h; subst h
    exact ⟨Nat.zero_le _, Nat.zero_le _⟩
  · obtain ⟨_, _, h⟩ := bind_ok h
    obtain ⟨_, _, h⟩ := bind_ok h
    injection h with h; subst h
    exact ⟨Nat.zero_le _, Nat.zero_le _⟩
  · obtain ⟨_, _, h⟩ := bind_ok h
    obtain ⟨_, _, h⟩ := bind_ok h
    injection h with h; subst h
    exact ⟨Nat.zero_le _, Nat.zero_le _⟩
  · injection h with h; subst h
    exact ⟨Nat.zero_le _, Nat.zero_le _⟩
  · injection h with h; subst h
    exact ⟨Nat.zero_le _, Nat.zero_le _⟩
  · injection h with h; subst h
    exact ⟨Nat.zero_le _, Nat.zero_le _⟩
  · injection h with h; subst h
    exact ⟨Nat.zero_le _, Nat.zero_le _⟩
  · injection h with h; subst h
    exact ⟨Nat.zero_le _, Nat.zero_le _⟩
  · injection h with h; subst h
    exact ⟨Nat.zero_le _, Nat.zero_le _⟩

abbrev boxR (r : Req) : Ob := .box [num r.kind, num r.conn, num r.serial, num r.tag, num r.limit, yes r.flag, str r.name, str r.key, str r.ex.name, num r.ex.kind, str r.ex.alt, str r.sp.name, num r.sp.max, num r.sp.ttl, num r.sp.att, str r.sp.dead, str r.bd.exch, str r.bd.queue, str r.bd.key, yes r.bd.all, prp r.bd.mtch, str r.msg.topic, str r.msg.payload, num r.msg.level, yes r.msg.retain, num r.msg.prio, num r.msg.expires, str r.msg.sender, num r.msg.seq, prp r.msg.props]
def boxZ : Ob := .box [num 0, num 0, num 0, num 0, num 0, yes false, str [], str [], str [], num 0, str [], str [], num 0, num 0, num 0, str [], str [], str [], str [], yes false, .own 2 97 [], str [], str [], num 0, yes false, num 0, num 0, str [], num 0, .own 3 97 []]
theorem rec_run (e z : Int) (r : Req) : RR (some (some (failV e))) 55 [.ptr 0 0, .ptr 1 0] [boxR r, .box [num z]] = some (.rcv (.tup []), [boxZ, .box [num e], .vec 97 0, .vec 97 0]) :=
  run_of_body (eq_Rec1 RR LL e z r.kind r.conn r.serial r.tag r.limit r.flag r.name r.key r.ex.name r.ex.kind r.ex.alt r.sp.name r.sp.max r.sp.ttl r.sp.att r.sp.dead r.bd.exch r.bd.queue r.bd.key r.bd.all r.bd.mtch r.msg.topic r.msg.payload r.msg.level r.msg.retain r.msg.prio r.msg.expires r.msg.sender r.msg.seq r.msg.props)
theorem rec_none (r : Req) : RR (some none) 55 [.ptr 0 0, .ptr 1 0] [boxR r, .box [num 0]] = some (.ret (.tup []), [boxR r, .box [num 0]]) :=
  run_of_body (eq_Rec2 RR LL r.kind r.conn r.serial r.tag r.limit r.flag r.name r.key r.ex.name r.ex.kind r.ex.alt r.sp.name r.sp.max r.sp.ttl r.sp.att r.sp.dead r.bd.exch r.bd.queue r.bd.key r.bd.all r.bd.mtch r.msg.topic r.msg.payload r.msg.level r.msg.retain r.msg.prio r.msg.expires r.msg.sender r.msg.seq r.msg.props)
theorem Parse_run {s : S8} (hs : s.length ≤ 10000) (hx : ∀ i, ((splitAt 32 s).getD i []).length ≤ 10000) (hl : (splitAt 32 s).length ≤ 1000000) : RR none 21 [str s] [] = some (.ret (parA (parseL (splitAt 32 s))), []) := by
  have hpos : 0 < (splitAt 32 s).length := by rw [split_len]; omega
  have body := eq_Parse RR LL s
  generalize hL : splitAt 32 s = l at *
  have h0 : ((((strs l).getD 0 .nili).cell 0).toStr) = l.getD 0 [] := strs_get l 0 hpos
  have hkr := kindOf_run (l.getD 0 [])
  have hlen : (((l.map E.str).length : Nat) : Int) = (l.length : Int) := by rw [List.length_map]
  rw [show ((((List.map E.str l).getD 0 .nili).cell 0).toStr) = l.getD 0 [] from h0, hlen] at body
  unfold parseL
  refine run_of_body (body.trans (cond_run (dec_yes (by omega)) (cond_run (dec_yes (by show (0 : Int) < (l.length : Int); omega)) (bind_run hkr (cond_run rfl (cond_run (okI _) ?_))))))
  have hcs := kOf_cases (l.getD 0 [])
  generalize kOf (l.getD 0 []) = k at *
  by_cases hk0 : k = 0
  · rw [if_pos hk0, hk0]
    exact cond_run rfl (bind_run (rec_run 10 0 .zero) (cond_run rfl (cond_run rfl rfl)))
  have hk := (hcs.resolve_left hk0).1
  rw [if_neg hk0]
  refine cond_not (beq_false_of_ne hk0) (bind_run (count_run k hk) (cond_run rfl (cond_run (ok81 _ _) ?_)))
  show (bif decide ((l.length : Int) < cntS k) == false then (bif decide (cntS k < (l.length : Int)) == true then (bif !openB k then _ else _) else _) else _) = _
  cases d1 : decide ((l.length : Int) < cntS k) with
  | true =>
    rw [if_pos (by unfold fitsC; rw [d1]; rfl)]
    exact cond_not rfl (bind_run (rec_run 2 0 .zero) (cond_run rfl (cond_run rfl rfl)))
  | false =>
    have hn : cntS k ≤ l.length := by have := of_decide_eq_false d1; omega
    obtain ⟨m, hq⟩ := preq_run hk hn hl hx
    refine cond_run rfl ?_
    cases d2 : decide (cntS k < (l.length : Int)) with
    | true =>
      cases ho : openB k with
      | false =>
        rw [if_pos (by unfold fitsC; rw [d1, d2, ho]; rfl)]
        exact cond_run rfl (cond_run rfl (bind_run (rec_run 2 0 .zero) (cond_run rfl (cond_run rfl rfl))))
      | true =>
        rw [if_neg (by unfold fitsC; rw [d1, d2, ho]; decide)]
        exact cond_run rfl (cond_not rfl (by
          cases hb : bodyR k l with
          | error e =>
            rw [hb] at hq
            exact rd_pan hq rfl (bind_run (rec_run e 0 .zero) (cond_run rfl (cond_run rfl rfl)))
          | ok r =>
            rw [hb] at hq
            obtain ⟨g1, g2⟩ := bodyR_len hk hb
            refine rd_ok hq rfl (okReq _) (bind_run (Check_run r (by rw [maxLen_eq]; omega) (by rw [maxLen_eq]; omega)) (cond_run rfl (cond_run (okN _) ?_)))
            rw [valN]
            show _ = some (Res.ret (parA (if checkE r = 0 then .ok r else .error (checkE r))), [])
            by_cases hc : checkE r = 0
            · rw [hc, if_pos rfl]
              exact cond_not rfl (bind_run (rec_none r) (cond_run rfl (cond_run rfl rfl)))
            · rw [if_neg hc]
              exact cond_run (by rw [beq_false_of_ne hc]; rfl) (bind_run (rec_run (checkE r) (checkE r) r) (cond_run rfl (cond_run rfl rfl)))))
    | false =>
      rw [if_neg (by unfold fitsC; rw [d1, d2]; cases openB k <;> decide)]
      exact cond_not rfl (by
        cases hb : bodyR k l with
        | error e =>
          rw [hb] at hq
          exact rd_pan hq rfl (bind_run (rec_run e 0 .zero) (cond_run rfl (cond_run rfl rfl)))
        | ok r =>
          rw [hb] at hq
          obtain ⟨g1, g2⟩ := bodyR_len hk hb
          refine rd_ok hq rfl (okReq _) (bind_run (Check_run r (by rw [maxLen_eq]; omega) (by rw [maxLen_eq]; omega)) (cond_run rfl (cond_run (okN _) ?_)))
          rw [valN]
          show _ = some (Res.ret (parA (if checkE r = 0 then .ok r else .error (checkE r))), [])
          by_cases hc : checkE r = 0
          · rw [hc, if_pos rfl]
            exact cond_not rfl (bind_run (rec_none r) (cond_run rfl (cond_run rfl rfl)))
          · rw [if_neg hc]
            exact cond_run (by rw [beq_false_of_ne hc]; rfl) (bind_run (rec_run (checkE r) (checkE r) r) (cond_run rfl (cond_run rfl rfl))))

end Go.Proofs.YtmocefjnplmibaaGreatDoor
