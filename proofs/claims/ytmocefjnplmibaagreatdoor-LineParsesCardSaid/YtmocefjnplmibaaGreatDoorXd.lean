/- The reference's Parse. -/
import Derived.Test.YtmocefjnplmibaaGreatDoorXc
namespace Go.Proofs.YtmocefjnplmibaaGreatDoor
open Go Go.Den
set_option maxRecDepth 100000

theorem rb_run {k : Int} (hk : btw k 1 15 = true) {l : List S8} (c s : Int) (hn : cntS k ≤ l.length) (hl : l.length ≤ 1000000) (hx : ∀ i, (l.getD i []).length ≤ 10000) :
    ∃ m g, Small g l.length ∧ RR none 66 [.ptr 0 0, reqA (req0 k c s)] (by3 l 3 0) = some (.ret (reqA g), by3 l m (errE (restB k c s l))) ∧ ∀ r, restB k c s l = .ok r → g = r := by
  rcases kinds hk with rfl | rfl | rfl | rfl | rfl | rfl | rfl | rfl | rfl | rfl | rfl | rfl | rfl | rfl | rfl
  · exact rb_k1 c s (by have : ((6 : Nat) : Int) ≤ l.length := hn; omega) hl hx
  · exact rb_k2 c s (by have : ((8 : Nat) : Int) ≤ l.length := hn; omega) hl hx
  · exact rb_k3 c s (by have : ((7 : Nat) : Int) ≤ l.length := hn; omega) hl hx
  · exact rb_k4 c s (by have : ((7 : Nat) : Int) ≤ l.length := hn; omega) hl hx
  · exact rb_k5 c s (by have : ((13 : Nat) : Int) ≤ l.length := hn; omega) hl hx
  · exact rb_k6 c s (by have : ((6 : Nat) : Int) ≤ l.length := hn; omega) hl hx
  · exact rb_k7 c s (by have : ((4 : Nat) : Int) ≤ l.length := hn; omega) hl hx
  · exact rb_k8 c s (by have : ((5 : Nat) : Int) ≤ l.length := hn; omega) hl hx
  · exact rb_k9 c s (by have : ((5 : Nat) : Int) ≤ l.length := hn; omega) hl hx
  · exact rb_k10 c s (by have : ((3 : Nat) : Int) ≤ l.length := hn; omega) hl hx
  · exact rb_k11 c s (by have : ((3 : Nat) : Int) ≤ l.length := hn; omega) hl hx
  · exact rb_k12 c s (by have : ((3 : Nat) : Int) ≤ l.length := hn; omega) hl hx
  · exact rb_k13 c s (by have : ((4 : Nat) : Int) ≤ l.length := hn; omega) hl hx
  · exact rb_k14 c s (by have : ((4 : Nat) : Int) ≤ l.length := hn; omega) hl hx
  · exact rb_k15 c s (by have : ((4 : Nat) : Int) ≤ l.length := hn; omega) hl hx
theorem rd_run {k : Int} (hk : btw k 1 15 = true) (l : List S8) (i : Nat) (c s : Int) {e : Int} (he : e ≠ 0) : ∃ g, Small g l.length ∧ RR none 66 [.ptr 0 0, reqA (req0 k c s)] (by3 l i e) = some (.ret (reqA g), by3 l i e) := by
  rcases kinds hk with rfl | rfl | rfl | rfl | rfl | rfl | rfl | rfl | rfl | rfl | rfl | rfl | rfl | rfl | rfl
  · exact rd_k1 l i c s he
  · exact rd_k2 l i c s he
  · exact rd_k3 l i c s he
  · exact rd_k4 l i c s he
  · exact rd_k5 l i c s he
  · exact rd_k6 l i c s he
  · exact rd_k7 l i c s he
  · exact rd_k8 l i c s he
  · exact rd_k9 l i c s he
  · exact rd_k10 l i c s he
  · exact rd_k11 l i c s he
  · exact rd_k12 l i c s he
  · exact rd_k13 l i c s he
  · exact rd_k14 l i c s he
  · exact rd_k15 l i c s he
theorem Rfields_run {k : Int} (h : btw k 1 15 = true) : RR none 63 [num k] [] = some (.ret (num (cntS k)), []) := by
  refine run_of_body ((eq_Rfields RR LL k).trans ?_)
  rcases kinds h with rfl | rfl | rfl | rfl | rfl | rfl | rfl | rfl | rfl | rfl | rfl | rfl | rfl | rfl | rfl <;> rfl
theorem Ropen_run {k : Int} (h : btw k 1 15 = true) : RR none 64 [num k] [] = some (.ret (yes (openB k)), []) := by
  refine run_of_body ((eq_Ropen RR LL k).trans ?_)
  rcases kinds h with rfl | rfl | rfl | rfl | rfl | rfl | rfl | rfl | rfl | rfl | rfl | rfl | rfl | rfl | rfl <;> rfl

/-! ### The word -/

def lastFrom (s : S8) : Nat → Nat → Int → Int
  | 0, _, d => d
  | j + 1, i, d => lastFrom s j (i + 1) (if wordS (i : Int) = s then (i : Int) else d)
theorem last_none {s : S8} (h : ∀ k : Int, btw k 1 15 = true → wordS k ≠ s) : ∀ j i d, i + j = 16 → 1 ≤ i → lastFrom s j i d = d := by
  intro j
  induction j with
  | zero => intro i d _ _; rfl
  | succ j ih =>
    intro i d h1 h2
    unfold lastFrom
    rw [if_neg (h _ (btw_iff.2 ⟨by omega, by omega⟩))]
    exact ih _ _ (by omega) (by omega)
theorem last_kOf (s : S8) : lastFrom s 15 1 0 = kOf s := by
  rcases kOf_cases s with h | ⟨h1, h2⟩
  · rw [h]
    refine last_none (fun k hk he => ?_) _ _ _ rfl (by decide)
    have := kOf_word k hk
    rw [he, h] at this
    have := btw_iff.1 hk
    omega
  · generalize kOf s = k at *
    subst h2
    rcases kinds h1 with rfl | rfl | rfl | rfl | rfl | rfl | rfl | rfl | rfl | rfl | rfl | rfl | rfl | rfl | rfl <;> decide +kernel
def zA : List AV := [num 0, num 0, num 0, num 0, num 0, yes false, str [], str [], str [], num 0, str [], str [], num 0, num 0, num 0, str [], str [], str [], str [], yes false, AV.own 1 97 [], str [], str [], num 0, yes false, num 0, num 0, str [], num 0, AV.own 2 97 []]
def hpR : Heap := [Ob.box zA, Ob.vec 97 0, Ob.vec 97 0]
def lvR (l : List S8) (k : Int) : Out := { ex := .exit 0, fr := [AV.undef, AV.undef, AV.ptr 0 0, AV.undef, .e (.sl 9 (strs l)), num k] ++ List.replicate 66 AV.undef, hp := hpR, df := [] }
theorem rk_loop {l : List S8} (hpos : 0 < l.length) : ∀ (j i : Nat) (d : Int), i + j = 16 → 1 ≤ i →
    LL 22 0 lc_22_4 (((((List.replicate 72 AV.undef).set 2 (.ptr 0 0)).set 4 (.e (.sl 9 (strs l)))).set 5 (num d)).set 6 (num (i : Int))) hpR = some (lvR l (lastFrom (l.getD 0 []) j i d)) := by
  intro j
  induction j with
  | zero =>
    intro i d h _
    have : i = 16 := by omega
    subst this
    exact loop_of_body ((eq_RParseL4 RR LL (strs l) d 16 0 0 0 0 0 false [] [] [] 0 [] [] 0 0 0 [] [] [] [] false [] [] [] 0 false 0 0 [] 0 []).trans (cond_not rfl rfl))
  | succ j ih =>
    intro i d h hi
    have body := eq_RParseL4 RR LL (strs l) d (i : Int) 0 0 0 0 0 false [] [] [] 0 [] [] 0 0 0 [] [] [] [] false [] [] [] 0 false 0 0 [] 0 []
    have h0 : ((((strs l).getD 0 .nili).cell 0).toStr) = l.getD 0 [] := strs_get l 0 hpos
    rw [wrap_in (n := (i : Int) + 1) (by omega) (by omega), show (i : Int) + 1 = ((i + 1 : Nat) : Int) by omega, h0] at body
    refine loop_of_body (body.trans (cond_run (dec_yes (by omega)) (cond_run (dec_yes (by rw [List.length_map]; omega)) (callT (Word_run _ (btw_iff.2 ⟨by omega, by omega⟩)) ?_))))
    rw [valS, strEq_dec]
    unfold lastFrom
    by_cases e : wordS (i : Int) = l.getD 0 []
    · rw [if_pos e]
      exact cond_run (dec_yes e) (bind_run (ih (i + 1) (i : Int) (by omega) (by omega)) rfl)
    · rw [if_neg e]
      exact cond_not (dec_no e) (bind_run (ih (i + 1) d (by omega) (by omega)) rfl)

/-! ### The rest of a line -/

theorem okB' (b : Bool) : okRes PP 4 (.ret (yes b)) = true := by kernel_rfl
theorem ok39 (r : Req) : okRes PP 39 (.ret (reqA r)) = true := by kernel_rfl
theorem tail_facts {k : Int} (hk : btw k 1 15 = true) {l : List S8} (hn : cntS k ≤ l.length) (hl : l.length ≤ 1000000) (hx : ∀ i, (l.getD i []).length ≤ 10000) :
    ∃ (v1 e1 v2 e2 e3 : Int) (i1 i2 i3 : Nat) (g : Req), Small g l.length ∧ RR none 65 [.ptr 0 0] (by3 l 1 0) = some (.ret (num v1), by3 l i1 e1) ∧ RR none 65 [.ptr 0 0] (by3 l i1 e1) = some (.ret (num v2), by3 l i2 e2)
      ∧ RR none 66 [.ptr 0 0, reqA (req0 k v1 v2)] (by3 l i2 e2) = some (.ret (reqA g), by3 l i3 e3)
      ∧ ((bodyR k l).bind fun r => if checkE r = 0 then .ok r else .error (checkE r)) = (if e3 = 0 then (if checkE g = 0 then .ok g else .error (checkE g)) else .error e3) := by
  have h3 : 3 ≤ l.length := by
    have : (3 : Int) ≤ cntS k := by rcases kinds hk with rfl | rfl | rfl | rfl | rfl | rfl | rfl | rfl | rfl | rfl | rfl | rfl | rfl | rfl | rfl <;> decide
    omega
  have good := bodyR_good k l
  have q1 := xnum_live (l := l) (i := 1) (by omega) hl (by have := hx 1; omega)
  rw [body_rest] at *
  cases n1 : numR (l.getD 1 []) with
  | error x =>
    rw [n1] at q1 good
    have he : x ≠ 0 := good x rfl
    obtain ⟨g, hg, q3⟩ := rd_run hk l (1 + 1) 0 0 he
    exact ⟨_, _, _, _, _, _, _, _, g, hg, q1, xnum_dead l (1 + 1) he, q3, by rw [if_neg he]; rfl⟩
  | ok c =>
    rw [n1] at q1 good
    have q2 := xnum_live (l := l) (i := 2) (by omega) hl (by have := hx 2; omega)
    cases n2 : numR (l.getD 2 []) with
    | error x =>
      rw [n2] at q2
      have he : x ≠ 0 := good x (by rw [n2]; rfl)
      obtain ⟨g, hg, q3⟩ := rd_run hk l (2 + 1) c 0 he
      exact ⟨_, _, _, _, _, _, _, _, g, hg, q1, q2, q3, by rw [if_neg he]; rfl⟩
    | ok s =>
      rw [n2] at q2
      obtain ⟨m, g, hg, q3, hr⟩ := rb_run hk c s hn hl hx
      refine ⟨_, _, _, _, _, _, _, m, g, hg, q1, q2, q3, ?_⟩
      show (restB k c s l).bind _ = _
      cases hb : restB k c s l with
      | error x =>
        have he : x ≠ 0 := good x (by rw [n2]; exact hb)
        show _ = ite (x = 0) _ _
        rw [if_neg he]; rfl
      | ok r =>
        have := hr r hb
        subst this
        show _ = ite ((0 : Int) = 0) _ _
        rw [if_pos rfl]; rfl

theorem RParse_run {s : S8} (hs : s.length ≤ 10000) (hx : ∀ i, ((splitAt 32 s).getD i []).length ≤ 10000) (hl : (splitAt 32 s).length ≤ 1000000) : RR none 22 [str s] [] = some (.ret (parA (parseL (splitAt 32 s))), []) := by
  have hpos : 0 < (splitAt 32 s).length := by rw [split_len]; omega
  have hf := Fields_run s (by omega)
  generalize splitAt 32 s = l at *
  have hlp := rk_loop hpos 15 1 0 rfl (by decide)
  rw [last_kOf] at hlp
  unfold parseL
  refine run_of_body ((eq_RParse RR LL s).trans (bind_run hf (cond_run rfl (cond_run rfl (bind_run hlp (cond_run rfl (cond_run rfl ?_)))))))
  have hcs := kOf_cases (l.getD 0 [])
  generalize kOf (l.getD 0 []) = k at *
  by_cases hk0 : k = 0
  · rw [if_pos hk0, hk0]
    exact cond_run rfl rfl
  have hk := (hcs.resolve_left hk0).1
  rw [if_neg hk0]
  have hlen : (((strs l).length : Nat) : Int) = (l.length : Int) := by rw [List.length_map]
  refine cond_not (beq_false_of_ne hk0) (rx (Rfields_run hk) (okI _) ?_)
  show (bif decide ((((strs l).length : Nat) : Int) < cntS k) == false then _ else _) = _
  rw [hlen]
  cases d1 : decide ((l.length : Int) < cntS k) with
  | true =>
    rw [if_pos (by unfold fitsC; rw [d1]; rfl)]
    exact cond_not rfl rfl
  | false =>
    have hn : cntS k ≤ l.length := by have := of_decide_eq_false d1; omega
    obtain ⟨v1, e1, v2, e2, e3, i1, i2, i3, g, ⟨g1, g2⟩, q1, q2, q3, hres⟩ := tail_facts hk hn hl hx
    have q4 := RCheck_run g (by rw [maxLen_eq]; omega) (by rw [maxLen_eq]; omega)
    refine cond_run rfl (rx (Rfields_run hk) (okI _) ?_)
    show (bif decide (cntS k < (((strs l).length : Nat) : Int)) == true then _ else _) = _
    rw [hlen]
    cases d2 : decide (cntS k < (l.length : Int)) with
    | true =>
      refine cond_run rfl (rx (Ropen_run hk) (okB' _) ?_)
      show (bif !openB k then _ else _) = _
      cases ho : openB k with
      | false =>
        rw [if_pos (by unfold fitsC; rw [d1, d2, ho]; rfl)]
        exact cond_run rfl rfl
      | true =>
        rw [if_neg (by unfold fitsC; rw [d1, d2, ho]; decide), hres]
        refine cond_not rfl (rx q1 (okI _) (rx q2 (okI _) (rx q3 (ok39 _) (rx q4 (okN _) ?_))))
        by_cases h3 : e3 = 0
        · rw [if_pos h3, h3]
          by_cases hc : checkE g = 0
          · rw [if_pos hc, hc]
            exact cond_run rfl (cond_not rfl rfl)
          · rw [if_neg hc]
            exact cond_run rfl (cond_run (by show (!(checkE g == 0)) = true; rw [beq_false_of_ne hc]; rfl) rfl)
        · rw [if_neg h3]
          exact cond_not (beq_false_of_ne h3) (cond_run (by show (!(e3 == 0)) = true; rw [beq_false_of_ne h3]; rfl) rfl)
    | false =>
      rw [if_neg (by unfold fitsC; rw [d1, d2]; cases openB k <;> decide), hres]
      refine cond_not rfl (rx q1 (okI _) (rx q2 (okI _) (rx q3 (ok39 _) (rx q4 (okN _) ?_))))
      by_cases h3 : e3 = 0
      · rw [if_pos h3, h3]
        by_cases hc : checkE g = 0
        · rw [if_pos hc, hc]
          exact cond_run rfl (cond_not rfl rfl)
        · rw [if_neg hc]
          exact cond_run rfl (cond_run (by show (!(checkE g == 0)) = true; rw [beq_false_of_ne hc]; rfl) rfl)
      · rw [if_neg h3]
        exact cond_not (beq_false_of_ne h3) (cond_run (by show (!(e3 == 0)) = true; rw [beq_false_of_ne h3]; rfl) rfl)

end Go.Proofs.YtmocefjnplmibaaGreatDoor
