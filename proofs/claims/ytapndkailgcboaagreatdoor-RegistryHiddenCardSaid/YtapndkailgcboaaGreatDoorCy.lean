/- A schema that Check lets pass is right. -/
import Derived.Test.YtapndkailgcboaaGreatDoorCx
namespace Go.Proofs.YtapndkailgcboaaGreatDoor
open Go Go.Den
set_option maxRecDepth 100000

theorem nameS_ok {x : List UInt8} (h : nameS x = true) : NameOk x ∧ x.length ≤ 16 ∧ 1 ≤ x.length := by
  unfold nameS at h
  simp only [Bool.and_eq_true, decide_eq_true_eq] at h
  obtain ⟨⟨⟨h1, h2⟩, h3⟩, h4⟩ := h
  have low : ∀ c : UInt8, lowB (c.toNat : Int) = true → lowC c = true := fun c hc => by
    unfold lowB at hc
    by_cases h : (97 : Int) ≤ (c.toNat : Int)
    · rw [dec_yes h] at hc
      have h' : (c.toNat : Int) ≤ 122 := of_decide_eq_true hc
      simp only [lowC, Bool.and_eq_true, decide_eq_true_eq, UInt8.le_iff_toNat_le]
      exact ⟨by show 97 ≤ c.toNat; omega, by show c.toNat ≤ 122; omega⟩
    · rw [dec_no h] at hc; cases hc
  have dig : ∀ c : UInt8, digB (c.toNat : Int) = true → digC c = true := fun c hc => by
    unfold digB at hc
    by_cases h : (48 : Int) ≤ (c.toNat : Int)
    · rw [dec_yes h] at hc
      have h' : (c.toNat : Int) ≤ 57 := of_decide_eq_true hc
      simp only [digC, Bool.and_eq_true, decide_eq_true_eq, UInt8.le_iff_toNat_le]
      exact ⟨by show 48 ≤ c.toNat; omega, by show c.toNat ≤ 57; omega⟩
    · rw [dec_no h] at hc; cases hc
  refine ⟨⟨?_, ?_⟩, h2, h1⟩
  · cases x with
    | nil => simp at h1
    | cons c x => exact low c h3
  · intro c hc
    have := List.all_eq_true.1 h4 c hc
    unfold okB at this
    unfold namC
    rcases Bool.or_eq_true _ _ ▸ this with h | h
    · rcases Bool.or_eq_true _ _ ▸ h with h | h
      · rw [low c h]; rfl
      · rw [dig c h]; simp
    · have h' : (c.toNat : Int) = 45 := of_decide_eq_true h
      have : c = 45 := UInt8.toNat_inj.1 (show c.toNat = 45 by omega)
      subst this; decide

theorem namedS_zero {s p : List UInt8} {f : Bool} (h : namedS s p f = 0) : nameS s = true ∧ (f = false → Op.bytesLess p s = true) := by
  unfold namedS at h
  cases hn : nameS s with
  | false => rw [hn] at h; cases h
  | true =>
    rw [hn] at h
    refine ⟨rfl, ?_⟩
    rintro rfl
    change (bif notAfter s p then (22 : Int) else 0) = 0 at h
    cases ha : notAfter s p with
    | true => rw [ha] at h; cases h
    | false =>
      unfold notAfter at ha
      rw [Bool.or_eq_false_iff] at ha
      cases hb : Op.bytesLess p s with
      | true => rfl
      | false => exact absurd (less_tri _ _ ha.1 hb) (strEq_no.1 ha.2)

theorem ordS_zero : ∀ {l : List (List UInt8)} {f : Bool} {p : List UInt8}, ordS f p l = 0 → (∀ s ∈ l, nameS s = true) ∧ Asc l ∧ (f = false → ∀ s ∈ l, Op.bytesLess p s = true)
  | [], _, _, _ => ⟨by simp, List.Pairwise.nil, by simp⟩
  | s :: l, f, p, h => by
    unfold ordS at h
    cases he : (namedS s p f == 0) with
    | false => rw [he] at h; have : namedS s p f = 0 := h; rw [this] at he; cases he
    | true =>
      rw [he] at h
      obtain ⟨h1, h2⟩ := namedS_zero (by simpa using he)
      obtain ⟨k1, k2, k3⟩ := ordS_zero (l := l) h
      refine ⟨fun x hx => by rcases List.mem_cons.1 hx with rfl | hx; exact h1; exact k1 x hx, List.pairwise_cons.2 ⟨k3 rfl, k2⟩, fun hf x hx => ?_⟩
      rcases List.mem_cons.1 hx with rfl | hx
      · exact h2 hf
      · exact less_trans (h2 hf) (k3 rfl x hx)

theorem fldsS_zero {c : E → Int} : ∀ {l : List E} {f : Bool} {p : List UInt8}, fldsS c f p l = 0 → ordS f p (l.map nmE) = 0 ∧ ∀ g ∈ l, c (fieldTy g) = 0
  | [], _, _, _ => ⟨rfl, by simp⟩
  | x :: l, f, p, h => by
    unfold fldsS at h
    rw [List.map_cons]
    unfold ordS
    cases he : (namedS (nmE x) p f == 0) with
    | false => rw [he] at h; have : namedS (nmE x) p f = 0 := h; rw [this] at he; cases he
    | true =>
      rw [he] at h
      cases hc : (c (fieldTy x) == 0) with
      | false => rw [hc] at h; have : c (fieldTy x) = 0 := h; rw [this] at hc; cases hc
      | true =>
        rw [hc] at h
        obtain ⟨k1, k2⟩ := fldsS_zero (l := l) h
        exact ⟨k1, fun g hg => by rcases List.mem_cons.1 hg with rfl | hg; exact (by simpa using hc); exact k2 g hg⟩

theorem unused_zero {k mn mx : Int} {o f g : Nat} (h : unusedS k mn mx o f g = false) : (k ≠ 1 → k ≠ 2 → k ≠ 5 → mn = 0 ∧ mx = 0) ∧ (k ≠ 4 → o = 0) ∧ (k = 5 → f = 1) ∧ (k ≠ 5 → f = 0) ∧ (k ≠ 6 → g = 0) := by
  unfold unusedS unusedB at h
  simp only [Bool.or_eq_false_iff, Bool.and_eq_false_iff, Bool.not_eq_false', beq_iff_eq] at h
  obtain ⟨⟨⟨h1, h2⟩, h3⟩, h4⟩ := h
  refine ⟨fun n1 n2 n5 => ?_, fun n4 => ?_, fun h5 => ?_, fun n5 => ?_, fun n6 => ?_⟩
  · rcases h1 with ((h | h) | h) | h
    · exact absurd h n1
    · exact absurd h n2
    · exact absurd h n5
    · simpa using h
  · rcases h2 with h | h
    · exact absurd h n4
    · simp at h; omega
  · rw [eq_beq h5] at h3
    simp at h3; omega
  · rw [ne_beq n5] at h3
    simp at h3; omega
  · rcases h4 with h | h
    · exact absurd h n6
    · simp at h; omega

theorem rangeS_zero {mn mx l h : Int} (e : rangeS mn mx l h = 0) : l ≤ mn ∧ mn ≤ mx ∧ mx ≤ h := by
  unfold rangeS at e
  split at e
  · assumption
  · cases e

theorem ty_mkT {k mn mx : Int} {os fs gs : List E} : E.agg [.int .i64 k, .int .i64 mn, .int .i64 mx, .sl 9 os, .sl 31 fs, .sl 65 gs] = mkT 9 31 65 k mn mx os fs gs := rfl

/-- A schema that Check lets pass is right. -/
theorem check_ful : ∀ (d : Nat) (e : E), checkS d e = 0 → rdeepS d e = false → Ty e → Ful 9 31 65 d e
  | 0, e, _, h, _ => by cases h
  | d + 1, e, hc, hd, ht => by
    cases ht with
    | mk k mn mx os fs gs ho hol hf hfl hg hgn hgl hk hmn hmx =>
    rw [rdeepS_at, Bool.or_eq_false_iff] at hd
    rw [checkS_at] at hc
    by_cases h17 : k < 1 ∨ 7 < k
    · rw [if_pos h17] at hc; cases hc
    rw [if_neg h17] at hc
    cases hu : unusedS k mn mx os.length fs.length gs.length with
    | true => rw [hu] at hc; cases hc
    | false =>
    rw [hu, if_neg (by decide)] at hc
    obtain ⟨u1, u2, u3, u4, u5⟩ := unused_zero hu
    rw [ty_mkT]
    have nil : ∀ {l : List E}, l.length = 0 → l = [] := fun h => List.length_eq_zero_iff.1 h
    by_cases h1 : k = 1
    · rw [if_pos h1] at hc
      have e1 := nil (u2 (by omega)); have e2 := nil (u4 (by omega)); have e3 := nil (u5 (by omega))
      subst e1; subst e2; subst e3; subst h1
      obtain ⟨r1, r2, r3⟩ := rangeS_zero hc
      exact .inl ⟨mn, mx, rfl, r1, r2, r3⟩
    rw [if_neg h1] at hc
    by_cases h2 : k = 2
    · rw [if_pos h2] at hc
      have e1 := nil (u2 (by omega)); have e2 := nil (u4 (by omega)); have e3 := nil (u5 (by omega))
      subst e1; subst e2; subst e3; subst h2
      obtain ⟨r1, r2, r3⟩ := rangeS_zero hc
      exact .inr (.inl ⟨mn, mx, rfl, r1, r2, r3⟩)
    rw [if_neg h2] at hc
    by_cases h4 : k = 4
    · rw [if_pos h4] at hc
      obtain ⟨z1, z2⟩ := u1 h1 h2 (by omega)
      have e2 := nil (u4 (by omega)); have e3 := nil (u5 (by omega))
      subst e2; subst e3; subst h4; subst z1; subst z2
      unfold optsS at hc
      by_cases h0 : os.length = 0
      · rw [if_pos h0] at hc; cases hc
      rw [if_neg h0] at hc
      by_cases h16 : 16 < os.length
      · rw [if_pos h16] at hc; cases hc
      rw [if_neg h16] at hc
      obtain ⟨o1, o2, _⟩ := ordS_zero hc
      refine .inr (.inr (.inr (.inl ⟨os, rfl, fun e => h0 (by rw [e]; rfl), by omega, o2, fun o hm => ?_⟩)))
      obtain ⟨n, rfl, _⟩ := ho o hm
      obtain ⟨n1, n2, _⟩ := nameS_ok (o1 n (List.mem_map_of_mem (f := nmE) hm))
      exact ⟨n, rfl, n1, n2⟩
    rw [if_neg h4] at hc
    by_cases h5 : k = 5
    · rw [if_pos h5] at hc
      have e1 := nil (u2 h4); have e3 := nil (u5 (by omega))
      by_cases hr : rangeS mn mx 0 32 = 0
      · rw [if_pos hr] at hc
        obtain ⟨r1, r2, r3⟩ := rangeS_zero hr
        have l1 := u3 h5
        have hm : fs.getD 0 .nili ∈ fs := getD_mem (by omega)
        have hd' : rdeepS d (fs.getD 0 .nili) = false := by
          have := hd.1
          rw [if_pos h5, List.any_eq_false] at this
          simpa using this _ hm
        have ih := check_ful d _ hc hd' (hf _ hm)
        have e2 : fs = [fs.getD 0 .nili] := by
          match fs, l1 with
          | [x], _ => rfl
        generalize fs.getD 0 E.nili = y at ih e2
        subst e1; subst e2; subst e3; subst h5
        exact .inr (.inr (.inr (.inr (.inl ⟨mn, mx, y, rfl, r1, r2, r3, ih⟩))))
      · rw [if_neg hr] at hc; exact absurd hc hr
    rw [if_neg h5] at hc
    obtain ⟨z1, z2⟩ := u1 h1 h2 h5
    have e1 := nil (u2 h4); have e2 := nil (u4 h5)
    by_cases h6 : k = 6
    · rw [if_pos h6] at hc
      by_cases h16 : 16 < gs.length
      · rw [if_pos h16] at hc; cases hc
      rw [if_neg h16] at hc
      obtain ⟨f1, f2⟩ := fldsS_zero hc
      obtain ⟨o1, o2, _⟩ := ordS_zero f1
      have hd' : ∀ x ∈ gs, rdeepS d (fieldTy x) = false := fun x hx => by
        have := hd.2
        rw [if_pos h6, List.any_eq_false] at this
        simpa using this x hx
      subst e1; subst e2; subst h6; subst z1; subst z2
      refine .inr (.inr (.inr (.inr (.inr (.inl ⟨gs, rfl, by omega, o2, fun g hm => ?_⟩)))))
      obtain ⟨n, op, cs, rfl, _⟩ := hgn g hm
      obtain ⟨n1, n2, _⟩ := nameS_ok (o1 n (List.mem_map_of_mem (f := nmE) hm))
      exact ⟨n, op, .agg cs, rfl, n1, n2, check_ful d _ (f2 _ hm) (hd' _ hm) (hg _ hm)⟩
    · have e3 := nil (u5 h6)
      subst e1; subst e2; subst e3; subst z1; subst z2
      have : k = 3 ∨ k = 7 := by omega
      rcases this with rfl | rfl
      · exact .inr (.inr (.inl rfl))
      · exact .inr (.inr (.inr (.inr (.inr (.inr rfl)))))

theorem CheckS_ful {e : E} (h : CheckS e = 0) (ht : Ty e) : Ful 9 31 65 6 e := by
  unfold CheckS at h
  cases hd : rdeepS 6 e with
  | true => rw [hd] at h; cases h
  | false =>
    rw [hd, if_neg (by decide)] at h
    exact check_ful 6 e h hd ht

end Go.Proofs.YtapndkailgcboaaGreatDoor
