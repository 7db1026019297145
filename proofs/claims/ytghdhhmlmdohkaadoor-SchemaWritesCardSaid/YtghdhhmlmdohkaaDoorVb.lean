/- A value that is right passes the check. -/
import Derived.Test.YtghdhhmlmdohkaaDoorVa
namespace Go.Proofs.YtghdhhmlmdohkaaDoor
open Go Go.Den
set_option maxRecDepth 100000

theorem nameS_of {x : List UInt8} (h : NameOk x) (hl : x.length ≤ 16) : nameS x = true := by
  obtain ⟨h1, h2⟩ := h
  cases x with
  | nil => exact absurd h1 (by decide)
  | cons c x =>
    have low : ∀ c : UInt8, lowC c = true → lowB (c.toNat : Int) = true := fun c hc => by
      simp only [lowC, Bool.and_eq_true, decide_eq_true_eq, UInt8.le_iff_toNat_le] at hc
      have a1 : 97 ≤ c.toNat := hc.1
      have a2 : c.toNat ≤ 122 := hc.2
      unfold lowB
      rw [dec_yes (show (97 : Int) ≤ (c.toNat : Int) by omega), dec_yes (show (c.toNat : Int) ≤ 122 by omega)]; rfl
    have dig : ∀ c : UInt8, digC c = true → digB (c.toNat : Int) = true := fun c hc => by
      simp only [digC, Bool.and_eq_true, decide_eq_true_eq, UInt8.le_iff_toNat_le] at hc
      have a1 : 48 ≤ c.toNat := hc.1
      have a2 : c.toNat ≤ 57 := hc.2
      unfold digB
      rw [dec_yes (show (48 : Int) ≤ (c.toNat : Int) by omega), dec_yes (show (c.toNat : Int) ≤ 57 by omega)]; rfl
    unfold nameS
    rw [decide_eq_true (show 1 ≤ (c :: x).length by simp), decide_eq_true hl]
    have e1 : lowB (((c :: x).getD 0 0).toNat : Int) = true := low c h1
    have e2 : (c :: x).all okB = true := by
      rw [List.all_eq_true]
      intro y hy
      have := h2 y hy
      unfold namC at this
      unfold okB
      rcases Bool.or_eq_true _ _ ▸ this with h | h
      · rcases Bool.or_eq_true _ _ ▸ h with h | h
        · rw [low y h]; rfl
        · rw [dig y h]; simp
      · have : y = 45 := by simpa using h
        subst this
        simp
    rw [e1, e2]; rfl

theorem namedS_of {s p : List UInt8} {f : Bool} (h : nameS s = true) (hf : f = false → Op.bytesLess p s = true) : namedS s p f = 0 := by
  unfold namedS
  rw [h]
  cases f with
  | true => rfl
  | false =>
    have hl := hf rfl
    have : notAfter s p = false := by
      unfold notAfter
      rw [less_asymm hl, Bool.false_or]
      cases he : strEq s p with
      | false => rfl
      | true =>
        rw [strEq_iff] at he
        subst he
        rw [less_irrefl] at hl; cases hl
    rw [this]; rfl

theorem ckL_of {c : E → Int} {r : Bool} : ∀ {vs ns : List E} {f : Bool} {p : List UInt8}, (∀ v ∈ vs, c v = 0) →
    (r = true → ns.length = vs.length ∧ (∀ o ∈ ns, nameS (nmE o) = true) ∧ Asc (ns.map nmE) ∧ (f = false → ∀ o ∈ ns, Op.bytesLess p (nmE o) = true)) → ckL c r f p ns vs = 0
  | [], _, _, _, _, _ => rfl
  | v :: vs, ns, f, p, hc, hr => by
    unfold ckL
    rw [hc v (by simp)]
    cases r with
    | false => exact ckL_of (vs := vs) (fun v hv => hc v (by simp [hv])) (fun h => by cases h)
    | true =>
      obtain ⟨h1, h2, h3, h4⟩ := hr rfl
      cases ns with
      | nil => cases h1
      | cons o ns =>
        rw [List.map_cons] at h3
        obtain ⟨a1, a2⟩ := List.pairwise_cons.1 h3
        have e : namedS (nmE ((o :: ns).getD 0 .nili)) p f = 0 := namedS_of (h2 o (by simp)) fun hf => h4 hf o (by simp)
        have rest := ckL_of (c := c) (r := true) (vs := vs) (ns := ns) (f := false) (p := nmE o) (fun v hv => hc v (by simp [hv])) fun _ =>
          ⟨by simpa using h1, fun x hx => h2 x (by simp [hx]), a2, fun _ x hx => a1 _ (List.mem_map_of_mem hx)⟩
        show (bif namedS (nmE ((o :: ns).getD 0 .nili)) p f == 0 then _ else namedS (nmE ((o :: ns).getD 0 .nili)) p f) = 0
        rw [e]
        exact rest

theorem ful_check : ∀ (d : Nat) (v : E), FulV 9 38 d v → checkV d v = 0 ∧ rdeepV d v = false
  | 0, _, h => by cases h
  | d + 1, v, h => by
    rcases h with ⟨n, rfl, n0, n1⟩ | ⟨x, rfl⟩ | rfl | rfl | ⟨vs, rfl, hv⟩ | ⟨ns, vs, rfl, hl, ha, hn, hv⟩
    · refine ⟨?_, rfl⟩
      show (if _ then _ else _ : Int) = 0
      rw [if_neg (by omega), if_neg (by show ¬ oddS 1 n [] [] [] = true; unfold oddS; cases (n == 0) <;> simp [oddB, strEq]), if_neg (by omega)]
      rfl
    · exact ⟨rfl, rfl⟩
    · exact ⟨rfl, rfl⟩
    · exact ⟨rfl, rfl⟩
    · have r : ∀ y ∈ vs, rdeepV d y = false := fun y hy => (ful_check d y (hv y hy)).2
      refine ⟨?_, ?_⟩
      · show (if _ then _ else _ : Int) = 0
        rw [if_neg (by omega), if_neg (by show ¬ oddS 5 0 [] [] vs = true; unfold oddS; simp [oddB, strEq]), if_neg (by omega)]
        exact ckL_of (fun y hy => (ful_check d y (hv y hy)).1) (fun h => by cases h)
      · show (true && vs.any (rdeepV d)) = false
        rw [Bool.true_and, List.any_eq_false]
        intro y hy; rw [r y hy]; decide
    · have r : ∀ y ∈ vs, rdeepV d y = false := fun y hy => (ful_check d y (hv y hy)).2
      refine ⟨?_, ?_⟩
      · show (if _ then _ else _ : Int) = 0
        rw [if_neg (by omega), if_neg (by show ¬ oddS 6 0 [] ns vs = true; unfold oddS; rw [hl]; simp [oddB, strEq]), if_neg (by omega)]
        exact ckL_of (fun y hy => (ful_check d y (hv y hy)).1) (fun _ => ⟨hl, fun o ho => by obtain ⟨m, rfl, h1, h2⟩ := hn o ho; exact nameS_of h1 h2, ha, fun h => by cases h⟩)
      · show (true && vs.any (rdeepV d)) = false
        rw [Bool.true_and, List.any_eq_false]
        intro y hy; rw [r y hy]; decide

end Go.Proofs.YtghdhhmlmdohkaaDoor
