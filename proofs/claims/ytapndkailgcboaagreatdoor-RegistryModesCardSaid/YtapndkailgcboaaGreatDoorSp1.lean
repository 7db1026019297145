/- Sp1: texts SpA .. SpF in one. -/
import Derived.Test.YtapndkailgcboaaGreatDoorDn7
import Derived.Lib.ItoaNum
import Derived.Lib.Join
/- Schemas and values as data; what the chapter's functions say of them; laws of these. -/
namespace Go.Den
open Go

/-! ### Parts -/

def kindE (x : E) : Int := (x.cell 0).toInt
def minE (x : E) : Int := (x.cell 1).toInt
def maxE (x : E) : Int := (x.cell 2).toInt
def optsE (x : E) : List E := (x.cell 3).toList
def ofE (x : E) : List E := (x.cell 4).toList
def fieldsE (x : E) : List E := (x.cell 5).toList
def nmE (x : E) : List UInt8 := (x.cell 0).toStr
def optF (x : E) : Bool := (x.cell 1).toBool
def ofOne (x : E) : E := (ofE x).getD 0 .nili

/-! ### Order of texts -/

theorem less_irrefl : ∀ a : List UInt8, Op.bytesLess a a = false
  | [] => rfl
  | a :: x => by simp [Op.bytesLess, less_irrefl x]
theorem less_trans : ∀ {a b c : List UInt8}, Op.bytesLess a b = true → Op.bytesLess b c = true → Op.bytesLess a c = true
  | _, _, [], _, h => by simp [Op.bytesLess] at h
  | [], _, _ :: _, _, _ => rfl
  | _ :: _, [], _, h, _ => by simp [Op.bytesLess] at h
  | a :: x, b :: y, c :: z, h, k => by
    simp only [Op.bytesLess, Bool.or_eq_true, Bool.and_eq_true, decide_eq_true_eq, beq_iff_eq] at h k ⊢
    rcases h with h | ⟨h1, h2⟩
    · rcases k with k | ⟨k1, k2⟩
      · exact .inl (UInt8.lt_trans h k)
      · subst k1; exact .inl h
    · subst h1
      rcases k with k | ⟨k1, k2⟩
      · exact .inl k
      · exact .inr ⟨k1, less_trans h2 k2⟩
theorem less_tri : ∀ (a b : List UInt8), Op.bytesLess a b = false → Op.bytesLess b a = false → a = b
  | [], [], _, _ => rfl
  | [], _ :: _, h, _ => by simp [Op.bytesLess] at h
  | _ :: _, [], _, h => by simp [Op.bytesLess] at h
  | a :: x, b :: y, h, k => by
    simp only [Op.bytesLess, Bool.or_eq_false_iff, Bool.and_eq_false_iff, decide_eq_false_iff_not, beq_eq_false_iff_ne] at h k
    have e : a = b := by
      have h1 := h.1; have h2 := k.1
      rw [UInt8.not_lt] at h1 h2
      exact UInt8.le_antisymm h2 h1
    subst e
    rw [less_tri x y (by rcases h.2 with h | h <;> simp_all) (by rcases k.2 with h | h <;> simp_all)]
theorem less_asymm {a b : List UInt8} (h : Op.bytesLess a b = true) : Op.bytesLess b a = false := by
  cases hb : Op.bytesLess b a with
  | false => rfl
  | true => have := less_trans h hb; rw [less_irrefl] at this; cases this
theorem strEq_iff {a b : List UInt8} : strEq a b = true ↔ a = b := by simp [strEq]
theorem strEq_no {a b : List UInt8} : strEq a b = false ↔ a ≠ b := by simp [strEq]

/-- Names in ascending order. -/
def Asc (l : List (List UInt8)) : Prop := l.Pairwise fun a b => Op.bytesLess a b = true

/-! ### Schemas that are right -/

def okT : Nat → E → Prop
  | 0, _ => False
  | d + 1, a => 1 ≤ kindE a ∧ kindE a ≤ 7 ∧ (kindE a = 1 → minE a ≤ maxE a) ∧ (kindE a = 2 → 0 ≤ minE a ∧ minE a ≤ maxE a ∧ maxE a ≤ 256) ∧
    (kindE a = 5 → 0 ≤ minE a ∧ minE a ≤ maxE a ∧ maxE a ≤ 32 ∧ (ofE a).length = 1 ∧ okT d (ofOne a)) ∧
    (kindE a = 6 → Asc ((fieldsE a).map nmE) ∧ ∀ f ∈ fieldsE a, okT d (fieldTy f))

/-! ### Includes -/

def findF (l : List E) (n : List UInt8) : Option E := l.find? fun g => strEq (nmE g) n

def covS (a b : E) : Bool := (optsE b).all fun s => decide (minE a ≤ (nmE s).length) && decide (((nmE s).length : Int) ≤ maxE a)
def insS (a b : E) : Bool := decide (minE a ≤ minE b) && decide (maxE b ≤ maxE a)
def hasS (l : List E) (n : List UInt8) : Bool := l.any fun x => strEq (nmE x) n
def recS (inc : E → E → Bool) (a b : E) : Bool :=
  ((fieldsE b).all fun f => match findF (fieldsE a) (nmE f) with | some g => inc (fieldTy g) (fieldTy f) | none => false) &&
  ((fieldsE a).all fun g => optF g || match findF (fieldsE b) (nmE g) with | some f => !optF f | none => false)
def incS : Nat → E → E → Bool
  | 0, _, _ => false
  | d + 1, a, b =>
    if kindE a = 7 then true
    else if kindE a = 2 ∧ kindE b = 4 then covS a b
    else if kindE a ≠ kindE b then false
    else if kindE a = 1 ∨ kindE a = 2 then insS a b
    else if kindE a = 4 then (optsE b).all fun s => hasS (optsE a) (nmE s)
    else if kindE a = 5 then insS a b && (decide (maxE b = 0) || incS d (ofOne a) (ofOne b))
    else if kindE a = 6 then recS (incS d) a b
    else true

theorem findF_some {l : List E} {n : List UInt8} {g : E} (h : findF l n = some g) : g ∈ l ∧ nmE g = n := by
  unfold findF at h
  exact ⟨List.mem_of_find?_eq_some h, by simpa [strEq] using List.find?_some h⟩
theorem findF_none {l : List E} {n : List UInt8} (h : findF l n = none) : ∀ g ∈ l, nmE g ≠ n := by
  unfold findF at h
  intro g hg
  have := List.find?_eq_none.1 h g hg
  simpa [strEq] using this
theorem Asc.inj {l : List E} (h : Asc (l.map nmE)) : ∀ {f g : E}, f ∈ l → g ∈ l → nmE f = nmE g → f = g := by
  induction l with
  | nil => intro f g hf; simp at hf
  | cons x l ih =>
    unfold Asc at h ih
    rw [List.map_cons, List.pairwise_cons] at h
    have hlt : ∀ y ∈ l, nmE y ≠ nmE x := fun y hy e => by
      have := h.1 (nmE y) (List.mem_map_of_mem hy)
      rw [e, less_irrefl] at this; cases this
    intro f g hf hg e
    rcases List.mem_cons.1 hf with hf1 | hf1 <;> rcases List.mem_cons.1 hg with hg1 | hg1
    · rw [hf1, hg1]
    · rw [hf1] at e; exact absurd e.symm (hlt g hg1)
    · rw [hg1] at e; exact absurd e (hlt f hf1)
    · exact ih h.2 hf1 hg1 e
theorem findF_self {l : List E} (h : Asc (l.map nmE)) {f : E} (hf : f ∈ l) : findF l (nmE f) = some f := by
  cases hg : findF l (nmE f) with
  | none => exact absurd rfl (findF_none hg f hf)
  | some g =>
    obtain ⟨h1, h2⟩ := findF_some hg
    rw [h.inj h1 hf h2]

theorem insS_refl (a : E) : insS a a = true := by simp [insS]
theorem insS_trans {a b c : E} (h : insS a b = true) (k : insS b c = true) : insS a c = true := by
  simp only [insS, Bool.and_eq_true, decide_eq_true_eq] at *
  omega

theorem inc_refl : ∀ (d : Nat) (a : E), okT d a → incS d a a = true
  | 0, _, h => by cases h
  | d + 1, a, h => by
    obtain ⟨h1, h2, h3, h4, h5, h6⟩ := h
    unfold incS
    split
    · rfl
    · split
      · omega
      · rw [if_neg (by simp)]
        split
        · exact insS_refl a
        · split
          · rw [List.all_eq_true]
            intro s hs
            exact List.any_eq_true.2 ⟨s, hs, by simp [strEq]⟩
          · split
            · rename_i k5
              rw [insS_refl, inc_refl d _ (h5 k5).2.2.2.2]
              simp
            · split
              · rename_i k6
                obtain ⟨ha, hf⟩ := h6 k6
                simp only [recS, Bool.and_eq_true, List.all_eq_true]
                constructor
                · intro f hm
                  rw [findF_self ha hm]
                  exact inc_refl d _ (hf f hm)
                · intro f hm
                  rw [findF_self ha hm]
                  show (optF f || !optF f) = true
                  cases optF f <;> rfl
              · rfl

theorem inc_trans : ∀ (d : Nat) (a b c : E), okT d a → okT d b → okT d c → incS d a b = true → incS d b c = true → incS d a c = true
  | 0, _, _, _, h, _, _, _, _ => by cases h
  | d + 1, a, b, c, ha, hb, hc, hab, hbc => by
    obtain ⟨a1, a2, a3, a4, a5, a6⟩ := ha
    obtain ⟨b1, b2, b3, b4, b5, b6⟩ := hb
    obtain ⟨c1, c2, c3, c4, c5, c6⟩ := hc
    unfold incS at hab hbc ⊢
    by_cases k7 : kindE a = 7
    · rw [if_pos k7]
    · rw [if_neg k7] at hab ⊢
      by_cases kb7 : kindE b = 7
      · rw [if_neg (by omega), if_pos (by omega)] at hab
        cases hab
      rw [if_neg kb7] at hbc
      by_cases k24 : kindE a = 2 ∧ kindE b = 4
      · rw [if_pos k24] at hab
        rw [if_neg (by omega)] at hbc
        by_cases kc : kindE b ≠ kindE c
        · rw [if_pos kc] at hbc; cases hbc
        · rw [if_neg kc, if_neg (by omega), if_pos k24.2] at hbc
          rw [if_pos (by omega)]
          simp only [covS, List.all_eq_true] at hab hbc ⊢
          intro s hs
          obtain ⟨t, ht, e⟩ := List.any_eq_true.1 (hbc s hs)
          rw [strEq_iff] at e
          rw [← e]
          exact hab t ht
      · rw [if_neg k24] at hab
        by_cases kab : kindE a ≠ kindE b
        · rw [if_pos kab] at hab; cases hab
        · rw [if_neg kab] at hab
          have kab : kindE a = kindE b := by omega
          by_cases kbc : kindE b = 2 ∧ kindE c = 4
          · rw [if_pos kbc] at hbc
            rw [if_pos (by omega)]
            rw [if_pos (by omega)] at hab
            simp only [covS, insS, List.all_eq_true, Bool.and_eq_true, decide_eq_true_eq] at hab hbc ⊢
            intro s hs
            have := hbc s hs
            omega
          · rw [if_neg kbc] at hbc
            by_cases kne : kindE b ≠ kindE c
            · rw [if_pos kne] at hbc; cases hbc
            · rw [if_neg kne] at hbc
              have kbc' : kindE b = kindE c := by omega
              rw [if_neg (by omega), if_neg (by omega)]
              rw [← kab] at hbc
              by_cases k12 : kindE a = 1 ∨ kindE a = 2
              · rw [if_pos k12] at hab hbc ⊢
                exact insS_trans hab hbc
              · rw [if_neg k12] at hab hbc ⊢
                by_cases k4 : kindE a = 4
                · rw [if_pos k4] at hab hbc ⊢
                  rw [List.all_eq_true] at hab hbc ⊢
                  intro s hs
                  obtain ⟨t, ht, e⟩ := List.any_eq_true.1 (hbc s hs)
                  rw [strEq_iff] at e
                  rw [← e]
                  exact hab t ht
                · rw [if_neg k4] at hab hbc ⊢
                  by_cases k5 : kindE a = 5
                  · rw [if_pos k5] at hab hbc ⊢
                    simp only [Bool.and_eq_true, Bool.or_eq_true, decide_eq_true_eq] at hab hbc ⊢
                    refine ⟨insS_trans hab.1 hbc.1, ?_⟩
                    have hA := a5 k5
                    have hB := b5 (by omega)
                    have hC := c5 (by omega)
                    rcases hbc.2 with h | h
                    · exact .inl h
                    · rcases hab.2 with k | k
                      · left
                        have := hbc.1
                        simp only [insS, Bool.and_eq_true, decide_eq_true_eq] at this
                        omega
                      · exact .inr (inc_trans d _ _ _ hA.2.2.2.2 hB.2.2.2.2 hC.2.2.2.2 k h)
                  · rw [if_neg k5] at hab hbc ⊢
                    by_cases k6 : kindE a = 6
                    · rw [if_pos k6] at hab hbc ⊢
                      obtain ⟨aA, aF⟩ := a6 k6
                      obtain ⟨bA, bF⟩ := b6 (by omega)
                      obtain ⟨cA, cF⟩ := c6 (by omega)
                      simp only [recS, Bool.and_eq_true, List.all_eq_true, Bool.or_eq_true] at hab hbc ⊢
                      constructor
                      · intro f hf
                        have h1 := hbc.1 f hf
                        cases hg : findF (fieldsE b) (nmE f) with
                        | none => rw [hg] at h1; cases h1
                        | some g =>
                          rw [hg] at h1
                          obtain ⟨g1, g2⟩ := findF_some hg
                          have h2 := hab.1 g g1
                          rw [g2] at h2
                          cases hh : findF (fieldsE a) (nmE f) with
                          | none => rw [hh] at h2; cases h2
                          | some h =>
                            rw [hh] at h2
                            obtain ⟨e1, e2⟩ := findF_some hh
                            exact inc_trans d _ _ _ (aF h e1) (bF g g1) (cF f hf) h2 h1
                      · intro g hg
                        rcases hab.2 g hg with h1 | h1
                        · exact .inl h1
                        · right
                          cases hf : findF (fieldsE b) (nmE g) with
                          | none => rw [hf] at h1; cases h1
                          | some f =>
                            rw [hf] at h1
                            obtain ⟨f1, f2⟩ := findF_some hf
                            rcases hbc.2 f f1 with h2 | h2
                            · have h1 : (!optF f) = true := h1
                              rw [h2] at h1; cases h1
                            · rw [f2] at h2; exact h2
                    · rw [if_neg k6]

end Go.Den

/- Which values fit a schema; what includes another one lets in what that one lets in. -/
namespace Go.Den
open Go

def txtE (v : E) : List UInt8 := (v.cell 2).toStr
def namesE (v : E) : List E := (v.cell 3).toList
def listE (v : E) : List E := (v.cell 4).toList

/-- The path of the first element that does not fit. -/
def elemsS (f : E → Option (List UInt8)) : Nat → List E → Option (List UInt8)
  | _, [] => none
  | i, x :: r => match f x with | some p => some (91 :: (Lib.itoa i ++ [93]) ++ p) | none => elemsS f (i + 1) r
/-- The path of the first member that does not fit. -/
def membS (f : E → E → Option (List UInt8)) : List E → List E → List E → Option (List UInt8)
  | [], [], _ => none
  | [], n :: _, _ => some (46 :: nmE n)
  | t :: ts, [], vs => if optF t = true then membS f ts [] vs else some (46 :: nmE t)
  | t :: ts, n :: ns, vs =>
    if Op.bytesLess (nmE t) (nmE n) = true then (if optF t = true then membS f ts (n :: ns) vs else some (46 :: nmE t))
    else if Op.bytesLess (nmE n) (nmE t) = true then some (46 :: nmE n)
    else match f (fieldTy t) (vs.getD 0 .nili) with | some p => some (46 :: nmE n ++ p) | none => membS f ts ns (vs.drop 1)

def yesS (b : Bool) : Option (List UInt8) := if b = true then none else some []

def fitsS : Nat → E → E → Option (List UInt8)
  | 0, _, _ => some []
  | d + 1, t, v =>
    if kindE t = 7 then none
    else if kindE t = 1 then yesS (decide (kindE v = 1) && decide (minE t ≤ minE v) && decide (minE v ≤ maxE t))
    else if kindE t = 2 then yesS (decide (kindE v = 2) && decide (minE t ≤ (txtE v).length) && decide (((txtE v).length : Int) ≤ maxE t))
    else if kindE t = 3 then yesS (decide (kindE v = 3))
    else if kindE t = 4 then yesS (decide (kindE v = 2) && hasS (optsE t) (txtE v))
    else if kindE t = 5 then (if kindE v = 5 ∧ minE t ≤ (listE v).length ∧ ((listE v).length : Int) ≤ maxE t then elemsS (fitsS d (ofOne t)) 0 (listE v) else some [])
    else if kindE t = 6 then (if kindE v = 6 then membS (fitsS d) (fieldsE t) (namesE v) (listE v) else some [])
    else some []

theorem elemsS_none {f : E → Option (List UInt8)} : ∀ {l : List E} {i : Nat}, elemsS f i l = none ↔ ∀ x ∈ l, f x = none
  | [], _ => by simp [elemsS]
  | x :: l, i => by
    unfold elemsS
    cases h : f x with
    | some p => simp [h]
    | none => simp [h, elemsS_none (l := l)]

def MembOk (f : E → E → Option (List UInt8)) (ts ns vs : List E) : Prop :=
  (∀ p ∈ ns.zip vs, ∃ t ∈ ts, nmE t = nmE p.1 ∧ f (fieldTy t) p.2 = none) ∧ ∀ t ∈ ts, optF t = true ∨ ∃ n ∈ ns, nmE n = nmE t

theorem membS_none {f : E → E → Option (List UInt8)} : ∀ {ts ns vs : List E}, Asc (ts.map nmE) → Asc (ns.map nmE) → ns.length = vs.length → (membS f ts ns vs = none ↔ MembOk f ts ns vs)
  | [], [], vs, _, _, _ => by simp [membS, MembOk]
  | [], n :: ns, [], _, _, h => by simp at h
  | [], n :: ns, v :: vs, _, _, h => by
    constructor
    · intro hh; cases hh
    · rintro ⟨k1, _⟩
      obtain ⟨x, hx, _⟩ := k1 (n, v) (by simp)
      cases hx
  | t :: ts, [], vs, ha, _, h => by
    have ha' : Asc (ts.map nmE) := (List.pairwise_cons.1 ha).2
    have ih := membS_none (f := f) (ts := ts) (ns := []) (vs := vs) ha' List.Pairwise.nil h
    unfold membS
    by_cases ho : optF t = true
    · rw [if_pos ho, ih]
      simp [MembOk, ho]
    · rw [if_neg ho]
      simp [MembOk, ho]
  | t :: ts, n :: ns, [], _, _, h => by simp at h
  | t :: ts, n :: ns, v :: vs, ha, hn, h => by
    obtain ⟨a1, a2⟩ := List.pairwise_cons.1 (show ((t :: ts).map nmE).Pairwise _ from ha)
    obtain ⟨n1, n2⟩ := List.pairwise_cons.1 (show ((n :: ns).map nmE).Pairwise _ from hn)
    have at' : ∀ x ∈ ts, Op.bytesLess (nmE t) (nmE x) = true := fun x hx => a1 _ (List.mem_map_of_mem hx)
    have nt' : ∀ x ∈ ns, Op.bytesLess (nmE n) (nmE x) = true := fun x hx => n1 _ (List.mem_map_of_mem hx)
    have zipn : ∀ p ∈ ns.zip vs, p.1 ∈ ns := fun p hp => (List.of_mem_zip hp).1
    unfold membS
    by_cases h1 : Op.bytesLess (nmE t) (nmE n) = true
    · rw [if_pos h1]
      have hno : ∀ x ∈ n :: ns, nmE x ≠ nmE t := fun x hx e => by
        rcases List.mem_cons.1 hx with rfl | hx
        · rw [e, less_irrefl] at h1; cases h1
        · have := less_trans h1 (nt' x hx); rw [e, less_irrefl] at this; cases this
      by_cases ho : optF t = true
      · rw [if_pos ho, membS_none a2 hn h]
        constructor
        · rintro ⟨k1, k2⟩
          exact ⟨fun p hp => let ⟨x, hx, e⟩ := k1 p hp; ⟨x, List.mem_cons_of_mem _ hx, e⟩, fun x hx => by
            rcases List.mem_cons.1 hx with rfl | hx
            · exact .inl ho
            · exact k2 x hx⟩
        · rintro ⟨k1, k2⟩
          refine ⟨fun p hp => ?_, fun x hx => k2 x (List.mem_cons_of_mem _ hx)⟩
          obtain ⟨x, hx, e1, e2⟩ := k1 p hp
          rcases List.mem_cons.1 hx with rfl | hx
          · exact absurd e1.symm (hno p.1 (List.of_mem_zip hp).1)
          · exact ⟨x, hx, e1, e2⟩
      · rw [if_neg ho]
        constructor
        · intro hh; cases hh
        · rintro ⟨_, k2⟩
          rcases k2 t (by simp) with k | ⟨x, hx, e⟩
          · exact absurd k ho
          · exact absurd e (hno x hx)
    · rw [if_neg h1]
      by_cases h2 : Op.bytesLess (nmE n) (nmE t) = true
      · rw [if_pos h2]
        constructor
        · intro hh; cases hh
        · rintro ⟨k1, _⟩
          obtain ⟨x, hx, e, _⟩ := k1 (n, v) (by simp)
          rcases List.mem_cons.1 hx with rfl | hx
          · rw [e, less_irrefl] at h2; cases h2
          · have := less_trans h2 (at' x hx); rw [e, less_irrefl] at this; cases this
      · rw [if_neg h2]
        have e : nmE t = nmE n := less_tri _ _ (by simpa using h1) (by simpa using h2)
        have ht : ∀ x ∈ ts, nmE x ≠ nmE n := fun x hx e' => by
          have := at' x hx; rw [e, e', less_irrefl] at this; cases this
        have hs : ∀ x ∈ ns, nmE x ≠ nmE n := fun x hx e' => by
          have := nt' x hx; rw [e', less_irrefl] at this; cases this
        have hv : (v :: vs).getD 0 E.nili = v := rfl
        rw [hv]
        cases hf : f (fieldTy t) v with
        | some p =>
          constructor
          · intro hh; cases hh
          · rintro ⟨k1, _⟩
            obtain ⟨x, hx, e1, e2⟩ := k1 (n, v) (by simp)
            rcases List.mem_cons.1 hx with rfl | hx
            · rw [hf] at e2; cases e2
            · exact absurd e1 (ht x hx)
        | none =>
          show membS f ts ns vs = none ↔ _
          rw [membS_none a2 n2 (by simpa using h)]
          constructor
          · rintro ⟨k1, k2⟩
            constructor
            · intro p hp
              rw [List.zip_cons_cons, List.mem_cons] at hp
              rcases hp with rfl | hp
              · exact ⟨t, by simp, e, hf⟩
              · obtain ⟨x, hx, e'⟩ := k1 p hp
                exact ⟨x, List.mem_cons_of_mem _ hx, e'⟩
            · intro x hx
              rcases List.mem_cons.1 hx with rfl | hx
              · exact .inr ⟨n, by simp, e.symm⟩
              · rcases k2 x hx with k | ⟨y, hy, e'⟩
                · exact .inl k
                · exact .inr ⟨y, List.mem_cons_of_mem _ hy, e'⟩
          · rintro ⟨k1, k2⟩
            constructor
            · intro p hp
              obtain ⟨x, hx, e1, e2⟩ := k1 p (by rw [List.zip_cons_cons]; exact List.mem_cons_of_mem _ hp)
              rcases List.mem_cons.1 hx with rfl | hx
              · exact absurd (e1.symm.trans e) (hs p.1 (zipn p hp))
              · exact ⟨x, hx, e1, e2⟩
            · intro x hx
              rcases k2 x (List.mem_cons_of_mem _ hx) with k | ⟨y, hy, e'⟩
              · exact .inl k
              · rcases List.mem_cons.1 hy with rfl | hy
                · exact absurd e'.symm (ht x hx)
                · exact .inr ⟨y, hy, e'⟩

/-- Values whose records' names are in order. -/
def okV : Nat → E → Prop
  | 0, _ => False
  | d + 1, v => (kindE v = 5 → ∀ x ∈ listE v, okV d x) ∧ (kindE v = 6 → (namesE v).length = (listE v).length ∧ Asc ((namesE v).map nmE) ∧ ∀ x ∈ listE v, okV d x)

theorem yesS_none {b : Bool} : yesS b = none ↔ b = true := by cases b <;> simp [yesS]

theorem fits_mono : ∀ (d : Nat) (a b v : E), okT d a → okT d b → okV d v → incS d a b = true → fitsS d b v = none → fitsS d a v = none
  | 0, _, _, _, h, _, _, _, _ => by cases h
  | d + 1, a, b, v, ha, hb, hv, hab, hf => by
    obtain ⟨a1, a2, a3, a4, a5, a6⟩ := ha
    obtain ⟨b1, b2, b3, b4, b5, b6⟩ := hb
    obtain ⟨v5, v6⟩ := hv
    unfold incS at hab
    unfold fitsS at hf ⊢
    by_cases k7 : kindE a = 7
    · rw [if_pos k7]
    rw [if_neg k7] at hab ⊢
    by_cases kb7 : kindE b = 7
    · rw [if_neg (by omega), if_pos (by omega)] at hab; cases hab
    rw [if_neg kb7] at hf
    by_cases k24 : kindE a = 2 ∧ kindE b = 4
    · rw [if_pos k24] at hab
      obtain ⟨k2, k4⟩ := k24
      rw [if_neg (by omega), if_neg (by omega), if_neg (by omega), if_pos k4] at hf
      rw [if_neg (by omega), if_pos k2]
      rw [yesS_none] at hf ⊢
      simp only [Bool.and_eq_true, decide_eq_true_eq] at hf ⊢
      obtain ⟨e1, e2⟩ := hf
      obtain ⟨s, hs, e⟩ := List.any_eq_true.1 e2
      rw [strEq_iff] at e
      have := List.all_eq_true.1 hab s hs
      simp only [Bool.and_eq_true, decide_eq_true_eq] at this
      rw [e] at this
      exact ⟨⟨e1, this.1⟩, this.2⟩
    rw [if_neg k24] at hab
    by_cases kne : kindE a ≠ kindE b
    · rw [if_pos kne] at hab; cases hab
    rw [if_neg kne] at hab
    have kab : kindE a = kindE b := by omega
    rw [← kab] at hf
    by_cases k1 : kindE a = 1
    · rw [if_pos (by omega)] at hab
      rw [if_pos k1] at hf ⊢
      rw [yesS_none] at hf ⊢
      simp only [insS, Bool.and_eq_true, decide_eq_true_eq] at hab hf ⊢
      omega
    rw [if_neg k1] at hf ⊢
    by_cases k2 : kindE a = 2
    · rw [if_pos (by omega)] at hab
      rw [if_pos k2] at hf ⊢
      rw [yesS_none] at hf ⊢
      simp only [insS, Bool.and_eq_true, decide_eq_true_eq] at hab hf ⊢
      omega
    rw [if_neg k2] at hf ⊢
    rw [if_neg (by omega)] at hab
    by_cases k3 : kindE a = 3
    · rw [if_pos k3] at hf ⊢; exact hf
    rw [if_neg k3] at hf ⊢
    by_cases k4 : kindE a = 4
    · rw [if_pos k4] at hf hab ⊢
      rw [yesS_none] at hf ⊢
      simp only [Bool.and_eq_true, decide_eq_true_eq] at hf ⊢
      refine ⟨hf.1, ?_⟩
      obtain ⟨s, hs, e⟩ := List.any_eq_true.1 hf.2
      rw [strEq_iff] at e
      have := List.all_eq_true.1 hab s hs
      rw [e] at this
      exact this
    rw [if_neg k4] at hf hab ⊢
    by_cases k5 : kindE a = 5
    · rw [if_pos k5] at hf hab ⊢
      have hA := a5 k5
      have hB := b5 (by omega)
      by_cases hc : kindE v = 5 ∧ minE b ≤ (listE v).length ∧ ((listE v).length : Int) ≤ maxE b
      · rw [if_pos hc] at hf
        simp only [insS, Bool.and_eq_true, Bool.or_eq_true, decide_eq_true_eq] at hab
        rw [if_pos (by omega)]
        rw [elemsS_none] at hf ⊢
        intro x hx
        rcases hab.2 with h0 | h1
        · have : (listE v).length = 0 := by omega
          rw [List.length_eq_zero_iff] at this
          rw [this] at hx; cases hx
        · exact fits_mono d _ _ x hA.2.2.2.2 hB.2.2.2.2 (v5 hc.1 x hx) h1 (hf x hx)
      · rw [if_neg hc] at hf; cases hf
    rw [if_neg k5] at hf hab ⊢
    by_cases k6 : kindE a = 6
    · rw [if_pos k6] at hf hab ⊢
      by_cases kv : kindE v = 6
      · rw [if_pos kv] at hf ⊢
        obtain ⟨aA, aF⟩ := a6 k6
        obtain ⟨bA, bF⟩ := b6 (by omega)
        obtain ⟨vl, vA, vF⟩ := v6 kv
        rw [membS_none bA vA vl] at hf
        rw [membS_none aA vA vl]
        obtain ⟨f1, f2⟩ := hf
        simp only [recS, Bool.and_eq_true, List.all_eq_true, Bool.or_eq_true] at hab
        constructor
        · intro p hp
          obtain ⟨t, ht, e1, e2⟩ := f1 p hp
          have h1 := hab.1 t ht
          cases hg : findF (fieldsE a) (nmE t) with
          | none => rw [hg] at h1; cases h1
          | some g =>
            rw [hg] at h1
            obtain ⟨g1, g2⟩ := findF_some hg
            exact ⟨g, g1, g2.trans e1, fits_mono d _ _ p.2 (aF g g1) (bF t ht) (vF p.2 (List.of_mem_zip hp).2) h1 e2⟩
        · intro g hg
          rcases hab.2 g hg with h1 | h1
          · exact .inl h1
          · cases hh : findF (fieldsE b) (nmE g) with
            | none => rw [hh] at h1; cases h1
            | some f =>
              rw [hh] at h1
              obtain ⟨g1, g2⟩ := findF_some hh
              rcases f2 f g1 with h2 | ⟨n, hn, e⟩
              · have h1 : (!optF f) = true := h1
                rw [h2] at h1; cases h1
              · exact .inr ⟨n, hn, e.trans g2⟩
      · rw [if_neg kv] at hf; cases hf
    rw [if_neg k6] at hf
    cases hf

end Go.Den

/- What the readers of schemas and values come to: by what is left of the text. -/
namespace Go.Den
open Go

/-- What a reader comes to: something and the rest; or an error, and the rest where it is. -/
inductive PR (α : Type) where
  | ok (x : α) (l : List UInt8)
  | err (e : Int) (l : List UInt8)

def PR.andThen {α β : Type} (x : PR α) (f : α → List UInt8 → PR β) : PR β :=
  match x with
  | .ok a l => f a l
  | .err e l => .err e l

@[simp] theorem PR.ok_then {α β : Type} (a : α) (l : List UInt8) (f : α → List UInt8 → PR β) : (PR.ok a l).andThen f = f a l := rfl
@[simp] theorem PR.err_then {α β : Type} (e : Int) (l : List UInt8) (f : α → List UInt8 → PR β) : (PR.err e l).andThen f = .err e l := rfl

/-- What is left behind a reader is the end of what was there. -/
def PR.Tail {α : Type} (x : PR α) (l : List UInt8) : Prop :=
  match x with
  | .ok _ r => r <:+ l
  | .err _ r => r <:+ l

theorem PR.tail_ok {α : Type} (a : α) (l : List UInt8) : (PR.ok a l).Tail l := List.suffix_rfl
theorem PR.Tail.then {α β : Type} {x : PR α} {f : α → List UInt8 → PR β} {l : List UInt8} (h : x.Tail l) (hf : ∀ a r, x = .ok a r → (f a r).Tail r) : (x.andThen f).Tail l := by
  cases x with
  | err e r => exact h
  | ok a r =>
    have h1 : r <:+ l := h
    have h2 := hf a r rfl
    show (f a r).Tail l
    revert h2
    cases f a r with
    | ok b q => exact fun h2 : q <:+ r => show q <:+ l from h2.trans h1
    | err e q => exact fun h2 : q <:+ r => show q <:+ l from h2.trans h1

def hd (l : List UInt8) : UInt8 := l.headD 0
def lowC (c : UInt8) : Bool := decide (97 ≤ c) && decide (c ≤ 122)
def digC (c : UInt8) : Bool := decide (48 ≤ c) && decide (c ≤ 57)
def namC (c : UInt8) : Bool := lowC c || digC c || c == 45

/-- A text that must follow. -/
def needL : List UInt8 → List UInt8 → PR Unit
  | [], l => .ok () l
  | c :: w, l => if hd l = c then needL w (l.drop 1) else .err 2 l

def decV (n : Nat) (ds : List UInt8) : Nat := ds.foldl (fun n c => 10 * n + (c.toNat - 48)) n

def numL (l : List UInt8) : PR Int :=
  let g := hd l == 45
  let l1 := if g then l.drop 1 else l
  if hd l1 = 48 then (if g then .err 2 l1 else .ok 0 (l1.drop 1))
  else if l1.takeWhile digC = [] then .err 2 l1
  else if 4611686018427387904 < decV 0 (l1.takeWhile digC) then .err 1 l
  else .ok (if g then -(decV 0 (l1.takeWhile digC) : Int) else decV 0 (l1.takeWhile digC)) (l1.dropWhile digC)

def wordL (l : List UInt8) : PR (List UInt8) :=
  if lowC (hd l) then .ok (l.takeWhile namC) (l.dropWhile namC) else .err 2 l

def pairL (l : List UInt8) : PR (Int × Int) :=
  (numL l).andThen fun a l => (needL [46, 46] l).andThen fun _ l => (numL l).andThen fun b l => .ok (a, b) l

section
variable (s t f : TypeId)

def mkT (k mn mx : Int) (os fs gs : List E) : E := .agg [.int .i64 k, .int .i64 mn, .int .i64 mx, .sl s os, .sl t fs, .sl f gs]
def mkF (n : List UInt8) (o : Bool) (x : E) : E := .agg (.str n :: .bool o :: x.cells)

def openL (k lo hi : Int) (l : List UInt8) : PR E :=
  if hd l = 32 then (pairL (l.drop 1)).andThen fun q l => .ok (mkT s t f k q.1 q.2 [] [] []) l else .ok (mkT s t f k lo hi [] [] []) l

/-- Options behind a name. -/
def optsM : Nat → List E → List UInt8 → PR (List E)
  | 0, _, l => .err 0 l
  | n + 1, acc, l => if hd l = 124 then (wordL (l.drop 1)).andThen fun x l => optsM n (acc ++ [.str x]) l else .ok acc l
/-- .. at the head of a name. -/
def optsL (n : Nat) (acc : List E) (l : List UInt8) : PR (List E) := (wordL l).andThen fun x l => optsM n (acc ++ [.str x]) l

/-- A field, behind its name. -/
def markL (l : List UInt8) : Bool := hd l == 63
def dropM (l : List UInt8) : List UInt8 := if markL l then l.drop 1 else l
/-- Fields, at the head of a name. -/
def recL (kd : List UInt8 → PR E) : Nat → List E → List UInt8 → PR (List E)
  | 0, _, l => .err 0 l
  | n + 1, acc, l => (wordL l).andThen fun x l1 => (needL [58, 32] (dropM l1)).andThen fun _ l2 => (kd l2).andThen fun y l3 =>
      if hd l3 = 44 then (needL [32] (l3.drop 1)).andThen fun _ l4 => recL kd n (acc ++ [mkF x (markL l1) y]) l4
      else (needL [125] l3).andThen fun _ l4 => .ok (acc ++ [mkF x (markL l1) y]) l4

/-- A schema of at most so many levels. -/
def kindL : Nat → List UInt8 → PR E
  | 0, l => .err 27 l
  | d + 1, l =>
    if hd l = 105 then (needL [105, 110, 116] l).andThen fun _ l => openL s t f 1 (-4611686018427387904) 4611686018427387904 l
    else if hd l = 116 then (needL [116, 101, 120, 116] l).andThen fun _ l => openL s t f 2 0 256 l
    else if hd l = 98 then (needL [98, 111, 111, 108] l).andThen fun _ l => .ok (mkT s t f 3 0 0 [] [] []) l
    else if hd l = 97 then (needL [97, 110, 121] l).andThen fun _ l => .ok (mkT s t f 7 0 0 [] [] []) l
    else if hd l = 101 then (needL [101, 110, 117, 109, 40] l).andThen fun _ l => (optsL l.length.succ [] l).andThen fun os l => (needL [41] l).andThen fun _ l => .ok (mkT s t f 4 0 0 os [] []) l
    else if hd l = 108 then (needL [108, 105, 115, 116, 32] l).andThen fun _ l => (pairL l).andThen fun q l => (needL [32, 111, 102, 32] l).andThen fun _ l => (kindL d l).andThen fun x l => .ok (mkT s t f 5 q.1 q.2 [] [x] []) l
    else if hd l = 123 then
      (if hd (l.drop 1) = 125 then .ok (mkT s t f 6 0 0 [] [] []) ((l.drop 1).drop 1)
       else (recL (kindL d) (l.drop 1).length.succ [] (l.drop 1)).andThen fun fs l => .ok (mkT s t f 6 0 0 [] [] fs) l)
    else .err 2 l

/-! ### Values; their own types: names s, values t -/

def mkV (k n : Int) (x : List UInt8) (ns vs : List E) : E := .agg [.int .i64 k, .int .i64 n, .str x, .sl s ns, .sl t vs]
end

def hexV (c : UInt8) : Option Nat :=
  if 48 ≤ c ∧ c ≤ 57 then some (c.toNat - 48) else if 97 ≤ c ∧ c ≤ 102 then some (c.toNat - 87) else none
def hexL (l : List UInt8) : PR Nat := match hexV (hd l) with | some v => .ok v (l.drop 1) | none => .err 2 l

/-- A text in quotes, behind the first one. -/
def quotL : Nat → List UInt8 → List UInt8 → PR (List UInt8)
  | 0, _, l => .err 0 l
  | n + 1, acc, l =>
    if hd l = 34 then .ok acc (l.drop 1)
    else if hd l < 32 ∨ 126 < hd l then .err 2 l
    else if hd l ≠ 92 then quotL n (acc ++ [hd l]) (l.drop 1)
    else if hd (l.drop 1) = 34 ∨ hd (l.drop 1) = 92 then quotL n (acc ++ [hd (l.drop 1)]) ((l.drop 1).drop 1)
    else if hd (l.drop 1) = 120 then
      (hexL ((l.drop 1).drop 1)).andThen fun a l2 => (hexL l2).andThen fun b l3 =>
        if 32 ≤ 16 * a + b ∧ 16 * a + b ≤ 126 then .err 2 l else quotL n (acc ++ [UInt8.ofNat (16 * a + b)]) l3
    else .err 2 (l.drop 1)

/-- Elements, at the head of one. -/
def elsL (vd : List UInt8 → PR E) : Nat → List E → List UInt8 → PR (List E)
  | 0, _, l => .err 0 l
  | n + 1, acc, l => (vd l).andThen fun y l1 => if hd l1 = 44 then elsL vd n (acc ++ [y]) (l1.drop 1) else (needL [93] l1).andThen fun _ l2 => .ok (acc ++ [y]) l2

/-- Is a name not behind the last one of some? -/
def lateB (ns : List E) (x : List UInt8) : Bool := decide (0 < ns.length) && (Op.bytesLess x (nmE (ns.getD (ns.length - 1) .nili)) || strEq x (nmE (ns.getD (ns.length - 1) .nili)))

/-- Entries, at the head of a name. -/
def entL (vd : List UInt8 → PR E) : Nat → List E → List E → List UInt8 → PR (List E × List E)
  | 0, _, _, l => .err 0 l
  | n + 1, ns, vs, l => (wordL l).andThen fun x l1 =>
      if 16 < x.length then .err 11 l
      else if lateB ns x then .err 22 l
      else (needL [58] l1).andThen fun _ l2 => (vd l2).andThen fun y l3 =>
        if hd l3 = 44 then entL vd n (ns ++ [.str x]) (vs ++ [y]) (l3.drop 1)
        else (needL [125] l3).andThen fun _ l4 => .ok (ns ++ [.str x], vs ++ [y]) l4

section
variable (s t : TypeId)
/-- A value of at most so many levels. -/
def valL : Nat → List UInt8 → PR E
  | 0, l => .err 27 l
  | d + 1, l =>
    if hd l = 45 ∨ digC (hd l) = true then (numL l).andThen fun n l => .ok (mkV s t 1 n [] [] []) l
    else if hd l = 102 then (needL [102, 97, 108, 115, 101] l).andThen fun _ l => .ok (mkV s t 3 0 [] [] []) l
    else if hd l = 116 then (needL [116, 114, 117, 101] l).andThen fun _ l => .ok (mkV s t 3 1 [] [] []) l
    else if hd l = 34 then (quotL (l.drop 1).length.succ [] (l.drop 1)).andThen fun x l => .ok (mkV s t 2 0 x [] []) l
    else if hd l = 91 then
      (if hd (l.drop 1) = 93 then .ok (mkV s t 5 0 [] [] []) ((l.drop 1).drop 1)
       else (elsL (valL d) (l.drop 1).length.succ [] (l.drop 1)).andThen fun vs l => .ok (mkV s t 5 0 [] [] vs) l)
    else if hd l = 123 then
      (if hd (l.drop 1) = 125 then .ok (mkV s t 6 0 [] [] []) ((l.drop 1).drop 1)
       else (entL (valL d) (l.drop 1).length.succ [] [] (l.drop 1)).andThen fun q l => .ok (mkV s t 6 0 [] q.1 q.2) l)
    else .err 2 l
end

/-! ### What is left is the end -/

theorem needL_tail : ∀ (w l : List UInt8), (needL w l).Tail l
  | [], l => List.suffix_rfl
  | c :: w, l => by
    unfold needL
    split
    · have := needL_tail w (l.drop 1)
      revert this
      cases needL w (l.drop 1) with
      | ok _ r => exact fun h : r <:+ l.drop 1 => show r <:+ l from h.trans (List.drop_suffix 1 l)
      | err _ r => exact fun h : r <:+ l.drop 1 => show r <:+ l from h.trans (List.drop_suffix 1 l)
    · exact List.suffix_rfl
theorem numL_tail (l : List UInt8) : (numL l).Tail l := by
  have h1 : (if (hd l == 45) = true then l.drop 1 else l) <:+ l := by split; exact List.drop_suffix 1 l; exact List.suffix_rfl
  unfold numL
  dsimp only
  generalize (if (hd l == 45) = true then l.drop 1 else l) = l1 at h1
  split
  · split
    · exact h1
    · exact (List.drop_suffix 1 l1).trans h1
  · split
    · exact h1
    · split
      · exact List.suffix_rfl
      · exact (List.dropWhile_suffix digC).trans h1
theorem wordL_tail (l : List UInt8) : (wordL l).Tail l := by
  unfold wordL
  split
  · exact List.dropWhile_suffix namC
  · exact List.suffix_rfl
theorem PR.Tail.mono {α : Type} {x : PR α} {l l' : List UInt8} (h : x.Tail l') (hl : l' <:+ l) : x.Tail l := by
  cases x with
  | ok a r => exact (show r <:+ l' from h).trans hl
  | err a r => exact (show r <:+ l' from h).trans hl
theorem drop_tail (l : List UInt8) : l.drop 1 <:+ l := List.drop_suffix 1 l
theorem pairL_tail (l : List UInt8) : (pairL l).Tail l :=
  (numL_tail l).then fun _ r _ => (needL_tail _ r).then fun _ r _ => (numL_tail r).then fun _ _ _ => PR.tail_ok _ _
theorem optsM_tail : ∀ (n : Nat) (acc : List E) (l : List UInt8), (optsM n acc l).Tail l
  | 0, _, _ => List.suffix_rfl
  | n + 1, acc, l => by
    unfold optsM
    split
    · exact ((wordL_tail _).then fun x r _ => optsM_tail n _ r).mono (drop_tail l)
    · exact List.suffix_rfl
theorem optsL_tail (n : Nat) (acc : List E) (l : List UInt8) : (optsL n acc l).Tail l := (wordL_tail l).then fun x r _ => optsM_tail n _ r
theorem dropM_tail (l : List UInt8) : dropM l <:+ l := by
  unfold dropM; split
  · exact drop_tail l
  · exact List.suffix_rfl
theorem recL_tail {kd : List UInt8 → PR E} (hk : ∀ l, (kd l).Tail l) : ∀ (n : Nat) (acc : List E) (l : List UInt8), (recL kd n acc l).Tail l
  | 0, _, _ => List.suffix_rfl
  | n + 1, acc, l => by
    unfold recL
    refine (wordL_tail l).then fun x r _ => ((needL_tail _ (dropM r)).then fun _ r2 _ => (hk r2).then fun y r3 _ => ?_).mono (dropM_tail r)
    split
    · exact ((needL_tail _ _).then fun _ r4 _ => recL_tail hk n _ r4).mono (drop_tail r3)
    · exact (needL_tail _ r3).then fun _ _ _ => PR.tail_ok _ _
theorem openL_tail (s t f : TypeId) (k lo hi : Int) (l : List UInt8) : (openL s t f k lo hi l).Tail l := by
  unfold openL
  split
  · exact ((pairL_tail _).then fun _ _ _ => PR.tail_ok _ _).mono (drop_tail l)
  · exact List.suffix_rfl
theorem kindL_tail (s t f : TypeId) : ∀ (d : Nat) (l : List UInt8), (kindL s t f d l).Tail l
  | 0, _ => List.suffix_rfl
  | d + 1, l => by
    unfold kindL
    split
    · exact (needL_tail _ l).then fun _ r _ => openL_tail ..
    split
    · exact (needL_tail _ l).then fun _ r _ => openL_tail ..
    split
    · exact (needL_tail _ l).then fun _ r _ => PR.tail_ok _ _
    split
    · exact (needL_tail _ l).then fun _ r _ => PR.tail_ok _ _
    split
    · exact (needL_tail _ l).then fun _ r _ => (optsL_tail ..).then fun _ r _ => (needL_tail _ r).then fun _ _ _ => PR.tail_ok _ _
    split
    · exact (needL_tail _ l).then fun _ r _ => (pairL_tail r).then fun _ r _ => (needL_tail _ r).then fun _ r _ => (kindL_tail s t f d r).then fun _ _ _ => PR.tail_ok _ _
    split
    · split
      · exact (drop_tail _).trans (drop_tail l)
      · exact ((recL_tail (kindL_tail s t f d) _ _ _).then fun _ _ _ => PR.tail_ok _ _).mono (drop_tail l)
    · exact List.suffix_rfl
theorem hexL_tail (l : List UInt8) : (hexL l).Tail l := by
  unfold hexL
  split
  · exact drop_tail l
  · exact List.suffix_rfl
theorem quotL_tail : ∀ (n : Nat) (acc l : List UInt8), (quotL n acc l).Tail l
  | 0, _, _ => List.suffix_rfl
  | n + 1, acc, l => by
    unfold quotL
    split
    · exact drop_tail l
    split
    · exact List.suffix_rfl
    split
    · exact (quotL_tail n _ _).mono (drop_tail l)
    split
    · exact (quotL_tail n _ _).mono ((drop_tail _).trans (drop_tail l))
    split
    · cases h1 : hexL ((l.drop 1).drop 1) with
      | err e r =>
        have := hexL_tail ((l.drop 1).drop 1)
        rw [h1] at this
        exact (show r <:+ _ from this).trans ((drop_tail _).trans (drop_tail l))
      | ok a r =>
        have t1 := hexL_tail ((l.drop 1).drop 1)
        rw [h1] at t1
        have t1 : r <:+ l := (show r <:+ _ from t1).trans ((drop_tail _).trans (drop_tail l))
        rw [PR.ok_then]
        cases h2 : hexL r with
        | err e r2 =>
          have := hexL_tail r
          rw [h2] at this
          exact (show r2 <:+ _ from this).trans t1
        | ok b r2 =>
          have t2 := hexL_tail r
          rw [h2] at t2
          have t2 : r2 <:+ l := (show r2 <:+ _ from t2).trans t1
          rw [PR.ok_then]
          split
          · exact List.suffix_rfl
          · exact (quotL_tail n _ r2).mono t2
    · exact drop_tail l
theorem elsL_tail {vd : List UInt8 → PR E} (hk : ∀ l, (vd l).Tail l) : ∀ (n : Nat) (acc : List E) (l : List UInt8), (elsL vd n acc l).Tail l
  | 0, _, _ => List.suffix_rfl
  | n + 1, acc, l => by
    unfold elsL
    refine (hk l).then fun y r _ => ?_
    split
    · exact (elsL_tail hk n _ _).mono (drop_tail r)
    · exact (needL_tail _ r).then fun _ _ _ => PR.tail_ok _ _
theorem entL_tail {vd : List UInt8 → PR E} (hk : ∀ l, (vd l).Tail l) : ∀ (n : Nat) (ns vs : List E) (l : List UInt8), (entL vd n ns vs l).Tail l
  | 0, _, _, _ => List.suffix_rfl
  | n + 1, ns, vs, l => by
    have hw := wordL_tail l
    unfold entL
    cases h : wordL l with
    | err e r => rw [h] at hw; exact hw
    | ok x r =>
      rw [h] at hw
      have hw : r <:+ l := hw
      rw [PR.ok_then]
      split
      · exact List.suffix_rfl
      split
      · exact List.suffix_rfl
      refine ((needL_tail _ r).then fun _ r2 _ => (hk r2).then fun y r3 _ => ?_).mono hw
      split
      · exact (entL_tail hk n _ _ _).mono (drop_tail r3)
      · exact (needL_tail _ r3).then fun _ _ _ => PR.tail_ok _ _
theorem valL_tail (s t : TypeId) : ∀ (d : Nat) (l : List UInt8), (valL s t d l).Tail l
  | 0, _ => List.suffix_rfl
  | d + 1, l => by
    unfold valL
    split
    · exact (numL_tail l).then fun _ _ _ => PR.tail_ok _ _
    split
    · exact (needL_tail _ l).then fun _ r _ => PR.tail_ok _ _
    split
    · exact (needL_tail _ l).then fun _ r _ => PR.tail_ok _ _
    split
    · exact ((quotL_tail _ _ _).then fun _ _ _ => PR.tail_ok _ _).mono (drop_tail l)
    split
    · split
      · exact (drop_tail _).trans (drop_tail l)
      · exact ((elsL_tail (valL_tail s t d) _ _ _).then fun _ _ _ => PR.tail_ok _ _).mono (drop_tail l)
    split
    · split
      · exact (drop_tail _).trans (drop_tail l)
      · exact ((entL_tail (valL_tail s t d) _ _ _ _).then fun _ _ _ => PR.tail_ok _ _).mono (drop_tail l)
    · exact List.suffix_rfl
theorem hd_drop {l : List UInt8} {c : UInt8} (h : hd l = c) (hc : c ≠ 0) : l = c :: l.drop 1 := by
  cases l with
  | nil => exact absurd h.symm hc
  | cons x l => unfold hd at h; simp at h; simp [h]
theorem wordL_less {l l1 x : List UInt8} (h : wordL l = .ok x l1) : l1.length < l.length ∧ l = x ++ l1 ∧ x ≠ [] := by
  unfold wordL at h
  split at h
  · rename_i hc
    injection h with h1 h2
    cases l with
    | nil => exact absurd hc (by decide)
    | cons c l =>
      have hn : namC c = true := by simp [namC, show lowC c = true from hc]
      have e := List.takeWhile_append_dropWhile (p := namC) (l := c :: l)
      rw [h1, h2] at e
      have hx : x ≠ [] := by rw [← h1, List.takeWhile_cons, hn]; simp
      refine ⟨?_, e.symm, hx⟩
      rw [← e, List.length_append]
      have := List.length_pos_iff.2 hx
      omega
  · cases h

end Go.Den

/- What is written is read again: schemas. -/
namespace Go.Den
open Go

/-! ### Numbers -/

theorem takeWhile_app {p : UInt8 → Bool} : ∀ {ds r : List UInt8}, (∀ c ∈ ds, p c = true) → p (hd r) = false → (ds ++ r).takeWhile p = ds ∧ (ds ++ r).dropWhile p = r
  | [], [], _, _ => ⟨rfl, rfl⟩
  | [], c :: r, _, h => by
    have h : p c = false := h
    simp [h]
  | c :: ds, r, h, h' => by
    have hc := h c (by simp)
    obtain ⟨h1, h2⟩ := takeWhile_app (ds := ds) (r := r) (fun x hx => h x (by simp [hx])) h'
    simp [hc, h1, h2]

theorem decDigits_dig : ∀ (u : Nat), ∀ c ∈ Lib.decDigits u, digC c = true := by
  intro u
  induction u using Nat.strongRecOn with
  | _ u ih =>
    intro c hc
    have hd' : ∀ k, k < 10 → digC (UInt8.ofNat (48 + k)) = true := by decide
    rw [Lib.decDigits] at hc
    split at hc
    · rename_i h
      rw [List.mem_singleton] at hc; subst hc; exact hd' u h
    · rcases List.mem_append.1 hc with hc | hc
      · exact ih (u / 10) (by omega) c hc
      · rw [List.mem_singleton] at hc; subst hc; exact hd' (u % 10) (by omega)
theorem decV_append (n : Nat) (a b : List UInt8) : decV n (a ++ b) = decV (decV n a) b := by simp [decV]
theorem digit_val : ∀ k, k < 10 → (UInt8.ofNat (48 + k)).toNat - 48 = k := by decide
theorem decV_digits (u : Nat) : decV 0 (Lib.decDigits u) = u := by
  induction u using Nat.strongRecOn with
  | _ u ih =>
    rw [Lib.decDigits]
    split
    · rename_i h
      simp [decV]
      have := digit_val u h
      omega
    · rw [decV_append, ih (u / 10) (by omega)]
      have := digit_val (u % 10) (by omega)
      simp only [decV, List.foldl_cons, List.foldl_nil, this]
      omega
theorem decDigits_ne (u : Nat) : Lib.decDigits u ≠ [] := by
  rw [Lib.decDigits]
  split <;> simp
theorem hd_append {a b : List UInt8} (h : a ≠ []) : hd (a ++ b) = hd a := by
  cases a with
  | nil => exact absurd rfl h
  | cons x a => rfl
theorem decDigits_head (u : Nat) (h : u ≠ 0) : hd (Lib.decDigits u) ≠ 48 := by
  induction u using Nat.strongRecOn with
  | _ u ih =>
    rw [Lib.decDigits]
    split
    · rename_i h'
      have : ∀ k, k < 10 → k ≠ 0 → hd [UInt8.ofNat (48 + k)] ≠ 48 := by decide
      exact this u h' h
    · rw [hd_append (decDigits_ne _)]
      exact ih (u / 10) (by omega) (by omega)
theorem digC_45 {c : UInt8} (h : digC c = true) : (c == 45) = false := by
  rw [beq_eq_false_iff_ne]
  rintro rfl
  revert h; decide
theorem hd_mem {l : List UInt8} (h : l ≠ []) : hd l ∈ l := by
  cases l with
  | nil => exact absurd rfl h
  | cons c l => simp [hd]

theorem numL_digits {u : Nat} {r : List UInt8} (hr : digC (hd r) = false) (hu : u ≠ 0) :
    hd (Lib.decDigits u ++ r) ≠ 48 ∧ (Lib.decDigits u ++ r).takeWhile digC = Lib.decDigits u ∧ (Lib.decDigits u ++ r).dropWhile digC = r := by
  refine ⟨?_, takeWhile_app (decDigits_dig u) hr⟩
  rw [hd_append (decDigits_ne u)]
  exact decDigits_head u hu

theorem numL_itoa {n : Int} {r : List UInt8} (h0 : -4611686018427387904 ≤ n) (h1 : n ≤ 4611686018427387904) (hr : digC (hd r) = false) : numL (Lib.itoa n ++ r) = .ok n r := by
  unfold Lib.itoa
  by_cases hn : n < 0
  · rw [if_pos hn]
    obtain ⟨k1, k2, k3⟩ := numL_digits (u := n.natAbs) hr (by omega)
    unfold numL
    simp only [List.cons_append, hd, List.headD_cons, beq_self_eq_true, if_true, List.drop_one, List.tail_cons]
    rw [if_neg (show ¬ (Lib.decDigits n.natAbs ++ r).headD 0 = 48 from k1), k2, k3, if_neg (decDigits_ne _), decV_digits, if_neg (by omega)]
    congr 1
    omega
  · rw [if_neg hn]
    by_cases hz : n = 0
    · subst hz
      have e : Lib.decDigits (Int.toNat 0) = [48] := by rw [Lib.decDigits]; rfl
      rw [e]
      rfl
    · obtain ⟨k1, k2, k3⟩ := numL_digits (u := n.toNat) hr (by omega)
      have hg : (hd (Lib.decDigits n.toNat ++ r) == 45) = false := by
        rw [hd_append (decDigits_ne _)]
        exact digC_45 (decDigits_dig _ _ (hd_mem (decDigits_ne _)))
      unfold numL
      simp only [hg, Bool.false_eq_true, if_false]
      rw [if_neg k1, k2, k3, if_neg (decDigits_ne _), decV_digits, if_neg (by omega)]
      congr 1
      omega

/-- What a reader of numbers takes is the number's text. -/
theorem digit_back {c : UInt8} (h : digC c = true) : UInt8.ofNat (48 + (c.toNat - 48)) = c ∧ c.toNat - 48 < 10 ∧ (c ≠ 48 → c.toNat - 48 ≠ 0) := by
  simp only [digC, Bool.and_eq_true, decide_eq_true_eq] at h
  have h1 : 48 ≤ c.toNat := by have := UInt8.le_iff_toNat_le.1 h.1; simpa using this
  have h2 : c.toNat ≤ 57 := by have := UInt8.le_iff_toNat_le.1 h.2; simpa using this
  refine ⟨?_, by omega, fun hc h0 => hc ?_⟩
  · rw [show 48 + (c.toNat - 48) = c.toNat by omega]
    exact UInt8.ofNat_toNat
  · have : c.toNat = 48 := by omega
    exact UInt8.toNat_inj.1 this
theorem decDigits_back : ∀ (n : Nat) (ds : List UInt8), ds.length = n → ds ≠ [] → (∀ c ∈ ds, digC c = true) → hd ds ≠ 48 → Lib.decDigits (decV 0 ds) = ds ∧ decV 0 ds ≠ 0
  | 0, ds, hl, hne, _, _ => absurd (List.length_eq_zero_iff.1 hl) hne
  | n + 1, ds, hl, hne, hall, hh => by
    obtain ⟨as, c, rfl⟩ : ∃ as c, ds = as ++ [c] := ⟨ds.dropLast, ds.getLast hne, (List.dropLast_concat_getLast hne).symm⟩
    obtain ⟨c1, c2, c3⟩ := digit_back (hall c (by simp))
    rw [decV_append]
    cases as with
    | nil =>
      have e : decV (decV 0 []) [c] = c.toNat - 48 := by simp [decV]
      rw [e, Lib.decDigits, dif_pos c2, List.nil_append, c1]
      exact ⟨rfl, c3 hh⟩
    | cons a as =>
      have hl' : (a :: as).length = n := by simpa using hl
      obtain ⟨k1, k2⟩ := decDigits_back n (a :: as) hl' (by simp) (fun x hx => hall x (by simp at hx ⊢; rcases hx with h | h <;> simp [h])) hh
      have e : ∀ v, decV v [c] = 10 * v + (c.toNat - 48) := fun v => by simp [decV]
      rw [e]
      generalize decV 0 (a :: as) = v at k1 k2
      rw [Lib.decDigits, dif_neg (by omega), show (10 * v + (c.toNat - 48)) / 10 = v by omega, show (10 * v + (c.toNat - 48)) % 10 = c.toNat - 48 by omega, k1, c1]
      exact ⟨rfl, by omega⟩
theorem takeWhile_all {p : UInt8 → Bool} : ∀ (l : List UInt8), ∀ c ∈ l.takeWhile p, p c = true
  | [], c, h => by simp at h
  | x :: l, c, h => by
    rw [List.takeWhile_cons] at h
    split at h
    · rename_i hx
      rcases List.mem_cons.1 h with rfl | h
      · exact hx
      · exact takeWhile_all l c h
    · cases h
theorem hd_takeWhile {p : UInt8 → Bool} {l : List UInt8} (h : l.takeWhile p ≠ []) : hd (l.takeWhile p) = hd l := by
  cases l with
  | nil => exact absurd rfl h
  | cons x l =>
    rw [List.takeWhile_cons] at h ⊢
    split
    · rfl
    · rename_i hx
      rw [if_neg hx] at h
      exact absurd rfl h

theorem numL_back {l r : List UInt8} {n : Int} (h : numL l = .ok n r) : l = Lib.itoa n ++ r ∧ -4611686018427387904 ≤ n ∧ n ≤ 4611686018427387904 := by
  unfold numL at h
  dsimp only at h
  by_cases hg : (hd l == 45) = true
  · rw [if_pos hg] at h
    have hl : l = 45 :: l.drop 1 := hd_drop (by simpa using hg) (by decide)
    generalize l.drop 1 = l1 at h hl
    split at h
    · cases h
    · rename_i h48
      split at h
      · cases h
      · rename_i hne
        split at h
        · cases h
        · rename_i hbig
          injection h with e1 e2
          have hh : hd (l1.takeWhile digC) ≠ 48 := by rw [hd_takeWhile hne]; exact h48
          obtain ⟨k1, k2⟩ := decDigits_back _ _ rfl hne (takeWhile_all l1) hh
          have e := List.takeWhile_append_dropWhile (p := digC) (l := l1)
          generalize decV 0 (l1.takeWhile digC) = v at *
          rw [e2] at e
          subst e1
          refine ⟨?_, by omega, by omega⟩
          unfold Lib.itoa
          rw [if_pos (by omega), hl, show (-(v : Int)).natAbs = v by omega, k1, List.cons_append, e]
  · rw [if_neg hg] at h
    split at h
    · rename_i h48
      injection h with e1 e2
      subst e1
      refine ⟨?_, by omega, by omega⟩
      have e : Lib.itoa 0 = [48] := by unfold Lib.itoa; rw [if_neg (by omega), Lib.decDigits]; rfl
      rw [e, ← e2]
      exact hd_drop h48 (by decide)
    · rename_i h48
      split at h
      · cases h
      · rename_i hne
        split at h
        · cases h
        · rename_i hbig
          injection h with e1 e2
          have hh : hd (l.takeWhile digC) ≠ 48 := by rw [hd_takeWhile hne]; exact h48
          obtain ⟨k1, k2⟩ := decDigits_back _ _ rfl hne (takeWhile_all l) hh
          have e := List.takeWhile_append_dropWhile (p := digC) (l := l)
          generalize decV 0 (l.takeWhile digC) = v at *
          rw [e2] at e
          subst e1
          refine ⟨?_, by omega, by omega⟩
          unfold Lib.itoa
          rw [if_neg (by omega), show (v : Int).toNat = v by omega, k1, e]

/-! ### Names -/

/-- What topic.Name says of a name, as far as it matters here. -/
def NameOk (x : List UInt8) : Prop := lowC (hd x) = true ∧ ∀ c ∈ x, namC c = true
theorem wordL_name {x r : List UInt8} (h : NameOk x) (hr : namC (hd r) = false) : wordL (x ++ r) = .ok x r := by
  have hx : x ≠ [] := by rintro rfl; exact absurd h.1 (by decide)
  obtain ⟨h1, h2⟩ := takeWhile_app h.2 hr
  unfold wordL
  rw [hd_append hx, if_pos h.1, h1, h2]
theorem hd_dropWhile : ∀ l : List UInt8, namC (hd (l.dropWhile namC)) = false
  | [] => by decide
  | y :: l => by
    rw [List.dropWhile_cons]
    split
    · exact hd_dropWhile l
    · rename_i hy; simpa [hd] using hy
theorem wordL_ok {l x r : List UInt8} (h : wordL l = .ok x r) : NameOk x ∧ l = x ++ r ∧ namC (hd r) = false := by
  obtain ⟨_, h2, h3⟩ := wordL_less h
  unfold wordL at h
  split at h
  · rename_i hc
    injection h with e1 e2
    refine ⟨⟨?_, ?_⟩, h2, ?_⟩
    · rw [h2, hd_append h3] at hc; exact hc
    · rw [← e1]; exact takeWhile_all l
    · rw [← e2]
      exact hd_dropWhile l
  · cases h

theorem needL_app : ∀ (w r : List UInt8), needL w (w ++ r) = .ok () r
  | [], r => rfl
  | c :: w, r => by
    unfold needL
    show (if c = c then needL w (w ++ r) else _) = _
    rw [if_pos rfl]
    exact needL_app w r
theorem needL_ok : ∀ {w l r : List UInt8}, (∀ c ∈ w, c ≠ 0) → needL w l = .ok () r → l = w ++ r
  | [], l, r, _, h => by injection h
  | c :: w, l, r, hw, h => by
    unfold needL at h
    split at h
    · rename_i hc
      have e := needL_ok (fun x hx => hw x (by simp [hx])) h
      rw [hd_drop hc (hw c (by simp)), e]; rfl
    · cases h

/-! ### Schemas -/

section
variable (s t f : TypeId)

def bndS (x : E) : List UInt8 := Lib.itoa (minE x) ++ [46, 46] ++ Lib.itoa (maxE x)
def fldS (tx : E → List UInt8) (g : E) : List UInt8 := nmE g ++ (if optF g = true then [63] else []) ++ [58, 32] ++ tx (fieldTy g)
/-- The text of a schema. -/
def textS : Nat → E → List UInt8
  | 0, _ => []
  | d + 1, x =>
    if kindE x = 1 then (if minE x = -4611686018427387904 ∧ maxE x = 4611686018427387904 then [105, 110, 116] else [105, 110, 116, 32] ++ bndS x)
    else if kindE x = 2 then (if minE x = 0 ∧ maxE x = 256 then [116, 101, 120, 116] else [116, 101, 120, 116, 32] ++ bndS x)
    else if kindE x = 3 then [98, 111, 111, 108]
    else if kindE x = 4 then [101, 110, 117, 109, 40] ++ Lib.join ((optsE x).map nmE) [124] ++ [41]
    else if kindE x = 5 then [108, 105, 115, 116, 32] ++ bndS x ++ [32, 111, 102, 32] ++ textS d (ofOne x)
    else if kindE x = 6 then [123] ++ Lib.join ((fieldsE x).map (fldS (textS d))) [44, 32] ++ [125]
    else [97, 110, 121]

/-- Schemas that are right, whole. -/
def Ful : Nat → E → Prop
  | 0, _ => False
  | d + 1, x =>
    (∃ mn mx, x = mkT s t f 1 mn mx [] [] [] ∧ -4611686018427387904 ≤ mn ∧ mn ≤ mx ∧ mx ≤ 4611686018427387904) ∨
    (∃ mn mx, x = mkT s t f 2 mn mx [] [] [] ∧ 0 ≤ mn ∧ mn ≤ mx ∧ mx ≤ 256) ∨
    x = mkT s t f 3 0 0 [] [] [] ∨
    (∃ os, x = mkT s t f 4 0 0 os [] [] ∧ os ≠ [] ∧ os.length ≤ 16 ∧ Asc (os.map nmE) ∧ ∀ o ∈ os, ∃ n, o = .str n ∧ NameOk n ∧ n.length ≤ 16) ∨
    (∃ mn mx y, x = mkT s t f 5 mn mx [] [y] [] ∧ 0 ≤ mn ∧ mn ≤ mx ∧ mx ≤ 32 ∧ Ful d y) ∨
    (∃ gs, x = mkT s t f 6 0 0 [] [] gs ∧ gs.length ≤ 16 ∧ Asc (gs.map nmE) ∧ ∀ g ∈ gs, ∃ n o y, g = mkF n o y ∧ NameOk n ∧ n.length ≤ 16 ∧ Ful d y) ∨
    x = mkT s t f 7 0 0 [] [] []
variable {s t f}

theorem Ful.agg {d : Nat} {x : E} (h : Ful s t f d x) : ∃ cs, x = .agg cs := by
  cases d with
  | zero => cases h
  | succ d => rcases h with ⟨_, _, rfl, _⟩ | ⟨_, _, rfl, _⟩ | rfl | ⟨_, rfl, _⟩ | ⟨_, _, _, rfl, _⟩ | ⟨_, rfl, _⟩ | rfl <;> exact ⟨_, rfl⟩
theorem fieldTy_mkF {n : List UInt8} {o : Bool} {cs : List E} : fieldTy (mkF n o (.agg cs)) = .agg cs := rfl
theorem Ful.fieldTy {d : Nat} {n : List UInt8} {o : Bool} {x : E} (h : Ful s t f d x) : fieldTy (mkF n o x) = x := by
  obtain ⟨cs, rfl⟩ := h.agg; rfl

theorem kind_mkT {k mn mx : Int} {os fs gs : List E} : kindE (mkT s t f k mn mx os fs gs) = k := rfl
theorem min_mkT {k mn mx : Int} {os fs gs : List E} : minE (mkT s t f k mn mx os fs gs) = mn := rfl
theorem max_mkT {k mn mx : Int} {os fs gs : List E} : maxE (mkT s t f k mn mx os fs gs) = mx := rfl
theorem Ful.okT : ∀ {d : Nat} {x : E}, Ful s t f d x → okT d x
  | 0, _, h => h
  | d + 1, x, h => by
    have no : ∀ {p : Prop} {a b : Int}, a ≠ b → (a = b → p) := fun h e => absurd e h
    rcases h with ⟨mn, mx, rfl, h1, h2, h3⟩ | ⟨mn, mx, rfl, h1, h2, h3⟩ | rfl | ⟨os, rfl, h⟩ | ⟨mn, mx, y, rfl, h1, h2, h3, h4⟩ | ⟨gs, rfl, h1, h2, h3⟩ | rfl <;> unfold Den.okT <;> simp only [kind_mkT, min_mkT, max_mkT]
    · exact ⟨by omega, by omega, fun _ => h2, no (by omega), no (by omega), no (by omega)⟩
    · exact ⟨by omega, by omega, no (by omega), fun _ => ⟨h1, h2, h3⟩, no (by omega), no (by omega)⟩
    · exact ⟨by omega, by omega, no (by omega), no (by omega), no (by omega), no (by omega)⟩
    · exact ⟨by omega, by omega, no (by omega), no (by omega), no (by omega), no (by omega)⟩
    · exact ⟨by omega, by omega, no (by omega), no (by omega), fun _ => ⟨h1, h2, h3, rfl, h4.okT⟩, no (by omega)⟩
    · refine ⟨by omega, by omega, no (by omega), no (by omega), no (by omega), fun _ => ⟨h2, fun g hg => ?_⟩⟩
      obtain ⟨n, o, y, rfl, _, _, hy⟩ := h3 g hg
      rw [hy.fieldTy]
      exact hy.okT
    · exact ⟨by omega, by omega, no (by omega), no (by omega), no (by omega), no (by omega)⟩

/-- What may stand behind a schema's text. -/
def Sep (r : List UInt8) : Prop := r = [] ∨ hd r = 44 ∨ hd r = 125
theorem Sep.dig {r : List UInt8} (h : Sep r) : digC (hd r) = false ∧ hd r ≠ 32 := by
  rcases h with rfl | h | h
  · decide
  · rw [h]; decide
  · rw [h]; decide

theorem pairL_bnd {a b : Int} {r : List UInt8} (ha : -4611686018427387904 ≤ a ∧ a ≤ 4611686018427387904) (hb : -4611686018427387904 ≤ b ∧ b ≤ 4611686018427387904) (hr : digC (hd r) = false) :
    pairL (Lib.itoa a ++ [46, 46] ++ Lib.itoa b ++ r) = .ok (a, b) r := by
  unfold pairL
  rw [List.append_assoc, List.append_assoc, numL_itoa ha.1 ha.2 (by rfl), PR.ok_then, needL_app, PR.ok_then, numL_itoa hb.1 hb.2 hr, PR.ok_then]

theorem optsM_join : ∀ (ns : List (List UInt8)) (n : Nat) (acc : List E) (r : List UInt8), (∀ x ∈ ns, NameOk x) → hd r ≠ 124 → namC (hd r) = false → (Lib.joinTail [124] ns ++ r).length < n →
    optsM n acc (Lib.joinTail [124] ns ++ r) = .ok (acc ++ ns.map E.str) r
  | _, 0, _, _, _, _, _, h => by omega
  | [], n + 1, acc, r, _, hr, _, _ => by
    show optsM (n + 1) acc r = _
    unfold optsM
    rw [if_neg hr]; simp
  | x :: ns, n + 1, acc, r, hn, hr, hr', hl => by
    have e : Lib.joinTail [124] (x :: ns) ++ r = 124 :: (x ++ (Lib.joinTail [124] ns ++ r)) := by simp [Lib.joinTail]
    rw [e] at hl ⊢
    unfold optsM
    rw [if_pos (by rfl)]
    have hs : namC (hd (Lib.joinTail [124] ns ++ r)) = false := by
      cases ns with
      | nil => exact hr'
      | cons y ns => rfl
    rw [List.drop_one, List.tail_cons, wordL_name (hn x (by simp)) hs, PR.ok_then, optsM_join ns n _ r (fun y hy => hn y (by simp [hy])) hr hr' (by simp at hl ⊢; omega)]
    simp

theorem optsL_join {ns : List (List UInt8)} {n : Nat} {r : List UInt8} (hne : ns ≠ []) (hn : ∀ x ∈ ns, NameOk x) (hr : hd r ≠ 124) (hr' : namC (hd r) = false) (hl : (Lib.join ns [124] ++ r).length < n) :
    optsL n [] (Lib.join ns [124] ++ r) = .ok (ns.map E.str) r := by
  cases ns with
  | nil => exact absurd rfl hne
  | cons x ns =>
    rw [Lib.join_cons] at hl ⊢
    unfold optsL
    have hs : namC (hd (Lib.joinTail [124] ns ++ r)) = false := by
      cases ns with
      | nil => exact hr'
      | cons y ns => rfl
    rw [List.append_assoc, wordL_name (hn x (by simp)) hs, PR.ok_then, optsM_join ns n _ r (fun y hy => hn y (by simp [hy])) hr hr' (by simp at hl ⊢; omega)]
    simp

/-- A field's text is read again. -/
theorem recL_join {d : Nat} (ih : ∀ (x : E) (r : List UInt8), Ful s t f d x → Sep r → kindL s t f d (textS d x ++ r) = .ok x r) :
    ∀ (gs : List E) (g : E) (n : Nat) (acc : List E) (r : List UInt8), (∀ g' ∈ g :: gs, ∃ n o y, g' = mkF n o y ∧ NameOk n ∧ n.length ≤ 16 ∧ Ful s t f d y) → (fldS (textS d) g ++ (Lib.joinTail [44, 32] (gs.map (fldS (textS d))) ++ (125 :: r))).length < n →
      recL (kindL s t f d) n acc (fldS (textS d) g ++ (Lib.joinTail [44, 32] (gs.map (fldS (textS d))) ++ (125 :: r))) = .ok (acc ++ g :: gs) r
  | _, _, 0, _, _, _, h => by omega
  | gs, g, n + 1, acc, r, hg, hl => by
    obtain ⟨nm, o, y, rfl, hnm, _, hy⟩ := hg g (by simp)
    have e : fldS (textS d) (mkF nm o y) = nm ++ ((if o = true then [63] else []) ++ ([58, 32] ++ textS d y)) := by
      unfold fldS
      rw [hy.fieldTy]
      show nm ++ (if o = true then [63] else []) ++ [58, 32] ++ textS d y = _
      simp
    have hsep : Sep (Lib.joinTail [44, 32] (gs.map (fldS (textS d))) ++ (125 :: r)) := by
      cases gs with
      | nil => exact .inr (.inr rfl)
      | cons g' gs => exact .inr (.inl rfl)
    rw [e] at hl ⊢
    generalize hR : Lib.joinTail [44, 32] (gs.map (fldS (textS d))) ++ (125 :: r) = R at hl hsep ⊢
    unfold recL
    have hw : wordL (nm ++ ((if o = true then [63] else []) ++ ([58, 32] ++ textS d y)) ++ R) = .ok nm (((if o = true then [63] else []) ++ ([58, 32] ++ textS d y)) ++ R) := by
      rw [List.append_assoc]
      exact wordL_name hnm (by cases o <;> rfl)
    rw [hw, PR.ok_then]
    have hm : markL (((if o = true then [63] else []) ++ ([58, 32] ++ textS d y)) ++ R) = o := by cases o <;> rfl
    have hd' : dropM (((if o = true then [63] else []) ++ ([58, 32] ++ textS d y)) ++ R) = [58, 32] ++ (textS d y ++ R) := by
      unfold dropM
      rw [hm]
      cases o <;> simp
    rw [hm, hd', needL_app, PR.ok_then, ih y R hy hsep, PR.ok_then]
    cases gs with
    | nil =>
      have hR' : R = 125 :: r := hR.symm
      subst hR'
      rw [if_neg (by simp [hd])]
      have : needL [125] (125 :: r) = .ok () r := needL_app [125] r
      rw [this, PR.ok_then]
    | cons g' gs =>
      have hR' : R = 44 :: ([32] ++ (fldS (textS d) g' ++ (Lib.joinTail [44, 32] (gs.map (fldS (textS d))) ++ (125 :: r)))) := by
        rw [← hR]; simp [Lib.joinTail]
      rw [hR', if_pos (by rfl), List.drop_one, List.tail_cons, needL_app, PR.ok_then, recL_join ih gs g' n _ r (fun x hx => hg x (by simp at hx ⊢; rcases hx with h | h <;> simp [h])) (by rw [hR'] at hl; simp at hl ⊢; omega)]
      simp

/-- What is written is read again. -/
theorem kindL_text : ∀ (d : Nat) (x : E) (r : List UInt8), Ful s t f d x → Sep r → kindL s t f d (textS d x ++ r) = .ok x r
  | 0, _, _, h, _ => by cases h
  | d + 1, x, r, h, hr => by
    obtain ⟨r1, r2⟩ := hr.dig
    rcases h with ⟨mn, mx, rfl, h1, h2, h3⟩ | ⟨mn, mx, rfl, h1, h2, h3⟩ | rfl | ⟨os, rfl, h1, h2, h3, h4⟩ | ⟨mn, mx, y, rfl, h1, h2, h3, h4⟩ | ⟨gs, rfl, h1, h2, h3⟩ | rfl
    · have e : textS (d + 1) (mkT s t f 1 mn mx [] [] []) = if mn = -4611686018427387904 ∧ mx = 4611686018427387904 then [105, 110, 116] else [105, 110, 116] ++ (32 :: (Lib.itoa mn ++ [46, 46] ++ Lib.itoa mx)) := rfl
      rw [e]
      by_cases hc : mn = -4611686018427387904 ∧ mx = 4611686018427387904
      · rw [if_pos hc]
        obtain ⟨rfl, rfl⟩ := hc
        unfold kindL
        rw [if_pos (by rfl), needL_app, PR.ok_then]
        unfold openL
        rw [if_neg r2]
      · rw [if_neg hc]
        unfold kindL
        rw [if_pos (by rfl), List.append_assoc, needL_app, PR.ok_then]
        unfold openL
        rw [if_pos (by rfl), List.cons_append, List.drop_one, List.tail_cons, pairL_bnd (by omega) (by omega) r1, PR.ok_then]
    · have e : textS (d + 1) (mkT s t f 2 mn mx [] [] []) = if mn = 0 ∧ mx = 256 then [116, 101, 120, 116] else [116, 101, 120, 116] ++ (32 :: (Lib.itoa mn ++ [46, 46] ++ Lib.itoa mx)) := rfl
      rw [e]
      by_cases hc : mn = 0 ∧ mx = 256
      · rw [if_pos hc]
        obtain ⟨rfl, rfl⟩ := hc
        unfold kindL
        rw [if_neg (by simp [hd]), if_pos (by rfl), needL_app, PR.ok_then]
        unfold openL
        rw [if_neg r2]
      · rw [if_neg hc]
        unfold kindL
        rw [if_neg (by simp [hd]), if_pos (by rfl), List.append_assoc, needL_app, PR.ok_then]
        unfold openL
        rw [if_pos (by rfl), List.cons_append, List.drop_one, List.tail_cons, pairL_bnd (by omega) (by omega) r1, PR.ok_then]
    · show kindL s t f (d + 1) ([98, 111, 111, 108] ++ r) = _
      unfold kindL
      rw [if_neg (by simp [hd]), if_neg (by simp [hd]), if_pos (by rfl), needL_app, PR.ok_then]
    · have e : textS (d + 1) (mkT s t f 4 0 0 os [] []) = [101, 110, 117, 109, 40] ++ Lib.join (os.map nmE) [124] ++ [41] := rfl
      rw [e]
      unfold kindL
      rw [if_neg (by simp [hd]), if_neg (by simp [hd]), if_neg (by simp [hd]), if_neg (by simp [hd]), if_pos (by rfl), List.append_assoc, List.append_assoc, needL_app, PR.ok_then]
      have hn : ∀ x ∈ os.map nmE, NameOk x := fun x hx => by
        obtain ⟨o, ho, rfl⟩ := List.mem_map.1 hx
        obtain ⟨n, rfl, hn, _⟩ := h4 o ho
        exact hn
      have hos : (os.map nmE).map E.str = os := by
        rw [List.map_map]
        conv => rhs; rw [← List.map_id os]
        apply List.map_congr_left
        intro o ho
        obtain ⟨n, rfl, _⟩ := h4 o ho
        rfl
      rw [optsL_join (by simpa using h1) hn (by simp [hd]) rfl (Nat.lt_succ_self _), PR.ok_then, needL_app [41] r, PR.ok_then, hos]
    · have e : textS (d + 1) (mkT s t f 5 mn mx [] [y] []) = [108, 105, 115, 116, 32] ++ (Lib.itoa mn ++ [46, 46] ++ Lib.itoa mx) ++ [32, 111, 102, 32] ++ textS d y := rfl
      rw [e]
      unfold kindL
      rw [if_neg (by simp [hd]), if_neg (by simp [hd]), if_neg (by simp [hd]), if_neg (by simp [hd]), if_neg (by simp [hd]), if_pos (by rfl)]
      rw [List.append_assoc, List.append_assoc, List.append_assoc, needL_app, PR.ok_then, pairL_bnd (by omega) (by omega) rfl, PR.ok_then, needL_app, PR.ok_then, kindL_text d y r h4 hr, PR.ok_then]
    · have e : textS (d + 1) (mkT s t f 6 0 0 [] [] gs) = [123] ++ Lib.join (gs.map (fldS (textS d))) [44, 32] ++ [125] := rfl
      rw [e]
      unfold kindL
      rw [if_neg (by simp [hd]), if_neg (by simp [hd]), if_neg (by simp [hd]), if_neg (by simp [hd]), if_neg (by simp [hd]), if_neg (by simp [hd]), if_pos (by rfl)]
      cases gs with
      | nil => rfl
      | cons g gs =>
        have e2 : ([123] ++ Lib.join ((g :: gs).map (fldS (textS d))) [44, 32] ++ [125] ++ r).drop 1 = fldS (textS d) g ++ (Lib.joinTail [44, 32] (gs.map (fldS (textS d))) ++ (125 :: r)) := by
          rw [List.map_cons, Lib.join_cons]; simp
        rw [e2]
        obtain ⟨nm, o, y, rfl, hnm, _, hy⟩ := h3 g (by simp)
        have hne : hd (fldS (textS d) (mkF nm o y) ++ (Lib.joinTail [44, 32] (gs.map (fldS (textS d))) ++ (125 :: r))) ≠ 125 := by
          have hx : nm ≠ [] := by rintro rfl; exact absurd hnm.1 (by decide)
          unfold fldS
          rw [List.append_assoc, List.append_assoc, List.append_assoc]
          show hd (nm ++ _) ≠ 125
          rw [hd_append hx]
          intro hh
          have := hnm.1
          rw [hh] at this
          exact absurd this (by decide)
        rw [if_neg hne, recL_join (kindL_text d) gs _ _ [] r h3 (Nat.lt_succ_self _), PR.ok_then]
        rfl
    · show kindL s t f (d + 1) ([97, 110, 121] ++ r) = _
      unfold kindL
      rw [if_neg (by simp [hd]), if_neg (by simp [hd]), if_neg (by simp [hd]), if_pos (by rfl), needL_app, PR.ok_then]

end
end Go.Den

/- What is written is read again, and what is read was written: values. -/
namespace Go.Den
open Go

theorem PR.then_ok {α β : Type} {x : PR α} {f : α → List UInt8 → PR β} {b : β} {r : List UInt8} (h : x.andThen f = .ok b r) : ∃ a q, x = .ok a q ∧ f a q = .ok b r := by
  cases x with
  | err e l => cases h
  | ok a q => exact ⟨a, q, rfl, h⟩

/-! ### Texts in quotes -/

def hexC (k : Nat) : UInt8 := UInt8.ofNat (if k < 10 then 48 + k else 87 + k)
def escS (c : UInt8) : List UInt8 := if c = 34 ∨ c = 92 then [92, c] else if c < 32 ∨ 126 < c then [92, 120, hexC (c.toNat / 16), hexC (c.toNat % 16)] else [c]
def quotS (x : List UInt8) : List UInt8 := 34 :: (x.flatMap escS ++ [34])

theorem hexV_hexC : ∀ k, k < 16 → hexV (hexC k) = some k := by decide
theorem hexL_hexC {k : Nat} (h : k < 16) (r : List UInt8) : hexL (hexC k :: r) = .ok k r := by
  unfold hexL
  rw [show hd (hexC k :: r) = hexC k from rfl, hexV_hexC k h]
  rfl
theorem hexL_ok {l r : List UInt8} {k : Nat} (h : hexL l = .ok k r) : k < 16 ∧ l = hexC k :: r := by
  unfold hexL at h
  split at h
  · rename_i v hv
    injection h with h1 h2
    subst h1
    unfold hexV at hv
    have hl : hd l ≠ 0 → l = hd l :: r := fun h0 => by rw [← h2]; exact hd_drop rfl h0
    split at hv
    · rename_i hc
      injection hv with hv
      have e1 : 48 ≤ (hd l).toNat := by have := UInt8.le_iff_toNat_le.1 hc.1; simpa using this
      have e2 : (hd l).toNat ≤ 57 := by have := UInt8.le_iff_toNat_le.1 hc.2; simpa using this
      refine ⟨by omega, ?_⟩
      rw [hl (by rintro e; rw [e] at e1; revert e1; decide)]
      congr 1
      unfold hexC
      rw [if_pos (by omega), ← hv, show 48 + ((hd l).toNat - 48) = (hd l).toNat by omega]
      exact UInt8.ofNat_toNat.symm
    · split at hv
      · rename_i hc
        injection hv with hv
        have e1 : 97 ≤ (hd l).toNat := by have := UInt8.le_iff_toNat_le.1 hc.1; simpa using this
        have e2 : (hd l).toNat ≤ 102 := by have := UInt8.le_iff_toNat_le.1 hc.2; simpa using this
        refine ⟨by omega, ?_⟩
        rw [hl (by rintro e; rw [e] at e1; revert e1; decide)]
        congr 1
        unfold hexC
        rw [if_neg (by omega), ← hv, show 87 + ((hd l).toNat - 87) = (hd l).toNat by omega]
        exact UInt8.ofNat_toNat.symm
      · cases hv
  · cases h

theorem range_nat {c : UInt8} : (c < 32 ∨ 126 < c) ↔ ¬ (32 ≤ c.toNat ∧ c.toNat ≤ 126) := by
  rw [UInt8.lt_iff_toNat_lt, UInt8.lt_iff_toNat_lt]
  show c.toNat < 32 ∨ 126 < c.toNat ↔ _
  omega

theorem quotL_esc : ∀ (x : List UInt8) (n : Nat) (acc r : List UInt8), (x.flatMap escS ++ (34 :: r)).length < n → quotL n acc (x.flatMap escS ++ (34 :: r)) = .ok (acc ++ x) r
  | _, 0, _, _, h => by omega
  | [], n + 1, acc, r, _ => by
    show quotL (n + 1) acc (34 :: r) = _
    unfold quotL
    rw [if_pos (by rfl)]; simp
  | c :: x, n + 1, acc, r, hl => by
    have e : (c :: x).flatMap escS ++ (34 :: r) = escS c ++ (x.flatMap escS ++ (34 :: r)) := by simp
    rw [e] at hl ⊢
    have ih := fun (m : Nat) (a : List UInt8) h => quotL_esc x m a r h
    generalize x.flatMap escS ++ (34 :: r) = R at hl ih ⊢
    have fin : quotL n (acc ++ [c]) R = .ok (acc ++ c :: x) r := by
      rw [ih n _ (by
        have : 1 ≤ (escS c).length := by unfold escS; split; simp; split <;> simp
        simp only [List.length_append] at hl; omega)]
      simp
    unfold escS at hl ⊢
    by_cases hc : c = 34 ∨ c = 92
    · rw [if_pos hc] at hl ⊢
      unfold quotL
      rw [if_neg (by simp [hd]), if_neg (by simp [hd]), if_neg (by simp [hd])]
      have e1 : ([92, c] ++ R).drop 1 = c :: R := rfl
      rw [e1, if_pos (by simpa [hd] using hc)]
      exact fin
    · rw [if_neg hc] at hl ⊢
      by_cases hr : c < 32 ∨ 126 < c
      · rw [if_pos hr] at hl ⊢
        unfold quotL
        rw [if_neg (by simp [hd]), if_neg (by simp [hd]), if_neg (by simp [hd])]
        have e1 : ([92, 120, hexC (c.toNat / 16), hexC (c.toNat % 16)] ++ R).drop 1 = 120 :: hexC (c.toNat / 16) :: hexC (c.toNat % 16) :: R := rfl
        have hb : c.toNat < 256 := c.toNat_lt
        rw [e1, if_neg (by simp [hd]), if_pos (by simp [hd]), List.drop_one, List.tail_cons, hexL_hexC (by omega), PR.ok_then, hexL_hexC (by omega), PR.ok_then, if_neg (by rw [range_nat] at hr; omega), show 16 * (c.toNat / 16) + c.toNat % 16 = c.toNat by omega, UInt8.ofNat_toNat]
        exact fin
      · rw [if_neg hr] at hl ⊢
        unfold quotL
        have e1 : hd ([c] ++ R) = c := rfl
        rw [e1, if_neg (fun h => hc (.inl h)), if_neg hr, if_pos (fun h => hc (.inr h))]
        exact fin

theorem quotL_ok : ∀ {n : Nat} {acc l x r : List UInt8}, quotL n acc l = .ok x r → ∃ y, x = acc ++ y ∧ l = y.flatMap escS ++ (34 :: r)
  | 0, _, _, _, _, h => by cases h
  | n + 1, acc, l, x, r, h => by
    unfold quotL at h
    split at h
    · rename_i h1
      injection h with e1 e2
      exact ⟨[], by simp [e1], by rw [hd_drop h1 (by decide), e2]; rfl⟩
    rename_i h34
    split at h
    · cases h
    rename_i hr
    split at h
    · rename_i h92
      obtain ⟨y, e1, e2⟩ := quotL_ok h
      refine ⟨hd l :: y, by simp [e1], ?_⟩
      have h0 : hd l ≠ 0 := by intro e; rw [e] at hr; exact hr (.inl (by decide))
      rw [hd_drop rfl h0, List.flatMap_cons, List.append_assoc, ← e2]
      show hd l :: l.drop 1 = escS (hd l) ++ l.drop 1
      unfold escS
      rw [if_neg (by rintro (h | h); exact h34 h; exact h92 h), if_neg hr]
      rfl
    rename_i h92
    have h92 : hd l = 92 := by simpa using h92
    have hl := hd_drop h92 (by decide)
    generalize l.drop 1 = l1 at h hl
    split at h
    · rename_i hq
      obtain ⟨y, e1, e2⟩ := quotL_ok h
      refine ⟨hd l1 :: y, by simp [e1], ?_⟩
      have h0 : hd l1 ≠ 0 := by rintro e; rw [e] at hq; revert hq; decide
      rw [hl, List.flatMap_cons, List.append_assoc, ← e2]
      unfold escS
      rw [if_pos hq]
      show 92 :: l1 = 92 :: (hd l1 :: l1.drop 1)
      rw [← hd_drop rfl h0]
    split at h
    · rename_i h120
      obtain ⟨a, l2, h1, h⟩ := PR.then_ok h
      obtain ⟨b, l3, h2, h⟩ := PR.then_ok h
      split at h
      · cases h
      rename_i hab
      obtain ⟨a1, a2⟩ := hexL_ok h1
      obtain ⟨b1, b2⟩ := hexL_ok h2
      obtain ⟨y, e1, e2⟩ := quotL_ok h
      have hn : (UInt8.ofNat (16 * a + b)).toNat = 16 * a + b := by rw [UInt8.toNat_ofNat']; omega
      refine ⟨UInt8.ofNat (16 * a + b) :: y, by simp [e1], ?_⟩
      rw [List.flatMap_cons, List.append_assoc, ← e2]
      generalize hc : UInt8.ofNat (16 * a + b) = c at hn
      unfold escS
      have h3 : ¬ (c = 34 ∨ c = 92) := by
        rintro (rfl | rfl)
        · exact hab (by rw [← hn]; decide)
        · exact hab (by rw [← hn]; decide)
      rw [if_neg h3, if_pos (range_nat.2 (by rw [hn]; exact hab)), hn, show (16 * a + b) / 16 = a by omega, show (16 * a + b) % 16 = b by omega, hl]
      show 92 :: l1 = 92 :: 120 :: hexC a :: hexC b :: l3
      rw [← b2, ← a2, ← hd_drop h120 (by decide)]
    · cases h

/-! ### Values -/

section
variable (s t : TypeId)

def entT (w : E → List UInt8) (n v : E) : List UInt8 := nmE n ++ [58] ++ w v
/-- The text of a value. -/
def writS : Nat → E → List UInt8
  | 0, _ => []
  | d + 1, v =>
    if kindE v = 1 then Lib.itoa (minE v)
    else if kindE v = 2 then quotS (txtE v)
    else if kindE v = 3 then (if minE v = 0 then [102, 97, 108, 115, 101] else [116, 114, 117, 101])
    else if kindE v = 6 then [123] ++ Lib.join (List.zipWith (entT (writS d)) (namesE v) (listE v)) [44] ++ [125]
    else [91] ++ Lib.join ((listE v).map (writS d)) [44] ++ [93]

/-- Values that are right, whole. -/
def FulV : Nat → E → Prop
  | 0, _ => False
  | d + 1, v =>
    (∃ n, v = mkV s t 1 n [] [] [] ∧ -4611686018427387904 ≤ n ∧ n ≤ 4611686018427387904) ∨
    (∃ x, v = mkV s t 2 0 x [] []) ∨
    v = mkV s t 3 0 [] [] [] ∨
    v = mkV s t 3 1 [] [] [] ∨
    (∃ vs, v = mkV s t 5 0 [] [] vs ∧ ∀ y ∈ vs, FulV d y) ∨
    (∃ ns vs, v = mkV s t 6 0 [] ns vs ∧ ns.length = vs.length ∧ Asc (ns.map nmE) ∧ (∀ o ∈ ns, ∃ n, o = .str n ∧ NameOk n ∧ n.length ≤ 16) ∧ ∀ y ∈ vs, FulV d y)
variable {s t}

theorem kind_mkV {k n : Int} {x : List UInt8} {ns vs : List E} : kindE (mkV s t k n x ns vs) = k := rfl
theorem FulV.okV : ∀ {d : Nat} {v : E}, FulV s t d v → okV d v
  | 0, _, h => h
  | d + 1, v, h => by
    have no : ∀ {p : Prop} {a b : Int}, a ≠ b → (a = b → p) := fun h e => absurd e h
    rcases h with ⟨n, rfl, _⟩ | ⟨x, rfl⟩ | rfl | rfl | ⟨vs, rfl, hv⟩ | ⟨ns, vs, rfl, hl, ha, _, hv⟩ <;> unfold Den.okV <;> simp only [kind_mkV]
    · exact ⟨no (by omega), no (by omega)⟩
    · exact ⟨no (by omega), no (by omega)⟩
    · exact ⟨no (by omega), no (by omega)⟩
    · exact ⟨no (by omega), no (by omega)⟩
    · exact ⟨fun _ y hy => (hv y hy).okV, no (by omega)⟩
    · exact ⟨no (by omega), fun _ => ⟨hl, ha, fun y hy => (hv y hy).okV⟩⟩

def SepV (r : List UInt8) : Prop := r = [] ∨ hd r = 44 ∨ hd r = 93 ∨ hd r = 125
theorem SepV.dig {r : List UInt8} (h : SepV r) : digC (hd r) = false := by
  rcases h with rfl | h | h | h
  · decide
  all_goals rw [h]; decide

theorem elsL_join {d : Nat} (ih : ∀ (x : E) (r : List UInt8), FulV s t d x → SepV r → valL s t d (writS d x ++ r) = .ok x r) :
    ∀ (vs : List E) (v : E) (n : Nat) (acc : List E) (r : List UInt8), (∀ y ∈ v :: vs, FulV s t d y) → (writS d v ++ (Lib.joinTail [44] (vs.map (writS d)) ++ (93 :: r))).length < n →
      elsL (valL s t d) n acc (writS d v ++ (Lib.joinTail [44] (vs.map (writS d)) ++ (93 :: r))) = .ok (acc ++ v :: vs) r
  | _, _, 0, _, _, _, h => by omega
  | vs, v, n + 1, acc, r, hv, hl => by
    have hsep : SepV (Lib.joinTail [44] (vs.map (writS d)) ++ (93 :: r)) := by
      cases vs with
      | nil => exact .inr (.inr (.inl rfl))
      | cons _ _ => exact .inr (.inl rfl)
    unfold elsL
    rw [ih v _ (hv v (by simp)) hsep, PR.ok_then]
    cases vs with
    | nil =>
      show (if hd (93 :: r) = 44 then _ else (needL [93] ([93] ++ r)).andThen _) = _
      rw [if_neg (by simp [hd]), needL_app, PR.ok_then]
    | cons v' vs =>
      have e : Lib.joinTail [44] ((v' :: vs).map (writS d)) ++ (93 :: r) = 44 :: (writS d v' ++ (Lib.joinTail [44] (vs.map (writS d)) ++ (93 :: r))) := by simp [Lib.joinTail]
      rw [e] at hl ⊢
      rw [if_pos (by rfl), List.drop_one, List.tail_cons, elsL_join ih vs v' n _ r (fun y hy => hv y (by simp at hy ⊢; rcases hy with h | h <;> simp [h])) (by simp only [List.length_append, List.length_cons] at hl ⊢; omega)]
      simp

theorem elsL_back {d : Nat} (ih : ∀ (l : List UInt8) (x : E) (r : List UInt8), valL s t d l = .ok x r → FulV s t d x ∧ l = writS d x ++ r) :
    ∀ {n : Nat} {acc : List E} {l : List UInt8} {xs : List E} {r : List UInt8}, elsL (valL s t d) n acc l = .ok xs r →
      ∃ v vs, xs = acc ++ v :: vs ∧ (∀ y ∈ v :: vs, FulV s t d y) ∧ l = writS d v ++ (Lib.joinTail [44] (vs.map (writS d)) ++ (93 :: r))
  | 0, _, _, _, _, h => by cases h
  | n + 1, acc, l, xs, r, h => by
    unfold elsL at h
    obtain ⟨y, l1, h1, h⟩ := PR.then_ok h
    obtain ⟨hy, el⟩ := ih _ _ _ h1
    rw [el]
    split at h
    · rename_i hc
      obtain ⟨v, vs, rfl, hv, e⟩ := elsL_back ih h
      refine ⟨y, v :: vs, by simp, fun x hx => by rcases List.mem_cons.1 hx with rfl | hx; exact hy; exact hv x hx, ?_⟩
      rw [hd_drop hc (by decide), e]
      simp [Lib.joinTail]
    · obtain ⟨_, l2, h2, h⟩ := PR.then_ok h
      injection h with e1 e2
      subst e2
      refine ⟨y, [], e1.symm, fun x hx => by simp at hx; subst hx; exact hy, ?_⟩
      rw [needL_ok (by decide) h2]
      rfl

theorem getD_last {α : Type} {l : List α} {d : α} (h : 0 < l.length) : l.getD (l.length - 1) d ∈ l := by
  rw [List.getD_eq_getElem?_getD, List.getElem?_eq_getElem (by omega), Option.getD_some]
  exact List.getElem_mem _
theorem lateB_no {ns : List E} {n : E} (h : Asc ((ns ++ [n]).map nmE)) : lateB ns (nmE n) = false := by
  unfold lateB
  by_cases h0 : 0 < ns.length
  · have : Op.bytesLess (nmE (ns.getD (ns.length - 1) .nili)) (nmE n) = true := by
      rw [List.map_append, Asc, List.pairwise_append] at h
      exact h.2.2 _ (List.mem_map_of_mem (getD_last h0)) _ (by simp)
    rw [less_asymm this]
    have h2 : strEq (nmE n) (nmE (ns.getD (ns.length - 1) .nili)) = false := by
      rw [strEq_no]; intro e; rw [e, less_irrefl] at this; cases this
    rw [h2]; simp
  · simp [h0]
theorem Asc.front {a b : List (List UInt8)} (h : Asc (a ++ b)) : Asc a := (List.pairwise_append.1 h).1
theorem Asc.snoc {ns : List E} {n : E} (h : Asc (ns.map nmE)) (hl : lateB ns (nmE n) = false) : Asc ((ns ++ [n]).map nmE) := by
  rw [List.map_append, Asc, List.pairwise_append]
  refine ⟨h, by simp, fun a ha b hb => ?_⟩
  simp at hb
  subst hb
  obtain ⟨m, hm, rfl⟩ := List.mem_map.1 ha
  have h0 : 0 < ns.length := List.length_pos_of_mem hm
  unfold lateB at hl
  simp only [h0, decide_true, Bool.true_and, Bool.or_eq_false_iff] at hl
  have hlast : Op.bytesLess (nmE (ns.getD (ns.length - 1) .nili)) (nmE n) = true := by
    cases hb : Op.bytesLess (nmE (ns.getD (ns.length - 1) .nili)) (nmE n) with
    | true => rfl
    | false => exact absurd (less_tri _ _ hl.1 hb) (strEq_no.1 hl.2)
  obtain ⟨i, hi, rfl⟩ := List.getElem_of_mem hm
  by_cases he : i = ns.length - 1
  · subst he
    have : ns.getD (ns.length - 1) E.nili = ns[ns.length - 1] := by rw [List.getD_eq_getElem?_getD, List.getElem?_eq_getElem (by omega)]; rfl
    rw [← this]; exact hlast
  · have e2 : ns.getD (ns.length - 1) E.nili = ns[ns.length - 1]'(by omega) := by rw [List.getD_eq_getElem?_getD, List.getElem?_eq_getElem (by omega)]; rfl
    have h3 := List.pairwise_iff_getElem.1 h i (ns.length - 1) (by simpa using hi) (by simp; omega) (by omega)
    simp only [List.getElem_map] at h3
    rw [e2] at hlast
    exact less_trans h3 hlast

theorem entL_join {d : Nat} (ih : ∀ (x : E) (r : List UInt8), FulV s t d x → SepV r → valL s t d (writS d x ++ r) = .ok x r) :
    ∀ (ns vs : List E) (m v : E) (n : Nat) (an av : List E) (r : List UInt8), ns.length = vs.length → (∀ y ∈ v :: vs, FulV s t d y) → (∀ o ∈ m :: ns, ∃ n, o = .str n ∧ NameOk n ∧ n.length ≤ 16) → Asc ((an ++ m :: ns).map nmE) →
      (entT (writS d) m v ++ (Lib.joinTail [44] (List.zipWith (entT (writS d)) ns vs) ++ (125 :: r))).length < n →
      entL (valL s t d) n an av (entT (writS d) m v ++ (Lib.joinTail [44] (List.zipWith (entT (writS d)) ns vs) ++ (125 :: r))) = .ok (an ++ m :: ns, av ++ v :: vs) r
  | _, _, _, _, 0, _, _, _, _, _, _, _, h => by omega
  | ns, vs, m, v, n + 1, an, av, r, hlen, hv, hn, ha, hl => by
    obtain ⟨x, rfl, hx, hx16⟩ := hn m (by simp)
    have hsep : SepV (Lib.joinTail [44] (List.zipWith (entT (writS d)) ns vs) ++ (125 :: r)) := by
      cases ns with
      | nil => exact .inr (.inr (.inr rfl))
      | cons _ _ =>
        cases vs with
        | nil => simp at hlen
        | cons _ _ => exact .inr (.inl rfl)
    generalize hR : Lib.joinTail [44] (List.zipWith (entT (writS d)) ns vs) ++ (125 :: r) = R at hl hsep ⊢
    have e : entT (writS d) (.str x) v ++ R = x ++ ([58] ++ (writS d v ++ R)) := by unfold entT; simp [nmE, E.cell, E.cells, E.toStr]
    rw [e] at hl ⊢
    unfold entL
    have hx' : nmE (.str x) = x := rfl
    have hlate : lateB an x = false := by
      have : Asc ((an ++ [E.str x]).map nmE) := by
        have h2 : (an ++ E.str x :: ns) = (an ++ [E.str x]) ++ ns := by simp
        rw [h2, List.map_append] at ha
        exact ha.front
      exact lateB_no this
    rw [wordL_name hx (by rfl), PR.ok_then, if_neg (by omega), if_neg (by rw [hlate]; decide), needL_app, PR.ok_then, ih v R (hv v (by simp)) hsep, PR.ok_then]
    cases ns with
    | nil =>
      cases vs with
      | cons _ _ => simp at hlen
      | nil =>
        have hR' : R = [125] ++ r := hR.symm
        subst hR'
        rw [if_neg (by simp [hd]), needL_app, PR.ok_then]
    | cons m' ns =>
      cases vs with
      | nil => simp at hlen
      | cons v' vs =>
        have hR' : R = 44 :: (entT (writS d) m' v' ++ (Lib.joinTail [44] (List.zipWith (entT (writS d)) ns vs) ++ (125 :: r))) := by
          rw [← hR]; simp [Lib.joinTail]
        rw [hR'] at hl ⊢
        have ha' : Asc ((an ++ [E.str x] ++ m' :: ns).map nmE) := by
          rw [show an ++ [E.str x] ++ m' :: ns = an ++ E.str x :: m' :: ns by simp]; exact ha
        rw [if_pos (by rfl), List.drop_one, List.tail_cons, entL_join ih ns vs m' v' n _ _ r (by simpa using hlen) (fun y hy => hv y (by simp at hy ⊢; rcases hy with h | h <;> simp [h])) (fun y hy => hn y (by simp at hy ⊢; rcases hy with h | h <;> simp [h])) ha'
          (by simp only [List.length_append, List.length_cons, List.length_nil] at hl ⊢; omega)]
        simp

theorem entL_back {d : Nat} (ih : ∀ (l : List UInt8) (x : E) (r : List UInt8), valL s t d l = .ok x r → FulV s t d x ∧ l = writS d x ++ r) :
    ∀ {n : Nat} {an av : List E} {l : List UInt8} {q : List E × List E} {r : List UInt8}, Asc (an.map nmE) → entL (valL s t d) n an av l = .ok q r →
      ∃ m v ns vs, q = (an ++ m :: ns, av ++ v :: vs) ∧ ns.length = vs.length ∧ (∀ y ∈ v :: vs, FulV s t d y) ∧ (∀ o ∈ m :: ns, ∃ n, o = .str n ∧ NameOk n ∧ n.length ≤ 16) ∧ Asc ((an ++ m :: ns).map nmE) ∧
        l = entT (writS d) m v ++ (Lib.joinTail [44] (List.zipWith (entT (writS d)) ns vs) ++ (125 :: r))
  | 0, _, _, _, _, _, _, h => by cases h
  | n + 1, an, av, l, q, r, ha, h => by
    unfold entL at h
    obtain ⟨x, l1, h1, h⟩ := PR.then_ok h
    obtain ⟨hx, rfl, _⟩ := wordL_ok h1
    split at h
    · cases h
    rename_i h16
    split at h
    · cases h
    rename_i hlate
    have hlate : lateB an (nmE (.str x)) = false := by
      have h' : lateB an x = false := by simpa using hlate
      exact h'
    obtain ⟨_, l2, h2, h⟩ := PR.then_ok h
    have e2 := needL_ok (by decide) h2
    obtain ⟨y, l3, h3, h⟩ := PR.then_ok h
    obtain ⟨hy, e3⟩ := ih _ _ _ h3
    split at h
    · rename_i hc
      obtain ⟨m, v, ns, vs, rfl, hlen, hv, hn, ha2, e⟩ := entL_back ih (ha.snoc hlate) h
      refine ⟨.str x, y, m :: ns, v :: vs, by simp, by simpa using hlen, fun z hz => by rcases List.mem_cons.1 hz with rfl | hz; exact hy; exact hv z hz,
        fun z hz => by rcases List.mem_cons.1 hz with rfl | hz; exact ⟨x, rfl, hx, by omega⟩; exact hn z hz, by simpa using ha2, ?_⟩
      rw [e2, e3, hd_drop hc (by decide), e]
      simp [Lib.joinTail, entT, nmE, E.cell, E.cells, E.toStr]
    · obtain ⟨_, l4, h4, h⟩ := PR.then_ok h
      injection h with e5 e6
      subst e6
      refine ⟨.str x, y, [], [], e5.symm, rfl, fun z hz => by simp at hz; subst hz; exact hy, fun z hz => by simp at hz; subst hz; exact ⟨x, rfl, hx, by omega⟩, by simpa using ha.snoc hlate, ?_⟩
      rw [e2, e3, needL_ok (by decide) h4]
      simp [Lib.joinTail, entT, nmE, E.cell, E.cells, E.toStr]

/-- What is written is read again. -/
theorem valL_writ : ∀ (d : Nat) (v : E) (r : List UInt8), FulV s t d v → SepV r → valL s t d (writS d v ++ r) = .ok v r
  | 0, _, _, h, _ => by cases h
  | d + 1, v, r, h, hr => by
    rcases h with ⟨n, rfl, h1, h2⟩ | ⟨x, rfl⟩ | rfl | rfl | ⟨vs, rfl, hv⟩ | ⟨ns, vs, rfl, hl, ha, hn, hv⟩
    · show valL s t (d + 1) (Lib.itoa n ++ r) = _
      have hh : hd (Lib.itoa n ++ r) = 45 ∨ digC (hd (Lib.itoa n ++ r)) = true := by
        unfold Lib.itoa
        split
        · exact .inl rfl
        · rw [hd_append (decDigits_ne _)]
          exact .inr (decDigits_dig _ _ (hd_mem (decDigits_ne _)))
      unfold valL
      rw [if_pos hh, numL_itoa h1 h2 hr.dig, PR.ok_then]
    · have e : writS (d + 1) (mkV s t 2 0 x [] []) ++ r = 34 :: (x.flatMap escS ++ (34 :: r)) := by
        show quotS x ++ r = _
        unfold quotS; simp
      rw [e]
      unfold valL
      rw [if_neg (by simp [hd]; decide), if_neg (by simp [hd]), if_neg (by simp [hd]), if_pos (by rfl), List.drop_one, List.tail_cons, quotL_esc x _ [] r (Nat.lt_succ_self _), PR.ok_then]
      rfl
    · show valL s t (d + 1) ([102, 97, 108, 115, 101] ++ r) = _
      unfold valL
      rw [if_neg (by simp [hd]; decide), if_pos (by rfl), needL_app, PR.ok_then]
    · show valL s t (d + 1) ([116, 114, 117, 101] ++ r) = _
      unfold valL
      rw [if_neg (by simp [hd]; decide), if_neg (by simp [hd]), if_pos (by rfl), needL_app, PR.ok_then]
    · have e : writS (d + 1) (mkV s t 5 0 [] [] vs) = [91] ++ Lib.join (vs.map (writS d)) [44] ++ [93] := rfl
      rw [e]
      unfold valL
      rw [if_neg (by simp [hd]; decide), if_neg (by simp [hd]), if_neg (by simp [hd]), if_neg (by simp [hd]), if_pos (by rfl)]
      cases vs with
      | nil => rfl
      | cons v vs =>
        have e2 : ([91] ++ Lib.join ((v :: vs).map (writS d)) [44] ++ [93] ++ r).drop 1 = writS d v ++ (Lib.joinTail [44] (vs.map (writS d)) ++ (93 :: r)) := by
          rw [List.map_cons, Lib.join_cons]; simp
        have h93 : hd (writS d v ++ (Lib.joinTail [44] (vs.map (writS d)) ++ (93 :: r))) ≠ 93 := by
          intro hh
          have h1 := valL_writ d v (Lib.joinTail [44] (vs.map (writS d)) ++ (93 :: r)) (hv v (by simp)) (by
            cases vs with
            | nil => exact .inr (.inr (.inl rfl))
            | cons _ _ => exact .inr (.inl rfl))
          cases d with
          | zero => cases h1
          | succ d =>
            unfold valL at h1
            rw [hh, if_neg (by decide), if_neg (by decide), if_neg (by decide), if_neg (by decide), if_neg (by decide), if_neg (by decide)] at h1
            cases h1
        rw [e2, if_neg h93, elsL_join (valL_writ d) vs v _ [] r hv (Nat.lt_succ_self _), PR.ok_then]
        rfl
    · have e : writS (d + 1) (mkV s t 6 0 [] ns vs) = [123] ++ Lib.join (List.zipWith (entT (writS d)) ns vs) [44] ++ [125] := rfl
      rw [e]
      unfold valL
      rw [if_neg (by simp [hd]; decide), if_neg (by simp [hd]), if_neg (by simp [hd]), if_neg (by simp [hd]), if_neg (by simp [hd]), if_pos (by rfl)]
      cases ns with
      | nil =>
        cases vs with
        | nil => rfl
        | cons _ _ => simp at hl
      | cons m ns =>
        cases vs with
        | nil => simp at hl
        | cons v vs =>
          have e2 : ([123] ++ Lib.join (List.zipWith (entT (writS d)) (m :: ns) (v :: vs)) [44] ++ [125] ++ r).drop 1 = entT (writS d) m v ++ (Lib.joinTail [44] (List.zipWith (entT (writS d)) ns vs) ++ (125 :: r)) := by
            rw [List.zipWith_cons_cons, Lib.join_cons]; simp
          obtain ⟨x, rfl, hx, _⟩ := hn m (by simp)
          have h125 : hd (entT (writS d) (.str x) v ++ (Lib.joinTail [44] (List.zipWith (entT (writS d)) ns vs) ++ (125 :: r))) ≠ 125 := by
            have hne : x ≠ [] := by rintro rfl; exact absurd hx.1 (by decide)
            unfold entT
            rw [List.append_assoc, List.append_assoc]
            show hd (x ++ _) ≠ 125
            rw [hd_append hne]
            intro hh
            have := hx.1
            rw [hh] at this
            exact absurd this (by decide)
          rw [e2, if_neg h125, entL_join (valL_writ d) ns vs _ v _ [] [] r (by simpa using hl) hv hn (by simpa using ha) (Nat.lt_succ_self _), PR.ok_then]
          rfl

/-- What is read was written. -/
theorem valL_back : ∀ (d : Nat) (l : List UInt8) (v : E) (r : List UInt8), valL s t d l = .ok v r → FulV s t d v ∧ l = writS d v ++ r
  | 0, _, _, _, h => by cases h
  | d + 1, l, v, r, h => by
    unfold valL at h
    split at h
    · obtain ⟨n, q, h1, h⟩ := PR.then_ok h
      injection h with e1 e2
      subst e1; subst e2
      obtain ⟨e, k1, k2⟩ := numL_back h1
      exact ⟨.inl ⟨n, rfl, k1, k2⟩, e⟩
    split at h
    · obtain ⟨_, q, h1, h⟩ := PR.then_ok h
      injection h with e1 e2
      subst e1; subst e2
      exact ⟨.inr (.inr (.inl rfl)), needL_ok (w := [102, 97, 108, 115, 101]) (by decide) h1⟩
    split at h
    · obtain ⟨_, q, h1, h⟩ := PR.then_ok h
      injection h with e1 e2
      subst e1; subst e2
      exact ⟨.inr (.inr (.inr (.inl rfl))), needL_ok (w := [116, 114, 117, 101]) (by decide) h1⟩
    split at h
    · rename_i h34
      obtain ⟨x, q, h1, h⟩ := PR.then_ok h
      injection h with e1 e2
      subst e1; subst e2
      obtain ⟨y, e1, e⟩ := quotL_ok h1
      rw [List.nil_append] at e1
      subst e1
      refine ⟨.inr (.inl ⟨_, rfl⟩), ?_⟩
      rw [hd_drop h34 (by decide), e]
      show _ = quotS x ++ q
      unfold quotS; simp
    split at h
    · rename_i h91
      have hl := hd_drop h91 (by decide)
      split at h
      · rename_i h93
        injection h with e1 e2
        subst e1; subst e2
        refine ⟨.inr (.inr (.inr (.inr (.inl ⟨[], rfl, by simp⟩)))), ?_⟩
        rw [hl, hd_drop h93 (by decide)]
        rfl
      · obtain ⟨vs, q, h1, h⟩ := PR.then_ok h
        injection h with e1 e2
        subst e1; subst e2
        obtain ⟨v, vs, rfl, hv, e⟩ := elsL_back (valL_back d) h1
        refine ⟨.inr (.inr (.inr (.inr (.inl ⟨_, rfl, hv⟩)))), ?_⟩
        rw [hl, e]
        show _ = [91] ++ Lib.join ((v :: vs).map (writS d)) [44] ++ [93] ++ q
        rw [List.map_cons, Lib.join_cons]; simp
    split at h
    · rename_i h123
      have hl := hd_drop h123 (by decide)
      split at h
      · rename_i h125
        injection h with e1 e2
        subst e1; subst e2
        refine ⟨.inr (.inr (.inr (.inr (.inr ⟨[], [], rfl, rfl, List.Pairwise.nil, by simp, by simp⟩)))), ?_⟩
        rw [hl, hd_drop h125 (by decide)]
        rfl
      · obtain ⟨p, q, h1, h⟩ := PR.then_ok h
        injection h with e1 e2
        subst e1; subst e2
        obtain ⟨m, v, ns, vs, rfl, hlen, hv, hn, ha, e⟩ := entL_back (valL_back d) (show Asc (([] : List E).map nmE) from List.Pairwise.nil) h1
        refine ⟨.inr (.inr (.inr (.inr (.inr ⟨_, _, rfl, by simpa using hlen, by simpa using ha, hn, hv⟩)))), ?_⟩
        rw [hl, e]
        show _ = [123] ++ Lib.join (List.zipWith (entT (writS d)) (m :: ns) (v :: vs)) [44] ++ [125] ++ q
        rw [List.zipWith_cons_cons, Lib.join_cons]; simp
    · cases h

end
end Go.Den

/- What readers return is data of its type. -/
namespace Go.Den
open Go

section
variable {s t f : TypeId}

def Strs (k : Nat) (os : List E) : Prop := ∀ o ∈ os, ∃ n, o = .str n ∧ n.length ≤ k
theorem Strs.snoc {k : Nat} {os : List E} {x : List UInt8} (h : Strs k os) (hx : x.length ≤ k) : Strs k (os ++ [.str x]) := fun o ho => by
  rcases List.mem_append.1 ho with ho | ho
  · exact h o ho
  · simp at ho; exact ⟨x, ho, hx⟩
theorem PR.Tail.len {α : Type} {x : PR α} {l : List UInt8} (h : x.Tail l) {a : α} {r : List UInt8} (e : x = .ok a r) : r.length ≤ l.length := by
  subst e
  exact List.IsSuffix.length_le (show r <:+ l from h)
theorem pairL_range {l r : List UInt8} {q : Int × Int} (h : pairL l = .ok q r) : (-4611686018427387904 ≤ q.1 ∧ q.1 ≤ 4611686018427387904) ∧ -4611686018427387904 ≤ q.2 ∧ q.2 ≤ 4611686018427387904 := by
  unfold pairL at h
  obtain ⟨a, l1, h1, h⟩ := PR.then_ok h
  obtain ⟨_, l2, _, h⟩ := PR.then_ok h
  obtain ⟨b, l3, h3, h⟩ := PR.then_ok h
  injection h with e1 e2
  subst e1
  exact ⟨(numL_back h1).2, (numL_back h3).2⟩

theorem optsM_strs : ∀ {n : Nat} {acc : List E} {l : List UInt8} {os : List E} {r : List UInt8}, Strs 65536 acc → l.length ≤ 65536 → optsM n acc l = .ok os r → Strs 65536 os ∧ os.length ≤ acc.length + n
  | 0, _, _, _, _, _, _, h => by cases h
  | n + 1, acc, l, os, r, ha, hl, h => by
    unfold optsM at h
    split at h
    · obtain ⟨x, q, h1, h⟩ := PR.then_ok h
      obtain ⟨_, e, _⟩ := wordL_ok h1
      have hq : x.length + q.length = (l.drop 1).length := by rw [e, List.length_append]
      simp only [List.length_drop] at hq
      obtain ⟨k1, k2⟩ := optsM_strs (ha.snoc (by omega)) (by omega) h
      exact ⟨k1, by simp at k2; omega⟩
    · injection h with e1 e2
      subst e1
      exact ⟨ha, by omega⟩

def Flds (s t f : TypeId) (gs : List E) : Prop := ∀ g ∈ gs, ∃ n o y, g = mkF n o y ∧ n.length ≤ 65536 ∧ IsTy s t f y
theorem recL_flds {kd : List UInt8 → PR E} (hk : ∀ l x r, l.length ≤ 65536 → kd l = .ok x r → IsTy s t f x) (ht : ∀ l, (kd l).Tail l) :
    ∀ {n : Nat} {acc : List E} {l : List UInt8} {gs : List E} {r : List UInt8}, Flds s t f acc → l.length ≤ 65536 → recL kd n acc l = .ok gs r → Flds s t f gs ∧ gs.length ≤ acc.length + n
  | 0, _, _, _, _, _, _, h => by cases h
  | n + 1, acc, l, gs, r, ha, hl, h => by
    unfold recL at h
    obtain ⟨x, l1, h1, h⟩ := PR.then_ok h
    obtain ⟨_, l2, h2, h⟩ := PR.then_ok h
    obtain ⟨y, l3, h3, h⟩ := PR.then_ok h
    obtain ⟨_, e, _⟩ := wordL_ok h1
    have q1 : x.length + l1.length = l.length := by rw [e, List.length_append]
    have q2 := (needL_tail [58, 32] (dropM l1)).len h2
    have q2' : (dropM l1).length ≤ l1.length := (dropM_tail l1).length_le
    have q3 := (ht l2).len h3
    have hacc : Flds s t f (acc ++ [mkF x (markL l1) y]) := fun g hg => by
      rcases List.mem_append.1 hg with hg | hg
      · exact ha g hg
      · simp at hg; exact ⟨x, _, y, hg, by omega, hk l2 y l3 (by omega) h3⟩
    split at h
    · obtain ⟨_, l4, h4, h⟩ := PR.then_ok h
      have q4 := (needL_tail [32] (l3.drop 1)).len h4
      simp only [List.length_drop] at q4
      obtain ⟨k1, k2⟩ := recL_flds hk ht hacc (by omega) h
      exact ⟨k1, by simp at k2; omega⟩
    · obtain ⟨_, l4, h4, h⟩ := PR.then_ok h
      injection h with e1 e2
      subst e1
      exact ⟨hacc, by simp⟩

theorem isTy_mk {k mn mx : Int} {os fs gs : List E} (ho : Strs 65536 os) (hol : os.length ≤ 70000) (hf : ∀ x ∈ fs, IsTy s t f x) (hfl : fs.length ≤ 70000) (hg : Flds s t f gs) (hgl : gs.length ≤ 70000)
    (hk : 0 ≤ k ∧ k ≤ 7) (hmn : -4611686018427387904 ≤ mn ∧ mn ≤ 4611686018427387904) (hmx : -4611686018427387904 ≤ mx ∧ mx ≤ 4611686018427387904) : IsTy s t f (mkT s t f k mn mx os fs gs) := by
  have ag : ∀ {y : E}, IsTy s t f y → ∃ cs, y = .agg cs := fun h => by cases h; exact ⟨_, rfl⟩
  refine .mk k mn mx os fs gs (fun o h => let ⟨n, e, l⟩ := ho o h; ⟨n, e, by rw [maxLen_eq]; omega⟩) (by rw [maxLen_eq]; omega) hf (by rw [maxLen_eq]; omega) (fun g h => ?_) (fun g h => ?_) (by rw [maxLen_eq]; omega) (by omega) (by omega) (by omega)
  · obtain ⟨n, o, y, rfl, _, hy⟩ := hg g h
    obtain ⟨cs, rfl⟩ := ag hy
    exact hy
  · obtain ⟨n, o, y, rfl, hl, hy⟩ := hg g h
    exact ⟨n, o, _, rfl, by rw [maxLen_eq]; omega⟩

theorem kindL_ty : ∀ (d : Nat) (l : List UInt8) (x : E) (r : List UInt8), l.length ≤ 65536 → kindL s t f d l = .ok x r → IsTy s t f x
  | 0, _, _, _, _, h => by cases h
  | d + 1, l, x, r, hl, h => by
    have noS : Strs 65536 [] := by intro o h; cases h
    have noF : Flds s t f [] := by intro o h; cases h
    have op : ∀ {k lo hi : Int} {l : List UInt8}, (0 ≤ k ∧ k ≤ 7) → (-4611686018427387904 ≤ lo ∧ lo ≤ 4611686018427387904) → (-4611686018427387904 ≤ hi ∧ hi ≤ 4611686018427387904) → openL s t f k lo hi l = .ok x r → IsTy s t f x := by
      intro k lo hi l hk h1 h2 h
      unfold openL at h
      split at h
      · obtain ⟨q, l1, h3, h⟩ := PR.then_ok h
        injection h with e1 e2
        subst e1
        obtain ⟨k1, k2⟩ := pairL_range h3
        exact isTy_mk noS (by simp) (by simp) (by simp) noF (by simp) hk k1 k2
      · injection h with e1 e2
        subst e1
        exact isTy_mk noS (by simp) (by simp) (by simp) noF (by simp) hk h1 h2
    unfold kindL at h
    split at h
    · obtain ⟨_, l1, _, h⟩ := PR.then_ok h
      exact op (by omega) (by omega) (by omega) h
    split at h
    · obtain ⟨_, l1, _, h⟩ := PR.then_ok h
      exact op (by omega) (by omega) (by omega) h
    split at h
    · obtain ⟨_, l1, _, h⟩ := PR.then_ok h
      injection h with e1 e2
      subst e1
      exact isTy_mk noS (by simp) (by simp) (by simp) noF (by simp) (by omega) (by omega) (by omega)
    split at h
    · obtain ⟨_, l1, _, h⟩ := PR.then_ok h
      injection h with e1 e2
      subst e1
      exact isTy_mk noS (by simp) (by simp) (by simp) noF (by simp) (by omega) (by omega) (by omega)
    split at h
    · obtain ⟨_, l1, h1, h⟩ := PR.then_ok h
      obtain ⟨os, l2, h2, h⟩ := PR.then_ok h
      obtain ⟨_, l3, _, h⟩ := PR.then_ok h
      injection h with e1 e2
      subst e1
      have q1 := (needL_tail _ l).len h1
      unfold optsL at h2
      obtain ⟨x1, l4, h4, h2⟩ := PR.then_ok h2
      obtain ⟨_, e, _⟩ := wordL_ok h4
      have q2 : x1.length + l4.length = l1.length := by rw [e, List.length_append]
      obtain ⟨k1, k2⟩ := optsM_strs (noS.snoc (x := x1) (by omega)) (by omega) h2
      exact isTy_mk k1 (by simp at k2; omega) (by simp) (by simp) noF (by simp) (by omega) (by omega) (by omega)
    split at h
    · obtain ⟨_, l1, h1, h⟩ := PR.then_ok h
      obtain ⟨q, l2, h2, h⟩ := PR.then_ok h
      obtain ⟨_, l3, h3, h⟩ := PR.then_ok h
      obtain ⟨y, l4, h4, h⟩ := PR.then_ok h
      injection h with e1 e2
      subst e1
      have q1 := (needL_tail _ l).len h1
      have q2 := (pairL_tail l1).len h2
      have q3 := (needL_tail _ l2).len h3
      obtain ⟨k1, k2⟩ := pairL_range h2
      exact isTy_mk noS (by simp) (fun z hz => by simp at hz; subst hz; exact kindL_ty d l3 _ l4 (by omega) h4) (by simp) noF (by simp) (by omega) k1 k2
    split at h
    · split at h
      · injection h with e1 e2
        subst e1
        exact isTy_mk noS (by simp) (by simp) (by simp) noF (by simp) (by omega) (by omega) (by omega)
      · obtain ⟨gs, l1, h1, h⟩ := PR.then_ok h
        injection h with e1 e2
        subst e1
        obtain ⟨k1, k2⟩ := recL_flds (kindL_ty d) (kindL_tail s t f d) noF (by simp; omega) h1
        exact isTy_mk noS (by simp) (by simp) (by simp) k1 (by simp at k2; omega) (by omega) (by omega) (by omega)
    · cases h

/-! ### Values as data -/

/-- A value's data: names s, values t. -/
inductive IsVal (s t : TypeId) : E → Prop
  | mk (k n : Int) (x : List UInt8) (ns vs : List E) (hx : x.length ≤ maxLen) (hn : ∀ o ∈ ns, ∃ n, o = .str n ∧ n.length ≤ maxLen) (hnl : ns.length ≤ maxLen) (hv : ∀ y ∈ vs, IsVal s t y) (hvl : vs.length ≤ maxLen)
      (hk : -9223372036854775808 ≤ k ∧ k ≤ 9223372036854775807) (hnum : -9223372036854775808 ≤ n ∧ n ≤ 9223372036854775807) : IsVal s t (.agg [.int .i64 k, .int .i64 n, .str x, .sl s ns, .sl t vs])

theorem len_flatMap_esc : ∀ x : List UInt8, x.length ≤ (x.flatMap escS).length
  | [] => by simp
  | c :: x => by
    have := len_flatMap_esc x
    have h1 : 1 ≤ (escS c).length := by unfold escS; split; simp; split <;> simp
    simp only [List.flatMap_cons, List.length_append, List.length_cons]
    omega
theorem lens_mem {xs : List (List UInt8)} {x : List UInt8} (h : x ∈ xs) : x.length ≤ Lib.lens xs := by
  induction xs with
  | nil => cases h
  | cons y xs ih =>
    have e : Lib.lens (y :: xs) = y.length + Lib.lens xs := by simp [Lib.lens]
    rcases List.mem_cons.1 h with rfl | h
    · omega
    · have := ih h; omega
theorem join_len {xs : List (List UInt8)} {c : UInt8} : xs.length ≤ (Lib.join xs [c]).length + 1 ∧ ∀ x ∈ xs, x.length ≤ (Lib.join xs [c]).length := by
  cases xs with
  | nil => simp
  | cons y xs =>
    have e := Lib.join_length y xs [c]
    simp only [List.length_cons, List.length_nil, Nat.zero_add, Nat.one_mul] at e ⊢
    exact ⟨by omega, fun x hx => by have := lens_mem hx; omega⟩

theorem FulV.val : ∀ {d : Nat} {v : E}, FulV s t d v → (writS d v).length ≤ 100000 → IsVal s t v
  | 0, _, h, _ => by cases h
  | d + 1, v, h, hl => by
    rcases h with ⟨n, rfl, h1, h2⟩ | ⟨x, rfl⟩ | rfl | rfl | ⟨vs, rfl, hv⟩ | ⟨ns, vs, rfl, hlen, ha, hn, hv⟩
    · exact .mk 1 n [] [] [] (by simp) (by simp) (by simp) (by simp) (by simp) (by omega) (by omega)
    · have e : writS (d + 1) (mkV s t 2 0 x [] []) = 34 :: (x.flatMap escS ++ [34]) := rfl
      rw [e] at hl
      have := len_flatMap_esc x
      simp only [List.length_cons, List.length_append, List.length_nil] at hl
      exact .mk 2 0 x [] [] (by rw [maxLen_eq]; omega) (by simp) (by simp) (by simp) (by simp) (by omega) (by omega)
    · exact .mk 3 0 [] [] [] (by simp) (by simp) (by simp) (by simp) (by simp) (by omega) (by omega)
    · exact .mk 3 1 [] [] [] (by simp) (by simp) (by simp) (by simp) (by simp) (by omega) (by omega)
    · have e : writS (d + 1) (mkV s t 5 0 [] [] vs) = [91] ++ Lib.join (vs.map (writS d)) [44] ++ [93] := rfl
      rw [e] at hl
      obtain ⟨j1, j2⟩ := join_len (xs := vs.map (writS d)) (c := 44)
      simp only [List.length_append, List.length_cons, List.length_nil, List.length_map] at hl j1
      exact .mk 5 0 [] [] vs (by simp) (by simp) (by simp) (fun y hy => (hv y hy).val (by have := j2 _ (List.mem_map_of_mem hy); omega)) (by rw [maxLen_eq]; omega) (by omega) (by omega)
    · have e : writS (d + 1) (mkV s t 6 0 [] ns vs) = [123] ++ Lib.join (List.zipWith (entT (writS d)) ns vs) [44] ++ [125] := rfl
      rw [e] at hl
      obtain ⟨j1, j2⟩ := join_len (xs := List.zipWith (entT (writS d)) ns vs) (c := 44)
      simp only [List.length_append, List.length_cons, List.length_nil, List.length_zipWith] at hl j1
      refine .mk 6 0 [] ns vs (by simp) (fun o ho => let ⟨n, e, _, l⟩ := hn o ho; ⟨n, e, by rw [maxLen_eq]; omega⟩) (by rw [maxLen_eq]; omega) (fun y hy => (hv y hy).val ?_) (by rw [maxLen_eq]; omega) (by omega) (by omega)
      obtain ⟨i, hi, rfl⟩ := List.getElem_of_mem hy
      have hj : i < (List.zipWith (entT (writS d)) ns vs).length := by rw [List.length_zipWith]; omega
      have hm : (List.zipWith (entT (writS d)) ns vs)[i] ∈ List.zipWith (entT (writS d)) ns vs := List.getElem_mem hj
      have := j2 _ hm
      rw [List.getElem_zipWith] at this
      have e3 : (entT (writS d) ns[i] vs[i]).length = (nmE ns[i]).length + 1 + (writS d vs[i]).length := by unfold entT; simp [List.length_append]; omega
      omega
end
end Go.Den

