/- Sp2: texts SpG .. SpJ in one. -/
import Derived.Test.YtghdhhmlmdohkaaGreatDoorSp1
/- Loops over lists: what they come to, step by step. -/
namespace Go.Den
open Go

/-- What a loop over a list comes to: an element that ends it, or its end. -/
def scanO (p : E → Option Out) (A : Out) : List E → Out
  | [] => A
  | x :: r => match p x with | some o => o | none => scanO p A r

/-- A loop with a state. -/
def goL {S : Type} (st : S → E → Out ⊕ S) (A : S → Out) : List E → S → Out
  | [], s => A s
  | x :: r, s => match st s x with | .inl o => o | .inr s' => goL st A r s'
theorem at_nat (i : Nat) : ((i : Int)).toNat = i := by omega
theorem wrap_nat {i n : Nat} (h : i < n) (hn : n ≤ maxLen) : IntKind.i64.wrap ((i : Int) + 1) = ((i + 1 : Nat) : Int) := by
  rw [maxLen_eq] at hn
  rw [wrap_in (by omega) (by omega)]
  omega
theorem in_nat {i n : Nat} (h : i < n) : (decide ((0 : Int) ≤ (i : Int)) && decide ((i : Int) < (n : Int))) = true := by
  simp; omega
theorem lt_nat {i n : Nat} (h : i < n) : decide ((i : Int) < (n : Int)) = true := by simp; omega
theorem end_nat (n : Nat) : decide ((n : Int) < (n : Int)) = false := by simp
end Go.Den

/- How long the text of a value can be. -/
namespace Go.Den
open Go

/-- The parts of a value and the bytes of its strings. -/
def sizV : Nat → E → Nat
  | 0, _ => 0
  | d + 1, v => 1 + (txtE v).length + (namesE v).length + (listE v).length + ((listE v).map (sizV d)).sum

end Go.Den

/- How long the text of a schema can be. -/
namespace Go.Den
open Go

/-- The parts of a schema. -/
def sizT : Nat → E → Nat
  | 0, _ => 0
  | d + 1, x => 1 + (optsE x).length + (fieldsE x).length + (ofE x).length + ((ofE x).map (sizT d)).sum + ((fieldsE x).map fun g => sizT d (fieldTy g)).sum

theorem lens_sum {α : Type} {f : α → List UInt8} {g : α → Nat} : ∀ {l : List α}, (∀ x ∈ l, (f x).length ≤ g x) → Lib.lens (l.map f) ≤ (l.map g).sum
  | [], _ => by simp [Lib.lens]
  | x :: l, h => by
    have h1 := h x (by simp)
    have h2 := lens_sum (l := l) (fun y hy => h y (by simp [hy]))
    have e : Lib.lens ((x :: l).map f) = (f x).length + Lib.lens (l.map f) := by simp [Lib.lens]
    rw [e, List.map_cons, List.sum_cons]
    omega
theorem sum_lin {α : Type} (g : α → Nat) (a b : Nat) : ∀ l : List α, (l.map fun x => a + b * g x).sum = a * l.length + b * (l.map g).sum
  | [] => by simp
  | x :: l => by
    have := sum_lin g a b l
    simp only [List.map_cons, List.sum_cons, List.length_cons, this, Nat.mul_add]
    omega
theorem join_le2 {xs : List (List UInt8)} {sep : List UInt8} : (Lib.join xs sep).length ≤ sep.length * xs.length + Lib.lens xs := by
  cases xs with
  | nil => rw [Lib.join_nil]; simp [Lib.lens]
  | cons y xs =>
    have e := Lib.join_length y xs sep
    rw [e, List.length_cons, Nat.mul_add]
    omega

theorem text_le {s t f : TypeId} (hi : ∀ n : Int, -4611686018427387904 ≤ n → n ≤ 4611686018427387904 → (Lib.itoa n).length ≤ 20) : ∀ {d : Nat} {x : E}, Ful s t f d x → (textS d x).length ≤ 60 * sizT d x
  | 0, _, h => by cases h
  | d + 1, x, h => by
    rcases h with ⟨mn, mx, rfl, h1, h2, h3⟩ | ⟨mn, mx, rfl, h1, h2, h3⟩ | rfl | ⟨os, rfl, h1, h2, h3, h4⟩ | ⟨mn, mx, y, rfl, h1, h2, h3, h4⟩ | ⟨gs, rfl, h1, h2, h3⟩ | rfl
    · have e : textS (d + 1) (mkT s t f 1 mn mx [] [] []) = if mn = -4611686018427387904 ∧ mx = 4611686018427387904 then [105, 110, 116] else [105, 110, 116, 32] ++ (Lib.itoa mn ++ [46, 46] ++ Lib.itoa mx) := rfl
      have a1 := hi mn (by omega) (by omega)
      have a2 := hi mx (by omega) (by omega)
      rw [e]
      show _ ≤ 60 * (1 + 0 + 0 + 0 + 0 + 0)
      split
      · simp
      · simp only [List.length_append, List.length_cons, List.length_nil]; omega
    · have e : textS (d + 1) (mkT s t f 2 mn mx [] [] []) = if mn = 0 ∧ mx = 256 then [116, 101, 120, 116] else [116, 101, 120, 116, 32] ++ (Lib.itoa mn ++ [46, 46] ++ Lib.itoa mx) := rfl
      have a1 := hi mn (by omega) (by omega)
      have a2 := hi mx (by omega) (by omega)
      rw [e]
      show _ ≤ 60 * (1 + 0 + 0 + 0 + 0 + 0)
      split
      · simp
      · simp only [List.length_append, List.length_cons, List.length_nil]; omega
    · show 4 ≤ 60 * (1 + 0 + 0 + 0 + 0 + 0)
      omega
    · have e : textS (d + 1) (mkT s t f 4 0 0 os [] []) = [101, 110, 117, 109, 40] ++ Lib.join (os.map nmE) [124] ++ [41] := rfl
      have a1 := join_le2 (xs := os.map nmE) (sep := [124])
      have a2 := lens_sum (l := os) (f := nmE) (g := fun _ => 16 + 0 * 0) (fun o ho => by obtain ⟨n, rfl, _, hn⟩ := h4 o ho; exact hn)
      have a3 := sum_lin (fun _ : E => 0) 16 0 os
      rw [a3] at a2
      rw [e]
      show _ ≤ 60 * (1 + os.length + 0 + 0 + 0 + 0)
      simp only [List.length_append, List.length_cons, List.length_nil, List.length_map] at a1 ⊢
      omega
    · have e : textS (d + 1) (mkT s t f 5 mn mx [] [y] []) = [108, 105, 115, 116, 32] ++ (Lib.itoa mn ++ [46, 46] ++ Lib.itoa mx) ++ [32, 111, 102, 32] ++ textS d y := rfl
      have a1 := hi mn (by omega) (by omega)
      have a2 := hi mx (by omega) (by omega)
      have a3 := text_le hi h4
      rw [e]
      show _ ≤ 60 * (1 + 0 + 0 + 1 + (sizT d y + 0) + 0)
      simp only [List.length_append, List.length_cons, List.length_nil]
      omega
    · have e : textS (d + 1) (mkT s t f 6 0 0 [] [] gs) = [123] ++ Lib.join (gs.map (fldS (textS d))) [44, 32] ++ [125] := rfl
      have a1 := join_le2 (xs := gs.map (fldS (textS d))) (sep := [44, 32])
      have a2 := lens_sum (l := gs) (f := fldS (textS d)) (g := fun g => 19 + 60 * sizT d (fieldTy g)) (fun g hg => by
        obtain ⟨n, o, y, rfl, _, hn, hy⟩ := h3 g hg
        have a3 := text_le hi hy
        rw [← hy.fieldTy (n := n) (o := o)] at a3
        have e2 : fldS (textS d) (mkF n o y) = n ++ (if o = true then [63] else []) ++ [58, 32] ++ textS d (fieldTy (mkF n o y)) := rfl
        rw [e2]
        have : (if o = true then [63] else [] : List UInt8).length ≤ 1 := by split <;> simp
        simp only [List.length_append, List.length_cons, List.length_nil]
        omega)
      have a3 := sum_lin (fun g => sizT d (fieldTy g)) 19 60 gs
      rw [a3] at a2
      rw [e]
      show _ ≤ 60 * (1 + 0 + gs.length + 0 + 0 + (gs.map fun g => sizT d (fieldTy g)).sum)
      simp only [List.length_append, List.length_cons, List.length_nil, List.length_map] at a1 ⊢
      omega
    · show 3 ≤ 60 * (1 + 0 + 0 + 0 + 0 + 0)
      omega
end Go.Den

