/- Sp2: texts SpG .. SpJ in one. -/
import Derived.Test.YtapndkailgcboaaGreatDoorSp1
/- Loops over lists: what they come to, step by step. -/
namespace Go.Den
open Go

/-- What a loop over a list comes to: an element that ends it, or its end. -/
def scanO (p : E → Option Out) (A : Out) : List E → Out
  | [] => A
  | x :: r => match p x with | some o => o | none => scanO p A r

theorem loop_scan {F : Nat → Option Out} {xs : List E} {p : E → Option Out} {A : Out} (h0 : F xs.length = some A)
    (h1 : ∀ i, i < xs.length → ∀ o, p (xs.getD i .nili) = some o → F i = some o)
    (h2 : ∀ i, i < xs.length → p (xs.getD i .nili) = none → ∀ o, F (i + 1) = some o → F i = some o) : F 0 = some (scanO p A xs) := by
  have key : ∀ (j i : Nat), i + j = xs.length → F i = some (scanO p A (xs.drop i)) := by
    intro j
    induction j with
    | zero =>
      intro i h
      have : i = xs.length := by omega
      subst this
      rw [List.drop_length]
      exact h0
    | succ j ih =>
      intro i h
      have hi : i < xs.length := by omega
      have hx : xs.getD i .nili = xs[i] := getD_at hi
      rw [List.drop_eq_getElem_cons hi]
      unfold scanO
      cases hp : p xs[i] with
      | some o => exact h1 i hi o (by rw [hx, hp])
      | none => exact h2 i hi (by rw [hx, hp]) _ (ih (i + 1) (by omega))
  have := key xs.length 0 (by omega)
  rwa [List.drop_zero] at this

/-- Loops that look whether all are so. -/
theorem loop_all {F : Nat → Option Out} {xs : List E} {p : E → Bool} {A B : Out} (h0 : F xs.length = some A)
    (h1 : ∀ i, i < xs.length → p (xs.getD i .nili) = false → F i = some B)
    (h2 : ∀ i, i < xs.length → p (xs.getD i .nili) = true → ∀ o, F (i + 1) = some o → F i = some o) : F 0 = some (bif xs.all p then A else B) := by
  have := loop_scan (F := F) (xs := xs) (p := fun x => bif p x then none else some B) (A := A) h0 (fun i hi o ho => by
    change (bif p (xs.getD i .nili) then none else some B) = some o at ho
    cases hp : p (xs.getD i .nili) with
    | true => rw [hp] at ho; cases ho
    | false => rw [hp] at ho; injection ho with ho; rw [← ho]; exact h1 i hi hp) (fun i hi hp r hr => by
    change (bif p (xs.getD i .nili) then none else some B) = none at hp
    cases hp' : p (xs.getD i .nili) with
    | true => exact h2 i hi hp' r hr
    | false => rw [hp'] at hp; cases hp)
  rw [this]
  congr 1
  clear this h0 h1 h2
  induction xs with
  | nil => rfl
  | cons x xs ih =>
    unfold scanO
    rw [List.all_cons]
    cases hp : p x with
    | true => simpa using ih
    | false => rfl

/-- A loop with a state. -/
def goL {S : Type} (st : S → E → Out ⊕ S) (A : S → Out) : List E → S → Out
  | [], s => A s
  | x :: r, s => match st s x with | .inl o => o | .inr s' => goL st A r s'
theorem loop_run {S : Type} {F : Nat → S → Option Out} {xs : List E} {st : S → E → Out ⊕ S} {A : S → Out} {I : Nat → S → Prop} (h0 : ∀ s, I xs.length s → F xs.length s = some (A s))
    (h1 : ∀ i s, i < xs.length → I i s → (∀ o, st s (xs.getD i .nili) = .inl o → F i s = some o) ∧ ∀ s', st s (xs.getD i .nili) = .inr s' → I (i + 1) s' ∧ ∀ o, F (i + 1) s' = some o → F i s = some o) :
    ∀ s, I 0 s → F 0 s = some (goL st A xs s) := by
  have key : ∀ (j i : Nat) (s : S), i + j = xs.length → I i s → F i s = some (goL st A (xs.drop i) s) := by
    intro j
    induction j with
    | zero =>
      intro i s h hI
      have : i = xs.length := by omega
      subst this
      rw [List.drop_length]
      exact h0 s hI
    | succ j ih =>
      intro i s h hI
      have hi : i < xs.length := by omega
      have hx : xs.getD i .nili = xs[i] := getD_at hi
      obtain ⟨k1, k2⟩ := h1 i s hi hI
      rw [hx] at k1 k2
      rw [List.drop_eq_getElem_cons hi]
      unfold goL
      cases hp : st s xs[i] with
      | inl o => exact k1 o hp
      | inr s' =>
        obtain ⟨k3, k4⟩ := k2 s' hp
        exact k4 _ (ih (i + 1) s' (by omega) k3)
  intro s hI
  have := key xs.length 0 s (by omega) hI
  rwa [List.drop_zero] at this

theorem at_nat (i : Nat) : ((i : Int)).toNat = i := by omega
theorem wrap_nat {i n : Nat} (h : i < n) (hn : n ≤ maxLen) : IntKind.i64.wrap ((i : Int) + 1) = ((i + 1 : Nat) : Int) := by
  rw [maxLen_eq] at hn
  rw [wrap_in (by omega) (by omega)]
  omega
theorem in_nat {i n : Nat} (h : i < n) : (decide ((0 : Int) ≤ (i : Int)) && decide ((i : Int) < (n : Int))) = true := by
  simp; omega
theorem lt_nat {i n : Nat} (h : i < n) : decide ((i : Int) < (n : Int)) = true := by simp; omega
theorem end_nat (n : Nat) : decide ((n : Int) < (n : Int)) = false := by simp
end Go.Den

/- How long the text of a value can be. -/
namespace Go.Den
open Go

/-- The parts of a value and the bytes of its strings. -/
def sizV : Nat → E → Nat
  | 0, _ => 0
  | d + 1, v => 1 + (txtE v).length + (namesE v).length + (listE v).length + ((listE v).map (sizV d)).sum

theorem lens_le {f : E → List UInt8} {g : E → Nat} : ∀ {vs : List E}, (∀ v ∈ vs, (f v).length ≤ 24 * g v) → Lib.lens (vs.map f) ≤ 24 * (vs.map g).sum
  | [], _ => by simp [Lib.lens]
  | v :: vs, h => by
    have h1 := h v (by simp)
    have h2 := lens_le (vs := vs) (fun y hy => h y (by simp [hy]))
    have e : Lib.lens ((v :: vs).map f) = (f v).length + Lib.lens (vs.map f) := by simp [Lib.lens]
    rw [e, List.map_cons, List.sum_cons]
    omega
theorem lens_le2 {f : E → List UInt8} {g : E → Nat} : ∀ {ns vs : List E}, (∀ n ∈ ns, (nmE n).length ≤ 16) → (∀ v ∈ vs, (f v).length ≤ 24 * g v) → Lib.lens (List.zipWith (entT f) ns vs) ≤ 17 * ns.length + 24 * (vs.map g).sum
  | [], _, _, _ => by simp [Lib.lens]
  | _ :: _, [], _, _ => by simp [Lib.lens]
  | n :: ns, v :: vs, hn, h => by
    have h0 := hn n (by simp)
    have h1 := h v (by simp)
    have h2 := lens_le2 (ns := ns) (vs := vs) (fun y hy => hn y (by simp [hy])) (fun y hy => h y (by simp [hy]))
    have e : Lib.lens (List.zipWith (entT f) (n :: ns) (v :: vs)) = (entT f n v).length + Lib.lens (List.zipWith (entT f) ns vs) := by simp [Lib.lens]
    have e2 : (entT f n v).length = (nmE n).length + 1 + (f v).length := by unfold entT; simp [List.length_append]; omega
    rw [e, e2, List.map_cons, List.sum_cons, List.length_cons]
    omega
theorem join_le {xs : List (List UInt8)} : (Lib.join xs [44]).length ≤ xs.length + Lib.lens xs := by
  cases xs with
  | nil => rw [Lib.join_nil]; simp [Lib.lens]
  | cons y xs =>
    have e := Lib.join_length y xs [44]
    simp only [List.length_cons, List.length_nil] at e ⊢
    omega
theorem quot_le : ∀ x : List UInt8, (x.flatMap escS).length ≤ 4 * x.length
  | [] => by simp
  | c :: x => by
    have := quot_le x
    have h1 : (escS c).length ≤ 4 := by unfold escS; split; simp; split <;> simp
    simp only [List.flatMap_cons, List.length_append, List.length_cons]
    omega

theorem writ_le {s t : TypeId} (hi : ∀ n : Int, -4611686018427387904 ≤ n → n ≤ 4611686018427387904 → (Lib.itoa n).length ≤ 20) : ∀ {d : Nat} {v : E}, FulV s t d v → (writS d v).length ≤ 24 * sizV d v
  | 0, _, h => by cases h
  | d + 1, v, h => by
    rcases h with ⟨n, rfl, h1, h2⟩ | ⟨x, rfl⟩ | rfl | rfl | ⟨vs, rfl, hv⟩ | ⟨ns, vs, rfl, hlen, ha, hn, hv⟩
    · have := hi n h1 h2
      show (Lib.itoa n).length ≤ 24 * (1 + 0 + 0 + 0 + 0)
      omega
    · have e : writS (d + 1) (mkV s t 2 0 x [] []) = 34 :: (x.flatMap escS ++ [34]) := rfl
      have := quot_le x
      rw [e]
      show _ ≤ 24 * (1 + x.length + 0 + 0 + 0)
      simp only [List.length_cons, List.length_append, List.length_nil]
      omega
    · show 5 ≤ 24 * (1 + 0 + 0 + 0 + 0)
      omega
    · show 4 ≤ 24 * (1 + 0 + 0 + 0 + 0)
      omega
    · have e : writS (d + 1) (mkV s t 5 0 [] [] vs) = [91] ++ Lib.join (vs.map (writS d)) [44] ++ [93] := rfl
      have h1 := lens_le (vs := vs) (f := writS d) (g := sizV d) (fun y hy => writ_le hi (hv y hy))
      have h2 := join_le (xs := vs.map (writS d))
      rw [e]
      show _ ≤ 24 * (1 + 0 + 0 + vs.length + (vs.map (sizV d)).sum)
      simp only [List.length_append, List.length_cons, List.length_nil, List.length_map] at h2 ⊢
      omega
    · have e : writS (d + 1) (mkV s t 6 0 [] ns vs) = [123] ++ Lib.join (List.zipWith (entT (writS d)) ns vs) [44] ++ [125] := rfl
      have h1 := lens_le2 (ns := ns) (vs := vs) (f := writS d) (g := sizV d) (fun o ho => by obtain ⟨m, rfl, _, hm⟩ := hn o ho; exact hm) (fun y hy => writ_le hi (hv y hy))
      have h2 := join_le (xs := List.zipWith (entT (writS d)) ns vs)
      rw [e]
      show _ ≤ 24 * (1 + 0 + ns.length + vs.length + (vs.map (sizV d)).sum)
      simp only [List.length_append, List.length_cons, List.length_nil, List.length_zipWith] at h2 ⊢
      omega
end Go.Den

/- How long the text of a schema can be. -/
namespace Go.Den
open Go

/-- The parts of a schema. -/
def sizT : Nat → E → Nat
  | 0, _ => 0
  | d + 1, x => 1 + (optsE x).length + (fieldsE x).length + (ofE x).length + ((ofE x).map (sizT d)).sum + ((fieldsE x).map fun g => sizT d (fieldTy g)).sum

theorem lens_sum {α : Type} {f : α → List UInt8} {g : α → Nat} : ∀ {l : List α}, (∀ x ∈ l, (f x).length ≤ g x) → Lib.lens (l.map f) ≤ (l.map g).sum
  | [], _ => by simp [Lib.lens]
  | x :: l, h => by
    have h1 := h x (by simp)
    have h2 := lens_sum (l := l) (fun y hy => h y (by simp [hy]))
    have e : Lib.lens ((x :: l).map f) = (f x).length + Lib.lens (l.map f) := by simp [Lib.lens]
    rw [e, List.map_cons, List.sum_cons]
    omega
theorem sum_lin {α : Type} (g : α → Nat) (a b : Nat) : ∀ l : List α, (l.map fun x => a + b * g x).sum = a * l.length + b * (l.map g).sum
  | [] => by simp
  | x :: l => by
    have := sum_lin g a b l
    simp only [List.map_cons, List.sum_cons, List.length_cons, this, Nat.mul_add]
    omega
theorem join_le2 {xs : List (List UInt8)} {sep : List UInt8} : (Lib.join xs sep).length ≤ sep.length * xs.length + Lib.lens xs := by
  cases xs with
  | nil => rw [Lib.join_nil]; simp [Lib.lens]
  | cons y xs =>
    have e := Lib.join_length y xs sep
    rw [e, List.length_cons, Nat.mul_add]
    omega

theorem text_le {s t f : TypeId} (hi : ∀ n : Int, -4611686018427387904 ≤ n → n ≤ 4611686018427387904 → (Lib.itoa n).length ≤ 20) : ∀ {d : Nat} {x : E}, Ful s t f d x → (textS d x).length ≤ 60 * sizT d x
  | 0, _, h => by cases h
  | d + 1, x, h => by
    rcases h with ⟨mn, mx, rfl, h1, h2, h3⟩ | ⟨mn, mx, rfl, h1, h2, h3⟩ | rfl | ⟨os, rfl, h1, h2, h3, h4⟩ | ⟨mn, mx, y, rfl, h1, h2, h3, h4⟩ | ⟨gs, rfl, h1, h2, h3⟩ | rfl
    · have e : textS (d + 1) (mkT s t f 1 mn mx [] [] []) = if mn = -4611686018427387904 ∧ mx = 4611686018427387904 then [105, 110, 116] else [105, 110, 116, 32] ++ (Lib.itoa mn ++ [46, 46] ++ Lib.itoa mx) := rfl
      have a1 := hi mn (by omega) (by omega)
      have a2 := hi mx (by omega) (by omega)
      rw [e]
      show _ ≤ 60 * (1 + 0 + 0 + 0 + 0 + 0)
      split
      · simp
      · simp only [List.length_append, List.length_cons, List.length_nil]; omega
    · have e : textS (d + 1) (mkT s t f 2 mn mx [] [] []) = if mn = 0 ∧ mx = 256 then [116, 101, 120, 116] else [116, 101, 120, 116, 32] ++ (Lib.itoa mn ++ [46, 46] ++ Lib.itoa mx) := rfl
      have a1 := hi mn (by omega) (by omega)
      have a2 := hi mx (by omega) (by omega)
      rw [e]
      show _ ≤ 60 * (1 + 0 + 0 + 0 + 0 + 0)
      split
      · simp
      · simp only [List.length_append, List.length_cons, List.length_nil]; omega
    · show 4 ≤ 60 * (1 + 0 + 0 + 0 + 0 + 0)
      omega
    · have e : textS (d + 1) (mkT s t f 4 0 0 os [] []) = [101, 110, 117, 109, 40] ++ Lib.join (os.map nmE) [124] ++ [41] := rfl
      have a1 := join_le2 (xs := os.map nmE) (sep := [124])
      have a2 := lens_sum (l := os) (f := nmE) (g := fun _ => 16 + 0 * 0) (fun o ho => by obtain ⟨n, rfl, _, hn⟩ := h4 o ho; exact hn)
      have a3 := sum_lin (fun _ : E => 0) 16 0 os
      rw [a3] at a2
      rw [e]
      show _ ≤ 60 * (1 + os.length + 0 + 0 + 0 + 0)
      simp only [List.length_append, List.length_cons, List.length_nil, List.length_map] at a1 ⊢
      omega
    · have e : textS (d + 1) (mkT s t f 5 mn mx [] [y] []) = [108, 105, 115, 116, 32] ++ (Lib.itoa mn ++ [46, 46] ++ Lib.itoa mx) ++ [32, 111, 102, 32] ++ textS d y := rfl
      have a1 := hi mn (by omega) (by omega)
      have a2 := hi mx (by omega) (by omega)
      have a3 := text_le hi h4
      rw [e]
      show _ ≤ 60 * (1 + 0 + 0 + 1 + (sizT d y + 0) + 0)
      simp only [List.length_append, List.length_cons, List.length_nil]
      omega
    · have e : textS (d + 1) (mkT s t f 6 0 0 [] [] gs) = [123] ++ Lib.join (gs.map (fldS (textS d))) [44, 32] ++ [125] := rfl
      have a1 := join_le2 (xs := gs.map (fldS (textS d))) (sep := [44, 32])
      have a2 := lens_sum (l := gs) (f := fldS (textS d)) (g := fun g => 19 + 60 * sizT d (fieldTy g)) (fun g hg => by
        obtain ⟨n, o, y, rfl, _, hn, hy⟩ := h3 g hg
        have a3 := text_le hi hy
        rw [← hy.fieldTy (n := n) (o := o)] at a3
        have e2 : fldS (textS d) (mkF n o y) = n ++ (if o = true then [63] else []) ++ [58, 32] ++ textS d (fieldTy (mkF n o y)) := rfl
        rw [e2]
        have : (if o = true then [63] else [] : List UInt8).length ≤ 1 := by split <;> simp
        simp only [List.length_append, List.length_cons, List.length_nil]
        omega)
      have a3 := sum_lin (fun g => sizT d (fieldTy g)) 19 60 gs
      rw [a3] at a2
      rw [e]
      show _ ≤ 60 * (1 + 0 + gs.length + 0 + 0 + (gs.map fun g => sizT d (fieldTy g)).sum)
      simp only [List.length_append, List.length_cons, List.length_nil, List.length_map] at a1 ⊢
      omega
    · show 3 ≤ 60 * (1 + 0 + 0 + 0 + 0 + 0)
      omega
end Go.Den

