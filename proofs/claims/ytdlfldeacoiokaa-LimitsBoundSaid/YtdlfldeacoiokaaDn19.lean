/- What an operation reads and turns of the objects: elsewhere they may be anything; and two operations that have nothing in common may change places. -/
import Derived.Test.YtdlfldeacoiokaaDn18
import Derived.Orders
namespace Go.Den
open Go

/-! ### Updates -/

/-- An update of objects, and objects made at the end. -/
def patch (pat : Nat → Option Ob) (e : List Ob) (σ : Heap) : Heap := (σ.zipIdx.map fun p => (pat p.2).getD p.1) ++ e

section
variable {pat pat' : Nat → Option Ob} {e : List Ob} {σ τ : Heap} {i : Nat}
theorem patch_len : (patch pat e σ).length = σ.length + e.length := by simp [patch]
theorem patch_lt (h : i < σ.length) : (patch pat e σ)[i]? = (σ[i]?).map fun o => (pat i).getD o := by
  unfold patch
  rw [List.getElem?_append_left (by simpa using h), zipIdx_map_get]
theorem patch_ge (h : σ.length ≤ i) : (patch pat e σ)[i]? = e[i - σ.length]? := by
  unfold patch
  rw [List.getElem?_append_right (by simpa using h)]
  simp

/-- No update. -/
def nopat : Nat → Option Ob := fun _ => none
theorem patch_nop : patch nopat [] σ = σ := by
  apply List.ext_getElem?
  intro i
  rcases Nat.lt_or_ge i σ.length with h | h
  · rw [patch_lt h]; cases σ[i]? <;> rfl
  · rw [patch_ge h, List.getElem?_eq_none h]; simp

def single (k : Nat) (o : Ob) : Nat → Option Ob := fun i => if i = k then some o else none
theorem set_patch {k : Nat} {o : Ob} : σ.set k o = patch (single k o) [] σ := by
  apply List.ext_getElem?
  intro i
  rcases Nat.lt_or_ge i σ.length with h | h
  · rw [patch_lt h, List.getElem?_set]
    unfold single
    split
    · rename_i e; subst e; simp [h]
    · rename_i e; rw [if_neg (fun e' => e e'.symm)]; cases σ[i]? <;> rfl
  · rw [patch_ge h, List.getElem?_eq_none (by simpa using h)]; simp

def over (p2 p1 : Nat → Option Ob) : Nat → Option Ob := fun i => match p2 i with | some o => some o | none => p1 i
theorem patch_comp {p1 p2 : Nat → Option Ob} : patch p2 [] (patch p1 [] σ) = patch (over p2 p1) [] σ := by
  apply List.ext_getElem?
  intro i
  rcases Nat.lt_or_ge i σ.length with h | h
  · rw [patch_lt (by simpa [patch_len] using h), patch_lt h, patch_lt h, Option.map_map]
    unfold over
    cases σ[i]? with
    | none => rfl
    | some o => simp only [Option.map_some, Function.comp]; cases p2 i <;> rfl
  · rw [patch_ge (by simpa [patch_len] using h), patch_ge h]; simp
end

/-- A step on objects that reads 'rd', turns 'wr', and asks for the number of objects where 'dep' holds. -/
def Local (rd wr : List Nat) (dep : Bool) (σ σ' : Heap) (D : Heap → Heap → Prop) : Prop :=
  ∃ (pat : Nat → Option Ob) (e : List Ob), (∀ i, pat i ≠ none → i ∈ wr) ∧ (e ≠ [] → dep = true) ∧ σ' = patch pat e σ ∧
    ∀ τ : Heap, (∀ i, i ∈ rd ∨ i ∈ wr → τ[i]? = σ[i]?) → (dep = true → τ.length = σ.length) → D τ (patch pat e τ)

theorem Local.still {rd wr : List Nat} {dep : Bool} {σ : Heap} {D : Heap → Heap → Prop} (h : ∀ τ : Heap, (∀ i, i ∈ rd ∨ i ∈ wr → τ[i]? = σ[i]?) → D τ τ) : Local rd wr dep σ σ D :=
  ⟨nopat, [], fun i hi => absurd rfl hi, fun h => absurd rfl h, patch_nop.symm, fun τ ht _ => by rw [patch_nop]; exact h τ ht⟩

theorem Local.mono {rd wr : List Nat} {dep : Bool} {σ σ' : Heap} {D D' : Heap → Heap → Prop} (h : Local rd wr dep σ σ' D) (hd : ∀ τ τ', (∀ i, i ∈ rd ∨ i ∈ wr → τ[i]? = σ[i]?) → D τ τ' → D' τ τ') : Local rd wr dep σ σ' D' :=
  let ⟨pat, e, h1, h2, h3, h4⟩ := h
  ⟨pat, e, h1, h2, h3, fun τ ht hl => hd τ _ ht (h4 τ ht hl)⟩

theorem Local.set {id : Nat} {ob : Ob} {dep : Bool} {σ : Heap} {D : Heap → Heap → Prop} (h : ∀ τ : Heap, τ[id]? = σ[id]? → D τ (τ.set id ob)) : Local [] [id] dep σ (σ.set id ob) D := by
  refine ⟨single id ob, [], fun i hi => ?_, fun h => absurd rfl h, set_patch, fun τ ht _ => ?_⟩
  · unfold single at hi
    split at hi
    · rename_i e; simp [e]
    · exact absurd rfl hi
  · rw [← set_patch]
    exact h τ (ht id (.inr (by simp)))

theorem fillAt_local {σ σ' : Heap} {k : Nat} {ob : Ob} (h : fillAt σ k ob = some σ') : σ' = patch (single k ob) [] σ ∧ ∀ τ : Heap, τ[k]? = σ[k]? → fillAt τ k ob = some (patch (single k ob) [] τ) := by
  obtain ⟨h1, h2⟩ := fillAt_spec h
  refine ⟨by rw [h2, set_patch], fun τ ht => ?_⟩
  unfold fillAt
  rw [ht, h1]
  simp only [set_patch]

theorem nilsOf_cons (v : AV) (cs : List AV) : nilsOf (v :: cs) = nilsOf cs + (match v with | .nils _ => 1 | _ => 0) := by
  unfold nilsOf
  rw [List.countP_cons]
  cases v <;> simp

theorem promote_local : ∀ (cs : List AV) {k : Nat} {σ σ' : Heap} {cs' : List AV}, promote cs k σ = some (cs', σ') →
    ∃ pat, (∀ i, pat i ≠ none → i ∈ List.range' k (nilsOf cs)) ∧ σ' = patch pat [] σ ∧ ∀ τ : Heap, (∀ i ∈ List.range' k (nilsOf cs), τ[i]? = σ[i]?) → promote cs k τ = some (cs', patch pat [] τ)
  | [], k, σ, σ', cs', h => by
    injection h with h; injection h with h1 h2; subst h1; subst h2
    exact ⟨nopat, fun i hi => absurd rfl hi, patch_nop.symm, fun τ _ => by rw [patch_nop]; rfl⟩
  | v :: cs, k, σ, σ', cs', h => by
    by_cases hv : ∃ t, v = .nils t
    · obtain ⟨t, rfl⟩ := hv
      have hn : nilsOf (.nils t :: cs) = nilsOf cs + 1 := nilsOf_cons _ _
      simp only [promote] at h
      split at h
      · rename_i σ1 hfill
        obtain ⟨⟨q1, q2⟩, hp, h⟩ := Option.map_eq_some_iff.1 h
        injection h with h1 h2; subst h1; subst h2
        obtain ⟨f1, f2⟩ := fillAt_local hfill
        obtain ⟨pat, p1, p2, p3⟩ := promote_local cs hp
        refine ⟨over pat (single k (.vec t 0)), fun i hi => ?_, by simp only [p2, f1, patch_comp], fun τ ht => ?_⟩
        · rw [hn, List.mem_range'_1]
          unfold over single at hi
          cases hpi : pat i with
          | some o => have := List.mem_range'_1.1 (p1 i (by rw [hpi]; simp)); omega
          | none =>
            rw [hpi] at hi
            simp only at hi
            split at hi
            · omega
            · exact absurd rfl hi
        · have hk := ht k (by rw [hn, List.mem_range'_1]; omega)
          simp only [promote, f2 τ hk]
          rw [p3 (patch (single k (.vec t 0)) [] τ) (fun i hi => ?_)]
          · simp only [Option.map_some, patch_comp]
          · have hi' := List.mem_range'_1.1 hi
            have hti := ht i (by rw [hn, List.mem_range'_1]; omega)
            rw [f1]
            rcases Nat.lt_or_ge i τ.length with hl | hl
            · have hl' : i < σ.length := by
                rcases Nat.lt_or_ge i σ.length with h | h
                · exact h
                · rw [List.getElem?_eq_none h, List.getElem?_eq_none_iff] at hti; omega
              rw [patch_lt hl, patch_lt hl', hti]
            · have hl' : σ.length ≤ i := by
                rw [List.getElem?_eq_none hl] at hti
                exact List.getElem?_eq_none_iff.1 hti.symm
              rw [patch_ge hl, patch_ge hl']; simp
      · cases h
    · have hpo : ∀ τ : Heap, promote (v :: cs) k τ = (promote cs k τ).map fun q => (v :: q.1, q.2) := fun τ => by
        cases v <;> first | rfl | exact absurd ⟨_, rfl⟩ hv
      rw [hpo] at h
      obtain ⟨⟨q1, q2⟩, hp, h⟩ := Option.map_eq_some_iff.1 h
      injection h with h1 h2; subst h1; subst h2
      obtain ⟨pat, p1, p2, p3⟩ := promote_local cs hp
      have hn : nilsOf (v :: cs) = nilsOf cs := by
        rw [nilsOf_cons]
        cases v <;> first | rfl | exact absurd ⟨_, rfl⟩ hv
      refine ⟨pat, fun i hi => by rw [hn]; exact p1 i hi, p2, fun τ ht => ?_⟩
      rw [hn] at ht
      rw [hpo, p3 τ ht]; rfl

section
variable {P : Program} {ops : List Oper} {fr : Fr} {σ σ' : Heap} {k : Nat} {o : Oper} {v : AV}

theorem patch_get_other {pat : Nat → Option Ob} {e : List Ob} {i : Nat} (hp : pat i = none) (h : i < σ.length ∨ e = []) : (patch pat e σ)[i]? = σ[i]? := by
  rcases Nat.lt_or_ge i σ.length with hl | hl
  · rw [patch_lt hl, hp]; cases σ[i]? <;> rfl
  · rcases h with h | h
    · omega
    · subst h; rw [patch_ge hl, List.getElem?_eq_none hl]; simp

theorem evalHeap_local (h : evalHeap P ops fr σ k o = some (true, v, σ')) (hp : evalPure P ops fr o = none) : Local (footOf P ops fr σ k o).rd (footOf P ops fr σ k o).wr false σ σ' fun τ τ' => evalHeap P ops fr τ k o = some (true, v, τ') := by
  unfold evalHeap at h
  split at h
  · -- box
    rename_i t x hop
    split at h
    · rename_i u n hu hn
      split at h
      · rename_i hc
        split at h
        · rename_i cs σ1 hpr
          obtain ⟨σ2, hfill, h⟩ := Option.map_eq_some_iff.1 h
          injection h with _ h; injection h with h1 h2; subst h1; subst h2
          obtain ⟨pat, p1, p2, p3⟩ := promote_local _ hpr
          obtain ⟨f1, f2⟩ := fillAt_local hfill
          have hf : footOf P ops fr σ k o = ⟨[], List.range' k (1 + nilsOf u.cells), false, false⟩ := by simp only [footOf, hop, hu]
          rw [hf]
          have hpk : pat k = none := by
            cases hpk : pat k with
            | none => rfl
            | some q => have := List.mem_range'_1.1 (p1 k (by rw [hpk]; simp)); omega
          refine ⟨over (single k (.box cs)) pat, [], fun i hi => ?_, fun h => absurd rfl h, by rw [f1, p2, patch_comp], fun τ ht _ => ?_⟩
          · rw [List.mem_range'_1]
            unfold over single at hi
            split at hi
            · rename_i hs; split at hs
              · omega
              · cases hs
            · have := List.mem_range'_1.1 (p1 i hi); omega
          · have e1 := p3 τ fun i hi => ht i (.inr (List.mem_range'_1.2 (by have := List.mem_range'_1.1 hi; omega)))
            have e2 := f2 (patch pat [] τ) (by
              rw [p2, patch_get_other hpk (.inr rfl), patch_get_other hpk (.inr rfl)]
              exact ht k (.inr (List.mem_range'_1.2 (by omega))))
            unfold evalHeap
            simp only [hop, hu, hn, if_pos hc, e1, e2, Option.map_some, patch_comp]
        · cases h
      · cases h
    · cases h
  · -- alloc
    rename_i t hop
    split at h
    · rename_i u hu
      split at h
      · rename_i cs σ1 hpr
        obtain ⟨σ2, hfill, h⟩ := Option.map_eq_some_iff.1 h
        injection h with _ h; injection h with h1 h2; subst h1; subst h2
        obtain ⟨pat, p1, p2, p3⟩ := promote_local _ hpr
        obtain ⟨f1, f2⟩ := fillAt_local hfill
        have hf : footOf P ops fr σ k o = ⟨[], List.range' k (1 + nilsOf u.cells), false, false⟩ := by simp only [footOf, hop, hu]
        rw [hf]
        have hpk : pat k = none := by
          cases hpk : pat k with
          | none => rfl
          | some q => have := List.mem_range'_1.1 (p1 k (by rw [hpk]; simp)); omega
        refine ⟨over (single k (.box cs)) pat, [], fun i hi => ?_, fun h => absurd rfl h, by rw [f1, p2, patch_comp], fun τ ht _ => ?_⟩
        · rw [List.mem_range'_1]
          unfold over single at hi
          split at hi
          · rename_i hs; split at hs
            · omega
            · cases hs
          · have := List.mem_range'_1.1 (p1 i hi); omega
        · have e1 := p3 τ fun i hi => ht i (.inr (List.mem_range'_1.2 (by have := List.mem_range'_1.1 hi; omega)))
          have e2 := f2 (patch pat [] τ) (by
            rw [p2, patch_get_other hpk (.inr rfl), patch_get_other hpk (.inr rfl)]
            exact ht k (.inr (List.mem_range'_1.2 (by omega))))
          unfold evalHeap
          simp only [hop, hu, e1, e2, Option.map_some, patch_comp]
      · cases h
    · cases h
  · -- buildSlice
    rename_i t len parts hop
    split at h
    · cases h
    · rename_i hsp
      split at h
      · rename_i et xs hq
        obtain ⟨σ1, hfill, h⟩ := Option.map_eq_some_iff.1 h
        injection h with _ h; injection h with h1 h2; subst h1; subst h2
        obtain ⟨f1, f2⟩ := fillAt_local hfill
        have hf : footOf P ops fr σ k o = ⟨[], [k], false, false⟩ := by simp only [footOf, hop, if_neg hsp]
        rw [hf]
        refine ⟨single k (.vec et xs.length), [], fun i hi => ?_, fun h => absurd rfl h, f1, fun τ ht _ => ?_⟩
        · unfold single at hi; split at hi
          · rename_i e; simp [e]
          · exact absurd rfl hi
        · unfold evalHeap
          simp only [hop, if_neg hsp, hq, f2 τ (ht k (.inr (by simp))), Option.map_some]
      · cases h
  · -- load
    rename_i t x hop
    split at h
    · rename_i id off hx
      split at h
      · rename_i cs n hb hn
        have hf : footOf P ops fr σ k o = ⟨[id], [], false, false⟩ := by simp only [footOf, hop, hx]
        rw [hf]
        have key : ∀ τ : Heap, τ[id]? = σ[id]? → evalHeap P ops fr τ k o = (if off + n ≤ cs.length then if isAggB P t then some (true, .agg ((cs.drop off).take n), τ) else if n = 1 then (cs[off]?).map fun v => (true, v, τ) else none else none) := fun τ ht => by
          unfold evalHeap
          simp only [hop, hx, ht, hb, hn]
        split at h
        · rename_i hl
          split at h
          · rename_i ha
            injection h with h; injection h with _ h; injection h with h1 h2; subst h1; subst h2
            exact Local.still fun τ ht => by rw [key τ (ht id (.inl (by simp))), if_pos hl, if_pos ha]
          · rename_i ha
            split at h
            · rename_i h1n
              obtain ⟨u, hu, h⟩ := Option.map_eq_some_iff.1 h
              injection h with _ h; injection h with h1 h2; subst h1; subst h2
              exact Local.still fun τ ht => by rw [key τ (ht id (.inl (by simp))), if_pos hl, if_neg ha, if_pos h1n, hu]; rfl
            · cases h
        · cases h
      · cases h
    · cases h
  · -- store
    rename_i t x y hop
    split at h
    · rename_i id off u n hx hy hn
      split at h
      · rename_i cs hb
        split at h
        · rename_i hc
          obtain ⟨⟨pc, σ1⟩, hpr, h⟩ := Option.map_eq_some_iff.1 h
          injection h with _ h; injection h with h1 h2; subst h1; subst h2
          obtain ⟨pat, p1, p2, p3⟩ := promote_local _ hpr
          have hf : footOf P ops fr σ k o = ⟨[], id :: List.range' k (nilsOf u.cells), false, false⟩ := by simp only [footOf, hop, hx, hy]
          rw [hf]
          refine ⟨over (single id (.box (splice cs off pc))) pat, [], fun i hi => ?_, fun h => absurd rfl h, by simp only [set_patch, p2, patch_comp], fun τ ht _ => ?_⟩
          · unfold over single at hi
            split at hi
            · rename_i hs; split at hs
              · rename_i e; simp [e]
              · cases hs
            · exact List.mem_cons_of_mem _ (p1 i hi)
          · have e1 := p3 τ fun i hi => ht i (.inr (List.mem_cons_of_mem _ hi))
            have e2 := ht id (.inr (by simp))
            unfold evalHeap
            simp only [hop, hx, hy, hn, e2, hb, if_pos hc, e1, Option.map_some, set_patch, patch_comp]
        · cases h
      · cases h
    · cases h
  · -- range
    rename_i t x hop
    split at h
    · rename_i s ht hx
      obtain ⟨σ1, hfill, h⟩ := Option.map_eq_some_iff.1 h
      injection h with _ h; injection h with h1 h2; subst h1; subst h2
      obtain ⟨f1, f2⟩ := fillAt_local hfill
      have hf : footOf P ops fr σ k o = ⟨[], [k], false, false⟩ := by simp only [footOf, hop]
      rw [hf]
      refine ⟨single k (.raw (.iter s 0)), [], fun i hi => ?_, fun h => absurd rfl h, f1, fun τ ht' _ => ?_⟩
      · unfold single at hi; split at hi
        · rename_i e; simp [e]
        · exact absurd rfl hi
      · unfold evalHeap
        simp only [hop, ht, hx, f2 τ (ht' k (.inr (by simp))), Option.map_some]
    · cases h
  · -- append
    rename_i args ats hop
    split at h
    · rename_i t tx x y hats hargs
      split at h
      · rename_i et ht
        split at h
        · rename_i i fs s ys hi hfs hs hys
          split at h
          · rename_i hc
            split at h
            · rename_i et'
              split at h
              · rename_i he
                obtain ⟨σ1, hfill, h⟩ := Option.map_eq_some_iff.1 h
                injection h with h0 h; injection h with h1 h2; subst h1; subst h2
                obtain ⟨f1, f2⟩ := fillAt_local hfill
                have hno : ∀ id et xs, evalO fr x ≠ some (.own id et xs) := by
                  intro id et2 xs hx
                  unfold evalT at hs
                  split at hs <;> first | (cases hx; done) | (rw [hx] at hs; cases hs; done)
                have hf : footOf P ops fr σ k o = ⟨[], [k], false, false⟩ := by
                  simp only [footOf, hop, hp, hargs]
                rw [hf]
                refine ⟨single k (.vec et ys.length), [], fun i hi => ?_, fun h => absurd rfl h, f1, fun τ ht' _ => ?_⟩
                · unfold single at hi; split at hi
                  · rename_i e; simp [e]
                  · exact absurd rfl hi
                · unfold evalHeap
                  simp only [hop, hats, hargs, ht, hi, hfs, hs, hys, if_pos hc, if_pos he, f2 τ (ht' k (.inr (by simp))), Option.map_some, h0]
              · cases h
            · rename_i id et' xs
              split at h
              · rename_i et'' n hv
                split at h
                · rename_i he
                  injection h with h; injection h with h0 h; injection h with h1 h2; subst h1; subst h2
                  have hx : evalO fr x = some (.own id et' xs) := by
                    unfold evalT at hs
                    split at hs
                    · split at hs
                      · split at hs <;> cases hs
                      · cases hs
                    · exact hs
                  have hf : footOf P ops fr σ k o = ⟨[], [id], false, false⟩ := by simp only [footOf, hop, hp, hargs, hx]
                  rw [hf]
                  refine ⟨single id (.vec et (xs ++ ys).length), [], fun i hi => ?_, fun h => absurd rfl h, set_patch, fun τ ht' _ => ?_⟩
                  · unfold single at hi; split at hi
                    · rename_i e; simp [e]
                    · exact absurd rfl hi
                  · have e2 := ht' id (.inr (by simp))
                    unfold evalHeap
                    simp only [hop, hats, hargs, ht, hi, hfs, hs, hys, if_pos hc, e2, hv, if_pos he, set_patch, h0]
                · cases h
              · cases h
            · cases h
          · cases h
        · cases h
      · cases h
    · cases h
  · cases h
end

theorem closure_local {σ τ : Heap} : ∀ (n : Nat) (ids : List Nat), (∀ i ∈ closure σ n ids, τ[i]? = σ[i]?) → closure τ n ids = closure σ n ids
  | 0, _, _ => rfl
  | n + 1, ids, h => by
    unfold closure at h ⊢
    have hsame : ids.flatMap (idsAt τ) = ids.flatMap (idsAt σ) := by
      have : ∀ l : List Nat, (∀ i ∈ l, i ∈ ids) → l.flatMap (idsAt τ) = l.flatMap (idsAt σ) := by
        intro l
        induction l with
        | nil => intro _; rfl
        | cons a l ih =>
          intro hl
          simp only [List.flatMap_cons]
          have e : τ[a]? = σ[a]? := by
            refine h a ?_
            obtain ⟨t, ht⟩ := addNew_prefix (ids.flatMap (idsAt σ)) ids
            exact closure_mem _ _ _ _ (by rw [ht]; simp [hl a (by simp)])
          rw [ih fun i hi => hl i (by simp [hi])]
          unfold idsAt
          rw [e]
      exact this ids fun _ h => h
    rw [hsame]
    exact closure_local n _ h

theorem mapM_congr {α β : Type} {f g : α → Option β} : ∀ {l : List α}, (∀ x ∈ l, f x = g x) → l.mapM f = l.mapM g
  | [], _ => rfl
  | x :: l, h => by rw [List.mapM_cons, List.mapM_cons, h x (by simp), mapM_congr fun y hy => h y (by simp [hy])]

theorem subHeap_local {σ τ : Heap} {ids : List Nat} (h : ∀ i ∈ ids, τ[i]? = σ[i]?) : subHeap τ ids = subHeap σ ids := by
  unfold subHeap
  exact mapM_congr fun i hi => by rw [h i hi]

/-- What comes back of a call, as an update. -/
def backPat (ids : List Nat) (h : Heap) (n : Nat) : Nat → Option Ob := fun i => if ids.contains i then some ((Heap.ob h (idx ids i)).ren (renum ids n)) else none
theorem backTo_patch {ids : List Nat} {h σ : Heap} : backTo ids h σ = patch (backPat ids h σ.length) ((h.drop ids.length).map (Ob.ren (renum ids σ.length))) σ := by
  unfold backTo patch
  congr 1
  apply List.map_congr_left
  rintro ⟨o, i⟩ _
  unfold backPat
  simp only
  split <;> rfl

section
variable {P : Program} {H : Hints} {run : RunF} {ops : List Oper} {fr : Fr} {σ σ' : Heap} {k : Nat} {o : Oper} {v : AV}

theorem CallOut_local {f : FuncId} {as : List AV} (h : CallOut H run f as σ (.ret v σ')) :
    Local [] (closure σ 6 (addNew [] ((as.map AV.calm).flatMap AV.ids2))) true σ σ' fun τ τ' => CallOut H run f as τ (.ret v τ') := by
  obtain ⟨ids, σc, q, h', hids, hs, hrun, hlen, hout⟩ := h
  rcases hout with ⟨u, v', rfl, hw, hout⟩ | ⟨x, _, hout⟩
  case inr => cases hout
  injection hout with h1 h2
  subst h1; subst h2
  rw [← hids]
  refine ⟨backPat ids h' σ.length, _, fun i hi => ?_, fun _ => rfl, backTo_patch, fun τ ht hl => ?_⟩
  · unfold backPat at hi
    split at hi
    · rename_i hc; simpa using hc
    · exact absurd rfl hi
  · have hl := hl rfl
    have ht' : ∀ i ∈ ids, τ[i]? = σ[i]? := fun i hi => ht i (.inr hi)
    have e1 : ids = closure τ 6 (addNew [] ((as.map AV.calm).flatMap AV.ids2)) := by
      rw [closure_local 6 _ (fun i hi => ht' i (by rw [hids]; exact hi))]; exact hids
    refine ⟨ids, σc, .ret u, h', e1, by rw [subHeap_local ht']; exact hs, hrun, hlen, .inl ⟨u, v', rfl, hw, ?_⟩⟩
    rw [hl, backTo_patch, hl]

theorem Pans_local {x : E} (h : Pans P H run o fr σ x σ') : ∃ wr, Local [] wr true σ σ' fun τ τ' => Pans P H run o fr τ x τ' := by
  cases h with
  | panic y t u h hx => exact ⟨[], Local.still fun τ _ => .panic y t u h hx⟩
  | call c f as x σ' h hc ho =>
    obtain ⟨ids, σc, q, h', hids, hs, hrun, hlen, hout⟩ := ho
    rcases hout with ⟨u, v', _, hw, hout⟩ | ⟨x', rfl, hout⟩
    case inl => cases hout
    injection hout with h1 h2
    subst h1; subst h2
    refine ⟨ids, backPat ids h' σ.length, _, fun i hi => ?_, fun _ => rfl, backTo_patch, fun τ ht hl => ?_⟩
    · unfold backPat at hi
      split at hi
      · rename_i hc; simpa using hc
      · exact absurd rfl hi
    · have hl := hl rfl
      have ht' : ∀ i ∈ ids, τ[i]? = σ[i]? := fun i hi => ht i (.inr hi)
      have e1 : ids = closure τ 6 (addNew [] ((as.map AV.calm).flatMap AV.ids2)) := by
        rw [closure_local 6 _ (fun i hi => ht' i (by rw [hids]; exact hi))]; exact hids
      refine .call c f as x _ h hc ⟨ids, σc, .pan x, h', e1, by rw [subHeap_local ht']; exact hs, hrun, hlen, .inr ⟨x, rfl, ?_⟩⟩
      rw [← hl, ← backTo_patch]

theorem footOf_op (hb : ∀ c, o.op = .call c → ∃ b, c.callee = .builtin b) (τ : Heap) : footOf P ops fr τ k o = footOf P ops fr σ k o := by
  unfold footOf
  split
  · rename_i c hop
    obtain ⟨b, hb⟩ := hb c hop
    simp only [hb]
  all_goals rfl

theorem footOf_call {c : Call} {f : FuncId} {as : List AV} (h : o.op = .call c) (hc : callOf P fr c = some (f, as)) :
    footOf P ops fr σ k o = ⟨[], closure σ 6 (addNew [] ((as.map AV.calm).flatMap AV.ids2)), false, true⟩ := by
  obtain ⟨ce, args, ats⟩ := c
  cases ce with
  | builtin b =>
    exfalso
    unfold callOf at hc
    split at hc
    · split at hc
      · cases hc
      · cases hc
    · cases hc
  | value f => simp only [footOf, h, hc]
  | invoke r m => simp only [footOf, h, hc]

theorem Does.local (h : Does P H run ops o fr σ k v σ') : Local (footOf P ops fr σ k o).rd (footOf P ops fr σ k o).wr (footOf P ops fr σ k o).dep σ σ' fun τ τ' =>
    Does P H run ops o fr τ k v τ' ∧ footOf P ops fr τ k o = footOf P ops fr σ k o := by
  cases h with
  | op v σ' h hb =>
    unfold evalOp at h
    split at h
    · rename_i b v' hp
      injection h with h; injection h with h0 h; injection h with h1 h2; subst h0; subst h1; subst h2
      exact Local.still fun τ _ => ⟨.op _ _ (by unfold evalOp; rw [hp]) hb, footOf_op hb τ⟩
    · rename_i hp
      obtain ⟨pat, e, h1, h2, h3, h4⟩ := evalHeap_local h hp
      exact ⟨pat, e, h1, fun he => (by have := h2 he; cases this), h3, fun τ ht _ => ⟨.op _ _ (by unfold evalOp; rw [hp]; exact h4 τ ht (fun h => by cases h)) hb, footOf_op hb τ⟩⟩
  | call c f as v σ' h hc ho =>
    have hf : ∀ τ : Heap, footOf P ops fr τ k o = ⟨[], closure τ 6 (addNew [] ((as.map AV.calm).flatMap AV.ids2)), false, true⟩ := fun τ => footOf_call h hc
    have hl := CallOut_local ho
    simp only [hf]
    generalize hcl : closure σ 6 (addNew [] ((as.map AV.calm).flatMap AV.ids2)) = cl at hl ⊢
    refine hl.mono fun τ τ' ht hd => ⟨.call c f as v τ' h hc hd, ?_⟩
    have := closure_local (σ := σ) (τ := τ) 6 (addNew [] ((as.map AV.calm).flatMap AV.ids2)) fun i hi => ht i (.inr (by rw [hcl] at hi; exact hi))
    rw [this, hcl]
  | more x id s p q h hx hs hp hq =>
    have hf : ∀ τ : Heap, footOf P ops fr τ k o = ⟨[], [id], false, false⟩ := fun τ => by simp only [footOf, h, hx]
    rw [hf σ]
    exact Local.set fun τ ht => ⟨.more x id s p q h hx (ht.trans hs) hp hq, hf τ⟩
  | over x id s p h hx hs hp =>
    have hf : ∀ τ : Heap, footOf P ops fr τ k o = ⟨[], [id], false, false⟩ := fun τ => by simp only [footOf, h, hx]
    rw [hf σ]
    exact Local.still fun τ ht => ⟨.over x id s p h hx ((ht id (.inr (by simp))).trans hs) hp, hf τ⟩
end
end Go.Den
