/- Regions that draw their order. -/
import Derived.Test.YtdlfldeacoiokaaDen17
import Derived.Orders
namespace Go.Den
open Go

abbrev Vals := List (Option Nat × AV)

/-- What a guard holds. -/
def GuardIs (vals : Vals) (fr : Fr) (o : Oper) (j : Nat) (x : AV) (d : Nat) : Prop := waits o j = true ∧ vals[j]? = some (some d, x) ∧ d < fr.length

/-- One operation of such a region, by what it may look at. -/
def StepOk (C : Ctx) (ops : List Oper) (vals : Vals) (fr : Fr) (σ : Heap) (o : Oper) (v : AV) : Prop :=
  (∃ j w0 d, o.guard = some (j, w0) ∧ v = .tup [] ∧ (GuardIs vals fr o j (.tup []) d ∨ ∃ b, GuardIs vals fr o j (.e (.bool b)) d ∧ b ≠ w0)) ∨
  ((o.guard = none ∨ ∃ j w0 d, o.guard = some (j, w0) ∧ GuardIs vals fr o j (.e (.bool w0)) d) ∧
    ((∃ σ', evalOp C.P true ops (envOf vals fr o) σ o = some (true, v, σ')) ∨
      ∃ f args ats as σ', o.op = .call { callee := .value (.func f), args := args, argTypes := ats } ∧ ((args.toList.zip ats.toList).mapM fun (x, t) => evalT C.P t (envOf vals fr o) x) = some as ∧
        args.size = ats.size ∧ CallOut C f as [] (.ret v σ')))

theorem set_same {α : Type} {l : List α} {j : Nat} {x : α} (h : l[j]? = some x) : l.set j x = l := by
  apply List.ext_getElem?
  intro i
  rw [List.getElem?_set]
  split
  · rename_i e
    subst e
    split
    · exact h.symm
    · rename_i hl; rw [List.getElem?_eq_none (by omega)] at h; cases h
  · rfl

theorem denStill_inv {R : Type} {C : Ctx} {ops : List Oper} {σ : Heap} {fr : Fr} {K : Fr → Option R} {r : R} : ∀ (l : List Oper) (vals : Vals), denStill C ops l vals fr σ K = some r →
    ∃ vs : Vals, vs.length = l.length ∧ (∀ (k : Nat) (o : Oper), l[k]? = some o → ∃ v, vs[k]? = some (o.dst, v) ∧ StepOk C ops (vals ++ vs.take k) fr σ o v) ∧
      K ((vals ++ vs).foldl (fun f p => put f p.1 p.2) fr) = some r
  | [], vals, h => ⟨[], rfl, by simp, by simpa [denStill] using h⟩
  | o :: rest, vals, h => by
    have hnext : ∀ v, StepOk C ops vals fr σ o v → denStill C ops rest (vals ++ [(o.dst, v)]) fr σ K = some r →
        ∃ vs : Vals, vs.length = (o :: rest).length ∧ (∀ (k : Nat) (o' : Oper), (o :: rest)[k]? = some o' → ∃ v, vs[k]? = some (o'.dst, v) ∧ StepOk C ops (vals ++ vs.take k) fr σ o' v) ∧
          K ((vals ++ vs).foldl (fun f p => put f p.1 p.2) fr) = some r := by
      intro v hv hk
      obtain ⟨vs, h1, h2, h3⟩ := denStill_inv rest _ hk
      refine ⟨(o.dst, v) :: vs, by simp [h1], ?_, by simpa using h3⟩
      intro k o' hk
      cases k with
      | zero => simp at hk; subst hk; exact ⟨v, rfl, by simpa using hv⟩
      | succ k =>
        obtain ⟨u, h4, h5⟩ := h2 k o' (by simpa using hk)
        exact ⟨u, by simpa using h4, by simpa using h5⟩
    have hgo : (o.guard = none ∨ ∃ j w0 d, o.guard = some (j, w0) ∧ GuardIs vals fr o j (.e (.bool w0)) d) →
        (match o.op with
          | .call { callee := .value (.func f), args, argTypes } =>
            match (args.toList.zip argTypes.toList).mapM fun (x, t) => evalT C.P t (envOf vals fr o) x with
            | some as => if args.size = argTypes.size then callK C o.type f as [] (fun v _ => denStill C ops rest (vals ++ [(o.dst, v)]) fr σ K) (fun _ _ => none) else none
            | none => none
          | _ =>
            match evalOp C.P true ops (envOf vals fr o) σ o with
            | some (ok, v, _) => cond ok (denStill C ops rest (vals ++ [(o.dst, v)]) fr σ K) none
            | none => none) = some r →
        ∃ vs : Vals, vs.length = (o :: rest).length ∧ (∀ (k : Nat) (o' : Oper), (o :: rest)[k]? = some o' → ∃ v, vs[k]? = some (o'.dst, v) ∧ StepOk C ops (vals ++ vs.take k) fr σ o' v) ∧
          K ((vals ++ vs).foldl (fun f p => put f p.1 p.2) fr) = some r := by
      intro hg h
      split at h
      · rename_i f args ats hop
        split at h
        · rename_i as has
          by_cases hs : args.size = ats.size
          · rw [if_pos hs] at h
            obtain ⟨out, hout, hk⟩ := callK_inv h
            cases out with
            | ret v σ' => exact hnext v (.inr ⟨hg, .inr ⟨f, args, ats, as, σ', hop, has, hs, hout⟩⟩) hk
            | pan x σ' => cases hk
          · rw [if_neg hs] at h; cases h
        · cases h
      · split at h
        · rename_i ok v σ' he
          cases ok with
          | false => cases h
          | true => exact hnext v (.inr ⟨hg, .inl ⟨σ', he⟩⟩) h
        · cases h
    unfold denStill at h
    simp only at h
    split at h
    · rename_i j w0 hg
      split at h
      · rename_i hw
        split at h
        · rename_i d b hb
          split at h
          · rename_i hd
            cases hbw : (b == w0) with
            | true =>
              rw [hbw, cond_true] at h
              have : b = w0 := by simpa using hbw
              subst this
              rw [set_same hb] at h
              exact hgo (.inr ⟨j, b, d, hg, hw, hb, hd⟩) h
            | false =>
              rw [hbw, cond_false] at h
              have hne : b ≠ w0 := by simpa using hbw
              have : (!w0) = b := by cases b <;> cases w0 <;> simp at hne ⊢
              rw [this, set_same hb] at h
              exact hnext _ (.inl ⟨j, w0, d, hg, rfl, .inr ⟨b, ⟨hw, hb, hd⟩, hne⟩⟩) h
          · cases h
        · rename_i d hb
          split at h
          · rename_i hd
            exact hnext _ (.inl ⟨j, w0, d, hg, rfl, .inl ⟨hw, hb, hd⟩⟩) h
          · cases h
        · cases h
      · cases h
    · rename_i hg
      exact hgo (.inl hg) h

section
variable {P : Program} {σ : Heap} {ρ : Gr} {S : Cells} {w : World} {fr : Fr} {a : Act} {o : Oper}

/-- A slot that holds what is said. -/
def HasVal (P : Program) (σ : Heap) (ρ : Gr) (S : Cells) (w : World) (tm : Array Value) (p : Option Nat × AV) : Prop :=
  ∀ d, p.1 = some d → d < tm.size → ∃ cv, tm[d]? = some cv ∧ VA3 P σ ρ S w p.2 cv

theorem FR.say (hf : FR P σ ρ S w fr a.tmps) {p : Option Nat × AV} (hp : HasVal P σ ρ S w a.tmps p) : FR P σ ρ S w (Go.Den.put fr p.1 p.2) a.tmps := by
  obtain ⟨d, v⟩ := p
  cases d with
  | none => exact hf
  | some d =>
    refine ⟨by simp [Go.Den.put, hf.1], fun u x hu => ?_⟩
    simp only [Go.Den.put] at hu
    rw [List.getElem?_set] at hu
    split at hu
    · rename_i e
      subst e
      split at hu
      · rename_i hl
        injection hu with hu; subst hu
        exact hp d rfl (by rw [hf.1]; exact hl)
      · cases hu
    · exact hf.2 u x hu

theorem envOf_ok {vals : Vals} (hf : FR P σ ρ S w fr a.tmps) (h : ∀ e ∈ o.after, Region.binds .any e = true → ∀ p, vals[e.on]? = some p → HasVal P σ ρ S w a.tmps p) : FR P σ ρ S w (envOf vals fr o) a.tmps := by
  unfold envOf
  have h' : ∀ e ∈ o.after.toList, Region.binds .any e = true → ∀ p, vals[e.on]? = some p → HasVal P σ ρ S w a.tmps p := fun e he => h e (by simpa using he)
  generalize o.after.toList = es at h' ⊢
  induction es generalizing fr with
  | nil => exact hf
  | cons e es ih =>
    simp only [List.foldl_cons]
    refine ih ?_ fun e' he' => h' e' (by simp [he'])
    split
    · rename_i hb
      split
      · rename_i p hp
        exact hf.say (h' e (by simp) hb p hp)
      · exact hf
    · exact hf

theorem HasVal.mono {σ' : Heap} {ρ' : Gr} {S' : Cells} {w' : World} {tm : Array Value} {p : Option Nat × AV} (he : Ext σ ρ S w σ' ρ' S' w') (h : HasVal P σ ρ S w tm p) : HasVal P σ' ρ' S' w' tm p :=
  fun d h1 h2 => let ⟨cv, h3, h4⟩ := h d h1 h2; ⟨cv, h3, h4.mono he⟩

theorem actput_size (a : Act) (d : Option Tmp) (v : Value) : (a.put d v).tmps.size = a.tmps.size := by cases d <;> simp [Act.put]

theorem HasVal.other {p : Option Nat × AV} {d : Option Nat} {cv : Value} (hne : ∀ x, d = some x → p.1 ≠ some x) (h : HasVal P σ ρ S w a.tmps p) : HasVal P σ ρ S w (a.put d cv).tmps p := by
  intro x hx hl
  rw [actput_size] at hl
  obtain ⟨c, h1, h2⟩ := h x hx hl
  refine ⟨c, ?_, h2⟩
  rw [actput_ne]
  · exact h1
  · rintro rfl
    exact hne x rfl hx

theorem HasVal.self {d : Option Nat} {v : AV} {cv : Value} (h : VA3 P σ ρ S w v cv) : HasVal P σ ρ S w (a.put d cv).tmps (d, v) := by
  rintro x rfl hl
  rw [actput_size] at hl
  exact ⟨cv, by simp [Act.put, hl], h⟩

/-- An operation of such a region, carried out. -/
theorem step_wp {C : Ctx} (hrun : RunOk C.P C.run) {arr : Array Oper} {vals : Vals} {fr0 : Fr} {v : AV} {N : Act → World → Prop} {Q : Exit → Act → World → Prop}
    (hs : StepOk C arr.toList vals fr0 σ o v) (hr : Rel C.P σ ρ S w) (hf : FR C.P σ ρ S w (envOf vals fr0 o) a.tmps)
    (hG : ∀ (j d : Nat) (x : AV), GuardIs vals fr0 o j x d → dstOf arr.toList j = some d ∧ ∃ cv, a.tmps[d]? = some cv ∧ VA3 C.P σ ρ S w x cv)
    (hN : ∀ (cv : Value) (ρ' : Gr) (S' : Cells) (w' : World), Rel C.P σ ρ' S' w' → Ext σ ρ S w σ ρ' S' w' → VA3 C.P σ ρ' S' w' v cv → N (a.put o.dst cv) w') :
    if Region.wanted o (yielded arr a.tmps) then o.wp C.P a w N Q ∨ (o.asks C.P a w ∧ LetsOut Q) else N (a.put o.dst undef) w := by
  rcases hs with ⟨j, w0, d, hg, hv, hb⟩ | ⟨hg, hx⟩
  · have hw : Region.wanted o (yielded arr a.tmps) = false := by
      unfold Region.wanted
      rw [hg]
      rcases hb with hb | ⟨b, hb, hne⟩
      · obtain ⟨hdj, cv, h1, h2⟩ := hG _ _ _ hb
        rw [VA3_skip_inv h2] at h1
        simp [yielded_undef hdj h1]
      · obtain ⟨hdj, cv, h1, h2⟩ := hG _ _ _ hb
        have h3 : VE C.P w S (.bool b) cv := h2
        cases h3
        simpa [yielded_bool hdj h1] using hne
    rw [hw]
    subst hv
    exact hN undef ρ S w hr (Ext.refl _ _ _ _) VA3_skip
  · have hw : Region.wanted o (yielded arr a.tmps) = true := by
      unfold Region.wanted
      rcases hg with hg | ⟨j, w0, d, hg, hb⟩
      · rw [hg]
      · rw [hg]
        obtain ⟨hdj, cv, h1, h2⟩ := hG _ _ _ hb
        have h3 : VE C.P w S (.bool w0) cv := h2
        cases h3
        simp [yielded_bool hdj h1]
    rw [if_pos hw]
    left
    rcases hx with ⟨σ', he⟩ | ⟨f, args, ats, as, σ', hop, has, hsz, hout⟩
    · have := evalOp_still he
      subst this
      exact OpOk.wp (evalOp_ok hr hf he) fun cv w' ρ' S' h1 h2 h3 => hN cv ρ' S' w' h1 h2 h3
    · obtain ⟨ids, σc, r, h', hids, hsub, hrn, hlen, hcome⟩ := hout
      obtain ⟨h1, h2⟩ := args_ok hf hsz has
      -- the arguments name no object
      have hnil : ids = [] := by
        cases ids with
        | nil => rfl
        | cons i is =>
          obtain ⟨_, h3⟩ := subHeap_spec hsub
          obtain ⟨q, hq, _⟩ := h3 0 i rfl
          cases hq
      have hids0 : ∀ x ∈ (as.map AV.calm).flatMap AV.ids2, x ∈ ids := fun x hx => by
        rw [hids]; exact closure_mem _ _ _ _ (addNew_mem _ _ _ hx)
      subst hnil
      have hc0 : σc = [] := List.eq_nil_of_length_eq_zero (by rw [(subHeap_spec hsub).1]; rfl)
      subst hc0
      have hh0 : h' = [] := List.eq_nil_of_length_eq_zero hlen
      subst hh0
      obtain ⟨hen, hcall⟩ := hrun f _ [] r [] hrn
      have hsub' : subHeap σ [] = some [] := rfl
      unfold Oper.wp
      rw [run_enter hop (eval_func a) hen, Oper.upon_enter]
      refine Calls.mono (hcall (subGr ρ []) S w _ (hr.sub (by simp) hsub') (by simpa using h1) ?_) ?_
      · intro j u hj
        rw [List.getElem?_map, List.getElem?_map, Option.map_map] at hj
        obtain ⟨u', hu, rfl⟩ := Option.map_eq_some_iff.1 hj
        obtain ⟨cv, h3, h4⟩ := h2 j u' hu
        refine ⟨cv, h3, VA2.sub hr.len hsub' (calm_ok h4) fun x hx => ?_⟩
        exact hids0 x (List.mem_flatMap.2 ⟨u'.calm, List.mem_map.2 ⟨u', List.mem_of_getElem? hu, rfl⟩, hx⟩)
      · rintro e w' ⟨ρ1', S', k1, k2, k3⟩
        obtain ⟨k4, k5, k6⟩ := back_ok hr (by simp) hsub' k1 k2 rfl
        cases r with
        | pan x => cases hcome
        | ret u =>
          simp only at hcome
          injection hcome with hcv _
          obtain ⟨cv, rfl, k7⟩ := k3
          refine hN cv _ S' w' k4 k5 ?_
          rw [hcv]
          exact lift3 (G := fun _ => True) (fun v cv h _ => k6 v cv h) k7 (fun _ _ => trivial)

end

theorem distinct_spec : ∀ {l : List Nat}, distinct l = true → l.Nodup
  | [], _ => List.nodup_nil
  | d :: l, h => by
    simp only [distinct, Bool.and_eq_true, Bool.not_eq_true', List.contains_eq_mem, decide_eq_false_iff_not] at h
    exact List.nodup_cons.2 ⟨h.1, distinct_spec h.2⟩

theorem filterMap_inj : ∀ {l : List Oper}, (l.filterMap (·.dst)).Nodup → ∀ (i j : Nat) (p q : Oper) (d : Nat), l[i]? = some p → l[j]? = some q → p.dst = some d → q.dst = some d → i = j
  | [], _, i, j, p, q, d, h, _, _, _ => by simp at h
  | o :: l, hn, i, j, p, q, d, h1, h2, h3, h4 => by
    have hn' : (l.filterMap (·.dst)).Nodup := by
      cases ho : o.dst with
      | none => rw [List.filterMap_cons_none ho] at hn; exact hn
      | some x => rw [List.filterMap_cons_some ho] at hn; exact (List.nodup_cons.1 hn).2
    have hmem : ∀ (k : Nat) (q : Oper), l[k]? = some q → q.dst = some d → o.dst = some d → False := fun k q hk hq ho => by
      rw [List.filterMap_cons_some ho] at hn
      exact (List.nodup_cons.1 hn).1 (List.mem_filterMap.2 ⟨q, List.mem_of_getElem? hk, hq⟩)
    cases i with
    | zero =>
      cases j with
      | zero => rfl
      | succ j => simp at h1 h2; subst h1; exact (hmem j q h2 h4 h3).elim
    | succ i =>
      cases j with
      | zero => simp at h1 h2; subst h2; exact (hmem i p h1 h3 h4).elim
      | succ j => rw [filterMap_inj hn' i j p q d (by simpa using h1) (by simpa using h2) h3 h4]

theorem count_set {l : List Bool} {i : Nat} (h : l[i]? = some false) : (l.set i true).count false + 1 = l.count false := by
  induction l generalizing i with
  | nil => simp at h
  | cons b l ih =>
    cases i with
    | zero => simp at h; subst h; simp
    | succ i =>
      have := ih (i := i) (by simpa using h)
      simp only [List.set_cons_succ, List.count_cons]
      omega

section
variable {C : Ctx} {arr : Array Oper} {σ : Heap} {fr0 : Fr} {vs : Vals}

theorem waits_spec {o : Oper} {j : Nat} (h : waits o j = true) : ∃ e ∈ o.after, e.on = j ∧ Region.binds .any e = true := by
  unfold waits at h
  obtain ⟨e, h1, h2⟩ := List.any_eq_true.1 h
  simp only [Bool.and_eq_true, beq_iff_eq] at h2
  exact ⟨e, by simpa using h1, h2⟩

/-- The operations that come one behind the other. -/
theorem tail_ok {P : Program} {Q : Exit → Act → World → Prop} {h : Nat} (hb : ∀ (i : Nat) (o : Oper), arr[i]? = some o → ∀ e ∈ o.after, Region.binds .any e = true → e.on < i)
    (ht : ∀ (i : Nat) (o : Oper), h < i → arr[i]? = some o → waits o (i - 1) = true) : ∀ (l : List Oper) (i fuel : Nat) (listed : Array Bool) (a : Act) (w : World), arr.toList.drop i = l → h ≤ i → listed.size = arr.size →
      (∀ k, k < i → k < arr.size → listed[k]? = some true) → (∀ k, i ≤ k → k < arr.size → listed[k]? = some false) → l.length ≤ fuel → wpList P arr Q l a w → wpAny P .any arr Q fuel listed a w := by
  intro l
  induction l with
  | nil =>
    intro i fuel listed a w hl hi hsz h1 h2 hfu hw
    have hsz' : arr.size ≤ i := by
      have := congrArg List.length hl
      simp at this; omega
    refine wpAny_done ?_ hw fuel
    cases hr : Region.ready .any arr listed with
    | nil => rfl
    | cons j js =>
      exfalso
      have hm : j ∈ Region.ready .any arr listed := by rw [hr]; simp
      obtain ⟨h5, o, ho, _⟩ := mem_ready.1 hm
      have hj := (Array.getElem?_eq_some_iff.1 ho).1
      have := h1 j (by omega) hj
      simp [Array.getD_eq_getD_getElem?, this] at h5
  | cons o rest ih =>
    intro i fuel listed a w hl hi hsz h1 h2 hfu hw
    have hlen := congrArg List.length hl
    simp at hlen
    have hisz : i < arr.size := by omega
    have ho : arr[i]? = some o := by
      have := congrArg (fun l => l[0]?) hl
      simpa using this
    obtain ⟨fuel, rfl⟩ : ∃ f, fuel = f + 1 := ⟨fuel - 1, by simp at hfu; omega⟩
    have hready : i ∈ Region.ready .any arr listed := by
      rw [mem_ready]
      refine ⟨by simp [Array.getD_eq_getD_getElem?, h2 i (by omega) hisz], o, ho, fun e he hbe => ?_⟩
      have := hb i o ho e he hbe
      simp [Array.getD_eq_getD_getElem?, h1 e.on this (by omega)]
    refine ⟨fun hr => absurd hready (by rw [hr]; simp), fun j hj => ?_⟩
    have hji : j = i := by
      obtain ⟨h5, o', ho', h6⟩ := mem_ready.1 hj
      have hjs := (Array.getElem?_eq_some_iff.1 ho').1
      rcases Nat.lt_trichotomy j i with hlt | heq | hgt
      · have := h1 j hlt hjs
        simp [Array.getD_eq_getD_getElem?, this] at h5
      · exact heq
      · obtain ⟨e, he, he1, he2⟩ := waits_spec (ht j o' (by omega) ho')
        have h7 := h6 e he he2
        rw [he1] at h7
        simp [Array.getD_eq_getD_getElem?, h2 (j - 1) (by omega) (by omega)] at h7
    subst hji
    have hop : wpOp P arr Q j (wpList P arr Q rest) a w := by
      unfold wpOp
      simp only [ho]
      exact hw
    refine wpOp_mono (fun a' w' hw' => ?_) hop
    refine ih (j + 1) fuel _ a' w' ?_ (by omega) (by simpa using hsz) ?_ ?_ (by simp at hfu; omega) hw'
    · rw [← List.drop_drop, hl]; rfl
    · intro k hk hks
      by_cases hkj : k = j
      · subst hkj; rw [Array.getElem?_setIfInBounds_self_of_lt (by omega)]
      · rw [Array.getElem?_setIfInBounds_ne (by omega)]; exact h1 k (by omega) hks
    · intro k hk hks
      rw [Array.getElem?_setIfInBounds_ne (by omega)]; exact h2 k (by omega) hks

/-- Whichever order is drawn. -/
theorem any_ok (hrun : RunOk C.P C.run) {Q : Exit → Act → World → Prop} {h : Nat} (hh : h ≤ arr.size) (hn : ((arr.toList.take h).filterMap (·.dst)).Nodup)
    (hb : ∀ (i : Nat) (o : Oper), arr[i]? = some o → ∀ e ∈ o.after, Region.binds .any e = true → e.on < i)
    (ht : ∀ (i : Nat) (o : Oper), h < i → arr[i]? = some o → waits o (i - 1) = true) (ht0 : ∀ (o : Oper), arr[h]? = some o → ∀ j, j < h → waits o j = true)
    (hvs : vs.length = h) (hst : ∀ (k : Nat) (o : Oper), k < h → arr[k]? = some o → ∃ v, vs[k]? = some (o.dst, v) ∧ StepOk C arr.toList (vs.take k) fr0 σ o v)
    (h0 : ∀ (k : Nat) (o : Oper) (d : Nat), k < h → arr[k]? = some o → o.dst = some d → d < fr0.length → fr0[d]? = some .undef)
    {ρ0 : Gr} {S0 : Cells} {w0 : World}
    (hQ : ∀ (ρ : Gr) (S : Cells) (w : World) (a : Act), a.defers = [] → Rel C.P σ ρ S w → Ext σ ρ0 S0 w0 σ ρ S w → FR C.P σ ρ S w fr0 a.tmps → (∀ (k : Nat) p, vs[k]? = some p → HasVal C.P σ ρ S w a.tmps p) → wpList C.P arr Q (arr.toList.drop h) a w) :
    ∀ (fuel : Nat) (listed : Array Bool) (ρ : Gr) (S : Cells) (w : World) (a : Act), listed.size = arr.size → (∀ k, h ≤ k → k < arr.size → listed[k]? = some false) → listed.toList.count false ≤ fuel → a.defers = [] → Rel C.P σ ρ S w → Ext σ ρ0 S0 w0 σ ρ S w →
      FR C.P σ ρ S w fr0 a.tmps → (∀ (k : Nat) p, listed[k]? = some true → vs[k]? = some p → HasVal C.P σ ρ S w a.tmps p) → wpAny C.P .any arr Q fuel listed a w := by
  -- all that are not of the tail
  have hdone : ∀ (fuel : Nat) (listed : Array Bool) (ρ : Gr) (S : Cells) (w : World) (a : Act), listed.size = arr.size → (∀ k, h ≤ k → k < arr.size → listed[k]? = some false) → listed.toList.count false ≤ fuel → (∀ k, k < h → listed[k]? = some true) → a.defers = [] →
      Rel C.P σ ρ S w → Ext σ ρ0 S0 w0 σ ρ S w → FR C.P σ ρ S w fr0 a.tmps → (∀ (k : Nat) p, listed[k]? = some true → vs[k]? = some p → HasVal C.P σ ρ S w a.tmps p) → wpAny C.P .any arr Q fuel listed a w := by
    intro fuel listed ρ S w a hsz hfl hcnt hall hd h1 h2 h3 h4
    refine tail_ok (h := h) hb ht _ h fuel listed a w rfl (Nat.le_refl _) hsz (fun k hk _ => hall k hk) hfl ?_ (hQ ρ S w a hd h1 h2 h3 fun k p hp => h4 k p (hall k ?_) hp)
    · refine Nat.le_trans ?_ hcnt
      have hd : listed.toList.drop h = List.replicate (arr.size - h) false := by
        apply List.ext_getElem?
        intro i
        rw [List.getElem?_drop, List.getElem?_replicate]
        split
        · have := hfl (h + i) (by omega) (by omega)
          simpa using this
        · rw [List.getElem?_eq_none (by simp; omega)]
      have hc : listed.toList.count false = (listed.toList.take h).count false + (listed.toList.drop h).count false := by
        conv => lhs; rw [← List.take_append_drop h listed.toList]
        rw [List.count_append]
      rw [hc, hd, List.count_replicate_self]
      simp
    · rw [← hvs]; exact (List.getElem?_eq_some_iff.1 hp).1
  -- one that has not come up
  have hhead : ∀ (listed : Array Bool), listed.size = arr.size → (∀ k, h ≤ k → k < arr.size → listed[k]? = some false) → ∀ k0, k0 < h → listed[k0]? = some false → ∀ j ∈ Region.ready .any arr listed, j < h := by
    intro listed hsz hfl k0 hk0 hf0 j hj
    rcases Nat.lt_or_ge j h with hlt | hge
    · exact hlt
    · exfalso
      obtain ⟨_, o, ho, h6⟩ := mem_ready.1 hj
      have hjs := (Array.getElem?_eq_some_iff.1 ho).1
      rcases Nat.eq_or_lt_of_le hge with heq | hgt
      · subst heq
        obtain ⟨e, he, he1, he2⟩ := waits_spec (ht0 o ho k0 hk0)
        have h7 := h6 e he he2
        rw [he1] at h7
        simp [Array.getD_eq_getD_getElem?, hf0] at h7
      · obtain ⟨e, he, he1, he2⟩ := waits_spec (ht j o hgt ho)
        have h7 := h6 e he he2
        rw [he1] at h7
        simp [Array.getD_eq_getD_getElem?, hfl (j - 1) (by omega) (by omega)] at h7
  have hall : ∀ (listed : Array Bool), listed.size = arr.size → Region.ready .any arr listed = [] → ∀ k, k < arr.size → listed[k]? = some true := by
    intro listed hsz hr k
    induction k using Nat.strongRecOn with
    | _ k ih =>
      intro hk
      cases hl : listed[k]? with
      | none => rw [Array.getElem?_eq_none_iff] at hl; omega
      | some b =>
        cases b with
        | true => rfl
        | false =>
          exfalso
          have : k ∈ Region.ready .any arr listed := by
            rw [mem_ready]
            refine ⟨by simp [Array.getD_eq_getD_getElem?, hl], arr[k], by simp [hk], fun e he hbe => ?_⟩
            have := ih e.on (hb k arr[k] (by simp [hk]) e he hbe) (by have := hb k arr[k] (by simp [hk]) e he hbe; omega)
            simp [Array.getD_eq_getD_getElem?, this]
          rw [hr] at this
          cases this
  intro fuel
  induction fuel with
  | zero =>
    intro listed ρ S w a hsz hfl hcnt hd h1 h2 h3 h4
    refine hdone 0 listed ρ S w a hsz hfl hcnt (fun k hk => ?_) hd h1 h2 h3 h4
    cases hl : listed[k]? with
    | none => rw [Array.getElem?_eq_none_iff] at hl; omega
    | some b =>
      cases b with
      | true => rfl
      | false =>
        exfalso
        have hm : false ∈ listed.toList := List.mem_of_getElem? (i := k) (by simpa using hl)
        have := List.count_pos_iff.2 hm
        omega
  | succ fuel ih =>
    intro listed ρ S w a hsz hfl hcnt hd h1 h2 h3 h4
    by_cases hyes : ∀ k, k < h → listed[k]? = some true
    · exact hdone _ listed ρ S w a hsz hfl hcnt hyes hd h1 h2 h3 h4
    · obtain ⟨k0, hk0, hf0⟩ : ∃ k0, k0 < h ∧ listed[k0]? = some false := by
        refine Classical.byContradiction fun hno => hyes fun k hk => ?_
        cases hl : listed[k]? with
        | none => rw [Array.getElem?_eq_none_iff] at hl; omega
        | some b =>
          cases b with
          | true => rfl
          | false => exact absurd ⟨k, hk, hl⟩ hno
      refine ⟨fun hr => ?_, fun i hi => ?_⟩
      · have := hall listed hsz hr k0 (by omega)
        rw [hf0] at this; cases this
      have hih := hhead listed hsz hfl k0 hk0 hf0 i hi
      obtain ⟨h5, o, ho, h6⟩ := mem_ready.1 hi
      have hil : i < listed.size := by rw [hsz]; exact (Array.getElem?_eq_some_iff.1 ho).1
      have hfalse : listed[i]? = some false := by
        simp [Array.getD_eq_getD_getElem?, hil] at h5
        rw [Array.getElem?_eq_getElem hil, h5]
      obtain ⟨v, hv, hstep⟩ := hst i o hih ho
      unfold wpOp
      simp only [ho]
      have hval : ∀ (e : Edge), e ∈ o.after → Region.binds .any e = true → ∀ p, (vs.take i)[e.on]? = some p → HasVal C.P σ ρ S w a.tmps p := by
        intro e he hbe p hp
        have hlt := h6 e he hbe
        have hle : e.on < listed.size := by rw [hsz]; have := hb i o ho e he hbe; have := (Array.getElem?_eq_some_iff.1 ho).1; omega
        simp [Array.getD_eq_getD_getElem?, hle] at hlt
        refine h4 e.on p (by rw [Array.getElem?_eq_getElem hle, hlt]) ?_
        rw [List.getElem?_take] at hp
        split at hp
        · exact hp
        · cases hp
      have henv : FR C.P σ ρ S w (envOf (vs.take i) fr0 o) a.tmps := envOf_ok h3 hval
      refine step_wp hrun hstep h1 henv ?_ fun cv ρ' S' w' k1 k2 k3 => ?_
      · rintro j d x ⟨g1, g2, g3⟩
        obtain ⟨e, he, he1, he2⟩ := waits_spec g1
        have := hval e he he2 (some d, x) (by rw [he1]; exact g2)
        refine ⟨?_, this d rfl (by rw [h3.1]; exact g3)⟩
        have hji : j < i := by
          have := (List.getElem?_eq_some_iff.1 g2).1
          simp at this; omega
        have hjs : j < arr.size := by omega
        obtain ⟨v', hv', _⟩ := hst j arr[j] (by omega) (by simp [hjs])
        rw [List.getElem?_take, if_pos hji, hv'] at g2
        injection g2 with g2
        injection g2 with g2 _
        unfold dstOf
        simp [hjs, g2]
      refine ih _ ρ' S' w' _ (by simpa using hsz) ?_ ?_ (by rw [put_defers]; exact hd) k1 (h2.trans k2) ?_ ?_
      · intro k hk hks
        rw [Array.getElem?_setIfInBounds_ne (by omega)]; exact hfl k hk hks
      · have := count_set (l := listed.toList) (i := i) (by simpa using hfalse)
        simp only [Array.toList_setIfInBounds]
        omega
      · -- slots that are written here say nothing
        have h3' := h3.mono k2
        refine ⟨by rw [actput_size]; exact h3'.1, fun t x ht => ?_⟩
        by_cases hd' : o.dst = some t
        · have := h0 i o t hih ho hd' (List.getElem?_eq_some_iff.1 ht).1
          rw [this] at ht
          injection ht with ht
          subst ht
          have hl : t < (a.put o.dst cv).tmps.size := by rw [actput_size, h3'.1]; exact (List.getElem?_eq_some_iff.1 this).1
          exact ⟨_, Array.getElem?_eq_getElem hl, VA3_undef⟩
        · rw [actput_ne hd']
          exact h3'.2 t x ht
      · intro k p hk hp
        by_cases hki : k = i
        · subst hki
          rw [hv] at hp
          injection hp with hp
          subst hp
          exact HasVal.self k3
        · have hk' : listed[k]? = some true := by
            rw [Array.getElem?_setIfInBounds_ne (by omega)] at hk; exact hk
          refine HasVal.other ?_ ((h4 k p hk' hp).mono k2)
          intro x hx hpx
          have hkl : k < h := by rw [← hvs]; exact (List.getElem?_eq_some_iff.1 hp).1
          obtain ⟨v', hv', _⟩ := hst k arr[k] hkl (by simp)
          rw [hp] at hv'
          injection hv' with hv'
          rw [hv'] at hpx
          exact hki (filterMap_inj hn k i arr[k] o x (by rw [List.getElem?_take, if_pos hkl]; simp) (by rw [List.getElem?_take, if_pos hih]; simpa using ho) hpx hx)

theorem foldl_undef {ops : List Oper} : ∀ (fr : Fr) (d : Nat), (∃ o ∈ ops, o.dst = some d) → d < fr.length → (ops.foldl (fun f o => put f o.dst .undef) fr)[d]? = some .undef := by
  induction ops with
  | nil => rintro fr d ⟨o, h, _⟩; cases h
  | cons q ops ih =>
    rintro fr d ⟨o, h, hd⟩ hl
    simp only [List.foldl_cons]
    by_cases hh : ∃ o ∈ ops, o.dst = some d
    · exact ih _ d hh (by rw [put_len]; exact hl)
    · have hq : q.dst = some d := by
        rcases List.mem_cons.1 h with h | h
        · rw [← h]; exact hd
        · exact absurd ⟨o, h, hd⟩ hh
      rw [foldl_put_ne ops _ d fun p hp e => hh ⟨p, hp, e⟩, hq]
      simp [put, hl]

theorem foldl_forget {P : Program} {ρ : Gr} {S : Cells} {w : World} {a : Act} : ∀ (ops : List Oper) (fr : Fr), FR P σ ρ S w fr a.tmps → FR P σ ρ S w (ops.foldl (fun f o => put f o.dst .undef) fr) a.tmps
  | [], _, h => h
  | o :: ops, fr, h => by
    simp only [List.foldl_cons]
    refine foldl_forget ops _ (h.say (p := (o.dst, .undef)) ?_)
    intro d _ hl
    exact ⟨_, Array.getElem?_eq_getElem hl, VA3_undef⟩

theorem foldl_say {P : Program} {ρ : Gr} {S : Cells} {w : World} {a : Act} : ∀ (vs : Vals) (fr : Fr), FR P σ ρ S w fr a.tmps → (∀ p ∈ vs, HasVal P σ ρ S w a.tmps p) → FR P σ ρ S w (vs.foldl (fun f p => put f p.1 p.2) fr) a.tmps
  | [], _, h, _ => h
  | p :: vs, fr, h, k => by
    simp only [List.foldl_cons]
    exact foldl_say vs _ (h.say (k p (by simp))) fun q hq => k q (by simp [hq])

theorem foldl_put_len (ops : List Oper) : ∀ (fr : Fr), (ops.foldl (fun f o => put f o.dst .undef) fr).length = fr.length := by
  induction ops with
  | nil => intro fr; rfl
  | cons o ops ih => intro fr; simp only [List.foldl_cons]; rw [ih, put_len]

theorem drawn_ok {P : Program} {ρ : Gr} {S : Cells} {w : World} (h : Rel P σ ρ S w) : Rel P σ ρ S { w with drawn := w.drawn + 1 } ∧ Ext σ ρ S w σ ρ S { w with drawn := w.drawn + 1 } := by
  have he : Ext σ ρ S w σ ρ S { w with drawn := w.drawn + 1 } :=
    ⟨fun _ _ h => ⟨h, rfl⟩, fun _ _ h => ⟨⟨_, h⟩, rfl⟩, fun _ _ n h => ⟨n, Nat.le_refl _, h, fun _ => rfl⟩, fun _ _ _ => rfl, fun i _ c h => .inr ⟨i, c, h⟩, fun _ _ h => .inl h, Nat.le_refl _, rfl, rfl, rfl⟩
  refine ⟨⟨h.len, ?_, h.vec, h.inj, h.cells⟩, he⟩
  intro id cs hb
  obtain ⟨b, c, arr, T, h1, h2, h3, h4, h5⟩ := h.box id cs hb
  exact ⟨b, c, arr, T, h1, h2, h3, fun j v hj => let ⟨k1, x, k2, k3⟩ := h4 j v hj; ⟨k1, x, k2, k3.mono he⟩, h5⟩

theorem still_ok {R : Type} {r : R} (hm : C.P.follows .mixedOrders = true) (hrun : RunOk C.P C.run) {Q : Exit → Act → World → Prop} {id h : Nat} {fr : Fr} {K : Fr → Heap → Option R} {Kp : E → Fr → Heap → Option R}
    {ρ : Gr} {S : Cells} {w : World} {a : Act} (ho : orderOk arr.toList h = true) (ht : tailOk arr.toList h = true)
    (hden : denStill C arr.toList (arr.toList.take h) [] ((arr.toList.take h).foldl (fun f o => put f o.dst .undef) fr) σ (fun fr => denOps C arr.toList (arr.toList.length + 1) (arr.toList.drop h) fr σ K Kp) = some r) (hr : Rel C.P σ ρ S w)
    (hf : FR C.P σ ρ S w fr a.tmps) (hd : a.defers = [])
    (hK : ∀ (fr' : Fr) (σ' : Heap) (ρ' : Gr) (S' : Cells) (w' : World) (a' : Act), a'.defers = [] → Rel C.P σ' ρ' S' w' → Ext σ ρ S w σ' ρ' S' w' → FR C.P σ' ρ' S' w' fr' a'.tmps → K fr' σ' = some r → Q .normal a' w')
    (hKp : ∀ (x : E) (fr' : Fr) (σ' : Heap) (ρ' : Gr) (S' : Cells) (w' : World) (a' : Act) (cv : Value), a'.defers = [] → Rel C.P σ' ρ' S' w' → Ext σ ρ S w σ' ρ' S' w' → FR C.P σ' ρ' S' w' fr' a'.tmps →
      VE C.P w' S' x cv → Kp x fr' σ' = some r → Q (.panic [{ v := cv, recovered := false }]) a' w') :
    (Code.region id arr true).wp C.P Q a w := by
  unfold orderOk at ho
  rw [Bool.and_eq_true] at ho
  obtain ⟨vs, h1, h2, h3⟩ := denStill_inv _ _ hden
  obtain ⟨hr1, he1⟩ := drawn_ok hr
  have hnd := distinct_spec ho.1
  -- the head's length
  have hlen : min h arr.size ≤ arr.size := Nat.min_le_right _ _
  have htk : arr.toList.take (min h arr.size) = arr.toList.take h := by
    rcases Nat.le_total h arr.size with hle | hle
    · rw [Nat.min_eq_left hle]
    · rw [Nat.min_eq_right hle, List.take_of_length_le (by simp), List.take_of_length_le (by simpa using hle)]
  have hdk : arr.toList.drop (min h arr.size) = arr.toList.drop h := by
    rcases Nat.le_total h arr.size with hle | hle
    · rw [Nat.min_eq_left hle]
    · rw [Nat.min_eq_right hle, List.drop_of_length_le (by simp), List.drop_of_length_le (by simpa using hle)]
  have htail : ∀ (i : Nat) (o : Oper), arr[i]? = some o → (if i < h then true else if i = h then (List.range h).all (waits o) else waits o (i - 1)) = true := fun i o hi =>
    List.all_eq_true.1 ht (o, i) (by rw [List.mem_iff_getElem?]; exact ⟨i, by simp [hi]⟩)
  refine wp_region_any hm ?_
  refine any_ok (h := min h arr.size) (fr0 := (arr.toList.take h).foldl (fun f o => put f o.dst .undef) fr) (vs := vs) (ρ0 := ρ) (S0 := S) (w0 := w) hrun hlen (by rw [htk]; exact hnd) ?_ ?_ ?_ ?_ ?_ ?_ ?_ _ _ ρ S _ a (by simp) ?_ ?_ hd hr1 he1 ?_ ?_
  · intro i o hi e he hbe
    have := List.all_eq_true.1 ho.2 (o, i) (by rw [List.mem_iff_getElem?]; exact ⟨i, by simp [hi]⟩)
    have := List.all_eq_true.1 this e (by simpa using he)
    simpa [hbe] using this
  · intro i o hlt hi
    have := htail i o hi
    have hi' := (Array.getElem?_eq_some_iff.1 hi).1
    rw [if_neg (by omega), if_neg (by omega)] at this
    exact this
  · intro o hi j hj
    have hi' := (Array.getElem?_eq_some_iff.1 hi).1
    have hmin : min h arr.size = h := by omega
    rw [hmin] at hi hj
    have := htail h o hi
    rw [if_neg (by omega), if_pos rfl] at this
    exact List.all_eq_true.1 this j (by simpa using hj)
  · rw [h1]; simp
  · intro k o hk hk'
    obtain ⟨v, h4, h5⟩ := h2 k o (by rw [List.getElem?_take, if_pos (by omega)]; simpa using hk')
    exact ⟨v, h4, by simpa using h5⟩
  · intro k o d hk hk' hd' hl
    rw [foldl_put_len] at hl
    exact foldl_undef fr d ⟨o, List.mem_of_getElem? (i := k) (by rw [List.getElem?_take, if_pos (by omega)]; simpa using hk'), hd'⟩ hl
  · intro ρ' S' w' a' k1 k2 k3 k4 k5
    rw [hdk]
    refine denOps_ok hrun _ _ _ σ K Kp r h3 ρ' S' w' a' k2 ?_ k1 ?_ ?_
    · refine foldl_say _ _ k4 fun p hp => ?_
      obtain ⟨k, hk⟩ := List.mem_iff_getElem?.1 hp
      exact k5 k p (by simpa using hk)
    · intro fr2 σ2 ρ2 S2 w2 a2 m1 m2 m3 m4 m5
      exact hK fr2 σ2 ρ2 S2 w2 a2 m1 m2 (k3.trans m3) m4 m5
    · intro x fr2 σ2 ρ2 S2 w2 a2 cv m1 m2 m3 m4 m5 m6
      exact hKp x fr2 σ2 ρ2 S2 w2 a2 cv m1 m2 (k3.trans m3) m4 m5 m6
  · intro k _ hk
    rw [Array.getElem?_replicate, if_pos hk]
  · simp
  · exact (foldl_forget _ _ hf).mono he1
  · intro k p hk
    rw [Array.getElem?_replicate] at hk
    split at hk <;> cases hk

end
end Go.Den
