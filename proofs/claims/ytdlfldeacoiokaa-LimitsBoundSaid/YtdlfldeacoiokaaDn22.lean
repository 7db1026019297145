/- Whichever order is drawn. -/
import Derived.Test.YtdlfldeacoiokaaDn21
namespace Go.Den
open Go

section
variable {R : Type} {run : RunF} {loop : Code → Fr → Heap → Option Out} {lr : Res → Heap → Option R} {lo : Out → Option R} {r : R}
variable {C : Ctx} {D : List Deferred} {arr : Array Oper}

theorem set_same {α : Type} {l : List α} {j : Nat} {x : α} (h : l[j]? = some x) : l.set j x = l := by
  apply List.ext_getElem?
  intro i
  rw [List.getElem?_set]
  split
  · rename_i e
    subst e
    split
    · exact h.symm
    · rename_i hl; rw [List.getElem?_eq_none (by omega)] at h; cases h
  · rfl

/-- What a region in one of its orders comes to: all its steps, or a panic in the middle. -/
structure EndN (C : Ctx) (run : RunF) (loop : Code → Fr → Heap → Option Out) (lr : Res → Heap → Option R) (lo : Out → Option R) (r : R) (arr : Array Oper) (items : List Item) (acc : List (Nat × Foot)) (fr : Fr) (σ : Heap) (K : Fr → Heap → T) : Prop where
  ex : ∃ (l : List Ev) (frE : Fr) (σE : Heap), l.map (·.1) = items ∧ Trace C.P C.H run arr.toList l fr σ frE σE ∧ l.Pairwise (Free arr) ∧
    (∀ e ∈ l, ∀ q ∈ acc, e.1.an.testBit q.1 = true ∨ apartF q.2 e.2.2 = true) ∧ (K frE σE).go run loop lr lo = some r

structure EndP (C : Ctx) (run : RunF) (loop : Code → Fr → Heap → Option Out) (lr : Res → Heap → Option R) (lo : Out → Option R) (r : R) (arr : Array Oper) (items : List Item) (acc : List (Nat × Foot)) (fr : Fr) (σ : Heap) (Kp : E → Fr → Heap → T) : Prop where
  ex : ∃ (l : List Ev) (q : Item) (rest : List Item) (frE : Fr) (σE : Heap) (x : E) (σ' : Heap), items = l.map (·.1) ++ q :: rest ∧ Trace C.P C.H run arr.toList l fr σ frE σE ∧ l.Pairwise (Free arr) ∧
    (∀ e ∈ l, ∀ q ∈ acc, e.1.an.testBit q.1 = true ∨ apartF q.2 e.2.2 = true) ∧
    Wanted arr.toList frE q.op ∧ Pans C.P C.H run q.op frE σE x σ' ∧ (∀ p ∈ acc, q.an.testBit p.1 = true ∨ p.2.wr = []) ∧ (∀ e ∈ l, q.an.testBit e.1.at = true ∨ e.2.2.wr = []) ∧ (∀ p ∈ rest, p.an.testBit q.at = true) ∧
    (∀ e ∈ l, q.an.testBit e.1.at = true ∨ e.1.op.apart arr q.op = true) ∧
    (Kp x (arr.toList.foldl (fun f q => put f q.dst .undef) frE) σ').go run loop lr lo = some r

theorem denDraw_inv {K : Fr → Heap → T} {Kp : E → Fr → Heap → T} : ∀ (items : List Item) (acc : List (Nat × Foot)) (fr : Fr) (σ : Heap), apartOk arr items = true → (denDraw C arr.toList items acc fr σ K Kp).go run loop lr lo = some r →
    EndN C run loop lr lo r arr items acc fr σ K ∨ EndP C run loop lr lo r arr items acc fr σ Kp
  | [], acc, fr, σ, _, h => .inl ⟨[], fr, σ, rfl, .nil _ _, .nil, fun e h => (by cases h), h⟩
  | (o, i, an, k) :: rest, acc, fr, σ, hap, h => by
    have hap' : (∀ q ∈ rest, q.an.testBit i = true ∨ o.apart arr q.op = true) ∧ apartOk arr rest = true := by
      simp only [apartOk, Bool.and_eq_true, List.all_eq_true, Bool.or_eq_true] at hap
      exact hap
    -- behind a step
    have hnext : ∀ (v : AV) (ft : Foot) (σ1 : Heap), Step C.P C.H run arr.toList o k fr σ v σ1 ft → (∀ q ∈ acc, an.testBit q.1 = true ∨ apartF q.2 ft = true) →
        (denDraw C arr.toList rest (acc ++ [(i, ft)]) (put fr o.dst v) σ1 K Kp).go run loop lr lo = some r →
        EndN C run loop lr lo r arr ((o, i, an, k) :: rest) acc fr σ K ∨ EndP C run loop lr lo r arr ((o, i, an, k) :: rest) acc fr σ Kp := by
      intro v ft σ1 hs hacc hk
      rcases denDraw_inv rest _ _ _ hap'.2 hk with ⟨l, frE, σE, h1, h2, h3, h4, h5⟩ | ⟨l, q, rs, frE, σE, x, σ', h1, h2, h3, h4, h5, h6, h7, h8, h9, h10, h11⟩
      · refine .inl ⟨((o, i, an, k), v, ft) :: l, frE, σE, by simp [h1], .cons (o, i, an, k) v ft l _ _ _ _ _ hs h2, ?_, ?_, h5⟩
        · refine List.pairwise_cons.2 ⟨fun e he => ?_, h3⟩
          rcases h4 e he (i, ft) (by simp) with h | h
          · exact .inl h
          · rcases hap'.1 e.1 (by rw [← h1]; exact List.mem_map.2 ⟨e, he, rfl⟩) with g | g
            · exact .inl g
            · exact .inr ⟨h, g⟩
        · intro e he q hq
          rcases List.mem_cons.1 he with rfl | he
          · exact hacc q hq
          · exact h4 e he q (by simp [hq])
      · refine .inr ⟨((o, i, an, k), v, ft) :: l, q, rs, frE, σE, x, σ', by simp [h1], .cons (o, i, an, k) v ft l _ _ _ _ _ hs h2, ?_, ?_, h5, h6, fun p hp => h7 p (by simp [hp]), ?_, h9, ?_, h11⟩
        · refine List.pairwise_cons.2 ⟨fun e he => ?_, h3⟩
          rcases h4 e he (i, ft) (by simp) with h | h
          · exact .inl h
          · rcases hap'.1 e.1 (by rw [h1]; exact List.mem_append_left _ (List.mem_map.2 ⟨e, he, rfl⟩)) with g | g
            · exact .inl g
            · exact .inr ⟨h, g⟩
        · intro e he q hq
          rcases List.mem_cons.1 he with rfl | he
          · exact hacc q hq
          · exact h4 e he q (by simp [hq])
        · intro e he
          rcases List.mem_cons.1 he with rfl | he
          · exact h7 (i, ft) (by simp)
          · exact h8 e he
        · intro e he
          rcases List.mem_cons.1 he with rfl | he
          · exact hap'.1 q (by rw [h1]; simp)
          · exact h10 e he
    have hgo : Wanted arr.toList fr o → (denGo C arr.toList o fr σ k (fun fr' σ' =>
          if acc.all (fun q => an.testBit q.1 || apartF q.2 ((footOf C.P arr.toList fr σ k o).with σ.length σ'.length)) then denDraw C arr.toList rest (acc ++ [(i, (footOf C.P arr.toList fr σ k o).with σ.length σ'.length)]) fr' σ' K Kp else .fail)
        (fun x σ' => if acc.all (fun q => an.testBit q.1 || q.2.wr.isEmpty) && rest.all (fun q => q.2.2.1.testBit i) then Kp x (arr.toList.foldl (fun f q => put f q.dst .undef) fr) σ' else .fail)).go run loop lr lo = some r →
        EndN C run loop lr lo r arr ((o, i, an, k) :: rest) acc fr σ K ∨ EndP C run loop lr lo r arr ((o, i, an, k) :: rest) acc fr σ Kp := by
      intro hw hg
      rcases denGo_inv hg with ⟨v, σ', hd, hk⟩ | ⟨x, σ', hd, hk⟩
      · split at hk
        · rename_i hacc
          simp only [List.all_eq_true, Bool.or_eq_true] at hacc
          exact hnext v _ σ' (.does v σ' hw hd) hacc hk
        · cases hk
      · split at hk
        · rename_i hacc
          simp only [Bool.and_eq_true, List.all_eq_true, Bool.or_eq_true, List.isEmpty_iff] at hacc
          refine .inr ⟨[], (o, i, an, k), rest, fr, σ, x, σ', rfl, .nil _ _, .nil, fun e h => (by cases h), hw, hd, hacc.1, fun e h => (by cases h), hacc.2, fun e h => (by cases h), hk⟩
        · cases hk
    have hskip : Skipped arr.toList fr o → (denDraw C arr.toList rest (acc ++ [(i, .no)]) (put fr o.dst (.tup [])) σ K Kp).go run loop lr lo = some r →
        EndN C run loop lr lo r arr ((o, i, an, k) :: rest) acc fr σ K ∨ EndP C run loop lr lo r arr ((o, i, an, k) :: rest) acc fr σ Kp :=
      fun hs hk => hnext _ .no σ (.skip hs) (fun q _ => .inr (apartF_no _)) hk
    unfold denDraw at h
    simp only at h
    split at h
    · rename_i hg
      exact hgo (.inl hg) h
    · rename_i j w0 hg
      split at h
      · cases h
      · rename_i dj hdj
        split at h
        · rename_i b hb
          rcases go_br h with ⟨hbw, h⟩ | ⟨hbw, h⟩
          · have : b = w0 := by simpa using hbw
            subst this
            rw [set_same hb] at h
            exact hgo (.inr ⟨j, b, dj, hg, hdj, hb⟩) h
          · have hne : b ≠ w0 := by simpa using hbw
            have : (!w0) = b := by cases b <;> cases w0 <;> simp at hne ⊢
            rw [this, set_same hb] at h
            exact hskip ⟨j, w0, dj, hg, hdj, .inr ⟨b, hne, hb⟩⟩ h
        · rename_i hb
          exact hskip ⟨j, w0, dj, hg, hdj, .inl hb⟩ h
        · cases h

/-- A step, carried out. -/
theorem Step.wpOp (hp : PrimOk C.P C.H) (hrun : RunOk C.P run) {q : Item} {v : AV} {ft : Foot} {fr : Fr} {σ σ' : Heap} {ρ : Gr} {S : Cells} {w : World} {a : Act} {N : Act → World → Prop} {Q : Exit → Act → World → Prop}
    (ho : arr[q.at]? = some q.op) (hs : Step C.P C.H run arr.toList q.op q.new fr σ v σ' ft) (hr : Rel C.P σ ρ S w) (hf : FR C.P σ ρ S w fr a.tmps)
    (hN : ∀ (cv : Value) (ρ' : Gr) (S' : Cells) (w' : World), Rel C.P σ' ρ' S' w' → Ext σ ρ S w σ' ρ' S' w' → VA3 C.P σ' ρ' S' w' v cv → N (a.put q.op.dst cv) w') : wpOp C.P arr Q q.at N a w := by
  unfold Go.wpOp
  simp only [ho]
  cases hs with
  | skip hs =>
    obtain ⟨j, w0, dj, hg, hdj, hb⟩ := hs
    have hw : Region.wanted q.op (yielded arr a.tmps) = false := by
      unfold Region.wanted
      rw [hg]
      rcases hb with hb | ⟨b, hne, hb⟩
      · obtain ⟨cv, h1, h2⟩ := hf.get hb
        rw [VA3_skip_inv h2] at h1
        simp [yielded_undef hdj h1]
      · simpa [yielded_bool hdj (hf.bool hb)] using hne
    rw [hw]
    exact hN undef ρ S w hr (Ext.refl _ _ _ _) VA3_skip
  | does v σ' hw hd =>
    have hw' : Region.wanted q.op (yielded arr a.tmps) = true := by
      unfold Region.wanted
      rcases hw with hg | ⟨j, w0, dj, hg, hdj, hb⟩
      · rw [hg]
      · rw [hg]
        simp [yielded_bool hdj (hf.bool hb)]
    rw [if_pos hw']
    exact .inl (hd.wp hp hrun hr hf hN)

theorem foldl_forget {P : Program} {σ : Heap} {ρ : Gr} {S : Cells} {w : World} {a : Act} : ∀ (ops : List Oper) (fr : Fr), FR P σ ρ S w fr a.tmps → FR P σ ρ S w (ops.foldl (fun f o => put f o.dst .undef) fr) a.tmps
  | [], _, h => h
  | o :: ops, fr, h => by
    simp only [List.foldl_cons]
    refine foldl_forget ops _ ?_
    refine ⟨by rw [put_len]; exact h.1, fun t v ht => ?_⟩
    by_cases hd : o.dst = some t
    · rw [hd] at ht
      simp only [put] at ht
      rw [List.getElem?_set] at ht
      simp only [if_true] at ht
      split at ht
      · rename_i hl
        injection ht with ht; subst ht
        exact ⟨_, Array.getElem?_eq_getElem (by rw [h.1]; exact hl), VA3_undef⟩
      · cases ht
    · rw [put_ne hd] at ht
      exact h.2 t v ht

/-- Taking one of the steps that are ready. -/
theorem take_free {l : List Ev} {e : Ev} (hm : e ∈ l) (hpw : l.Pairwise (Free arr)) (hno : ∀ p ∈ l, e.1.an.testBit p.1.at = false) :
    ∃ pre post, l = pre ++ e :: post ∧ (∀ p ∈ pre, apartF p.2.2 e.2.2 = true ∧ p.1.op.apart arr e.1.op = true) ∧ (pre ++ post).Pairwise (Free arr) := by
  obtain ⟨pre, post, rfl⟩ := List.append_of_mem hm
  refine ⟨pre, post, rfl, fun p hp => ?_, hpw.sublist (List.Sublist.append_left (List.sublist_cons_self e post) pre)⟩
  rcases (List.pairwise_append.1 hpw).2.2 p hp e (by simp) with h | h
  · rw [hno p (List.mem_append_left _ hp)] at h; cases h
  · exact h

theorem norm_ok (hp : PrimOk C.P C.H) (hrun : RunOk C.P run) {anc : Nat → Nat} {frE : Fr} {σE σ0 : Heap} {ρ0 : Gr} {S0 : Cells} {w0 : World} {Q : Exit → Act → World → Prop}
    (hQ : ∀ (ρ : Gr) (S : Cells) (w : World) (a : Act), a.defers = D → Rel C.P σE ρ S w → Ext σ0 ρ0 S0 w0 σE ρ S w → FR C.P σE ρ S w frE a.tmps → Q .normal a w) :
    ∀ (fuel : Nat) (l : List Ev) (listed : Array Bool) (fr : Fr) (σ : Heap) (ρ : Gr) (S : Cells) (w : World) (a : Act), Left arr anc listed (l.map (·.1)) → l.length ≤ fuel → Trace C.P C.H run arr.toList l fr σ frE σE → l.Pairwise (Free arr) → a.defers = D →
      Rel C.P σ ρ S w → Ext σ0 ρ0 S0 w0 σ ρ S w → FR C.P σ ρ S w fr a.tmps → wpAny C.P .any arr Q fuel listed a w
  | fuel, [], listed, fr, σ, ρ, S, w, a, hl, _, ht, _, hd, hr, he, hf => by
    cases ht with
    | nil => exact wpAny_done hl.none (hQ ρ S w a hd hr he hf) fuel
  | 0, e :: l, _, _, _, _, _, _, _, _, hfu, _, _, _, _, _, _ => by simp at hfu
  | fuel + 1, e :: l, listed, fr, σ, ρ, S, w, a, hl, hfu, ht, hpw, hd, hr, he, hf => by
    refine ⟨fun h0 => ?_, fun i hi => ?_⟩
    · have := hl.first (q := e.1) (l := l.map (·.1)) rfl
      rw [h0] at this; cases this
    · obtain ⟨q, hq, rfl, hno⟩ := hl.ready hi
      obtain ⟨e', hm, rfl⟩ := List.mem_map.1 hq
      obtain ⟨pre, post, heq, hfree, hpw'⟩ := take_free hm hpw fun p hp => hno p.1 (List.mem_map.2 ⟨p, hp, rfl⟩)
      rw [heq] at ht hl hfu
      rw [List.map_append, List.map_cons] at hl
      obtain ⟨σ1, hs, ht'⟩ := Trace.bubble pre _ _ ht hfree
      have hl' := hl.take hi
      rw [← List.map_append] at hl'
      refine hs.wpOp hp hrun (hl.op e'.1 (by simp)).1 hr hf fun cv ρ' S' w' h1 h2 h3 => ?_
      refine norm_ok hp hrun hQ fuel (pre ++ post) _ _ σ1 ρ' S' w' _ hl' ?_ ht' hpw' (by rw [put_defers]; exact hd) h1 (he.trans h2) ((hf.mono h2).put _ h3)
      simp at hfu ⊢; omega

theorem pan_ok (hp : PrimOk C.P C.H) (hrun : RunOk C.P run) {anc : Nat → Nat} {frE frU : Fr} {σE σ0 σ' : Heap} {ρ0 : Gr} {S0 : Cells} {w0 : World} {Q : Exit → Act → World → Prop} {q : Item} {rest : List Item} {x : E}
    (hpan : Pans C.P C.H run q.op frE σE x σ') (hwant : Wanted arr.toList frE q.op) (hrest : ∀ p ∈ rest, p.an.testBit q.at = true) (hU : arr.toList.foldl (fun f q => put f q.dst .undef) frE = frU)
    (hQ : ∀ (cv : Value) (ρ : Gr) (S : Cells) (w : World) (a : Act), a.defers = D → Rel C.P σ' ρ S w → Ext σ0 ρ0 S0 w0 σ' ρ S w → FR C.P σ' ρ S w frU a.tmps → VE C.P w S x cv → Q (.panic [{ v := cv, recovered := false }]) a w) :
    ∀ (fuel : Nat) (l : List Ev) (listed : Array Bool) (fr : Fr) (σ : Heap) (ρ : Gr) (S : Cells) (w : World) (a : Act), Left arr anc listed (l.map (·.1) ++ q :: rest) → l.length < fuel → Trace C.P C.H run arr.toList l fr σ frE σE → l.Pairwise (Free arr) →
      (∀ e ∈ l, q.an.testBit e.1.at = true ∨ e.2.2.wr = []) → (∀ e ∈ l, q.an.testBit e.1.at = true ∨ e.1.op.apart arr q.op = true) → a.defers = D →
      Rel C.P σ ρ S w → Ext σ0 ρ0 S0 w0 σ ρ S w → FR C.P σ ρ S w fr a.tmps → wpAny C.P .any arr Q fuel listed a w
  | 0, _, _, _, _, _, _, _, _, _, hfu, _, _, _, _, _, _, _, _ => by simp at hfu
  | fuel + 1, l, listed, fr, σ, ρ, S, w, a, hl, hfu, ht, hpw, hwr, hqa, hd, hr, he, hf => by
    refine ⟨fun h0 => ?_, fun i hi => ?_⟩
    · obtain ⟨q1, l1, h1⟩ : ∃ q1 l1, l.map (·.1) ++ q :: rest = q1 :: l1 := by
        cases l with
        | nil => exact ⟨_, _, rfl⟩
        | cons e l => exact ⟨_, _, rfl⟩
      have := hl.first h1
      rw [h0] at this; cases this
    · obtain ⟨q', hq, rfl, hno⟩ := hl.ready hi
      have hqm : q ∈ l.map (·.1) ++ q :: rest := by simp
      rcases List.mem_append.1 hq with hq | hq
      · -- one of the steps ahead
        obtain ⟨e', hm, rfl⟩ := List.mem_map.1 hq
        obtain ⟨pre, post, heq, hfree, hpw'⟩ := take_free hm hpw fun p hp => hno p.1 (List.mem_append_left _ (List.mem_map.2 ⟨p, hp, rfl⟩))
        rw [heq] at ht hl hfu
        have hsub : ∀ e ∈ pre ++ post, e ∈ l := fun e he => by
          rw [heq]; rcases List.mem_append.1 he with h | h
          · exact List.mem_append_left _ h
          · exact List.mem_append_right _ (List.mem_cons_of_mem _ h)
        rw [List.map_append, List.map_cons, List.append_assoc, List.cons_append] at hl
        obtain ⟨σ1, hs, ht'⟩ := Trace.bubble pre _ _ ht hfree
        have hl' := hl.take hi
        rw [← List.append_assoc, ← List.map_append] at hl'
        refine hs.wpOp hp hrun (hl.op e'.1 (by simp)).1 hr hf fun cv ρ' S' w' h1 h2 h3 => ?_
        refine pan_ok hp hrun hpan hwant hrest hU hQ fuel (pre ++ post) _ _ σ1 ρ' S' w' _ hl' ?_ ht' hpw' (fun e he => hwr e (hsub e he)) (fun e he => hqa e (hsub e he)) (by rw [put_defers]; exact hd) h1 (he.trans h2) ((hf.mono h2).put _ h3)
        simp at hfu ⊢; omega
      · rcases List.mem_cons.1 hq with rfl | hq
        · -- the panic itself
          have hnl : ∀ e ∈ l, q'.an.testBit e.1.at = false := fun e he => hno e.1 (List.mem_append_left _ (List.mem_map.2 ⟨e, he, rfl⟩))
          have hσ := ht.idle fun e he => (hwr e he).resolve_left (by rw [hnl e he]; simp)
          have hsame := ht.same (o := q'.op) fun e he => (hqa e he).resolve_left (by rw [hnl e he]; simp)
          subst hσ
          have hpan' := hpan.congr hsame.operands
          have hw : Region.wanted q'.op (yielded arr a.tmps) = true := by
            unfold Region.wanted
            rcases hwant with hg | ⟨j, w0, dj, hg, hdj, hb⟩
            · rw [hg]
            · rw [hg]
              have hb' : fr[dj]? = some (.e (.bool w0)) := by rw [hsame.guard hg hdj]; exact hb
              simp [yielded_bool hdj (hf.bool hb')]
          unfold Go.wpOp
          simp only [(hl.op q' hqm).1]
          rw [if_pos hw]
          refine .inl (hpan'.wp hp hrun hr hf fun cv ρ' S' w' h1 h2 h3 => hQ cv ρ' S' w' a hd h1 (he.trans h2) ?_ h3)
          have hu : arr.toList.foldl (fun f q => put f q.dst .undef) fr = frU := by
            rw [← hU]
            refine (ht.undef fun e he => ?_).symm
            have := (hl.op e.1 (List.mem_append_left _ (List.mem_map.2 ⟨e, he, rfl⟩))).1
            exact List.mem_of_getElem? (i := e.1.at) (by simpa using this)
          rw [← hu]
          exact foldl_forget _ _ (hf.mono h2)
        · exfalso
          have := hno q hqm
          rw [hrest q' hq] at this; cases this

theorem nodup_len : ∀ (n : Nat) (l : List Nat), l.Nodup → (∀ x ∈ l, x < n) → l.length ≤ n
  | 0, l, _, h => by
    cases l with
    | nil => simp
    | cons x l => have := h x (by simp); omega
  | n + 1, l, hn, h => by
    by_cases hm : n ∈ l
    · have h1 := nodup_len n (l.erase n) (hn.erase n) fun x hx => by
        have h2 := (hn.mem_erase_iff).1 hx
        have := h x h2.2
        have := h2.1
        omega
      rw [List.length_erase_of_mem hm] at h1
      omega
    · have := nodup_len n l hn fun x hx => by
        have := h x hx
        have : x ≠ n := fun e => hm (e ▸ hx)
        omega
      omega

/-- A region that draws its order. -/
theorem draw_ok (hp : PrimOk C.P C.H) (hrun : RunOk C.P run) (hm : C.P.follows .mixedOrders = true) {id : Nat} {fr : Fr} {σ : Heap} {K : Fr → Heap → T} {Kp : E → Fr → Heap → T} {Q : Exit → Act → World → Prop} {l : List Item} {is : List Nat} {n : Nat}
    (hl : laid C.P arr.toList (ancs arr.toList []) is n = some l) (hlen : l.length = arr.toList.length) (ho : orderOk l 0 = true) (hap : apartOk arr l = true)
    (h : (denDraw C arr.toList l [] fr σ K Kp).go run loop lr lo = some r) {ρ : Gr} {S : Cells} {w : World} {a : Act} (hr : Rel C.P σ ρ S { w with drawn := w.drawn + 1 }) (hf : FR C.P σ ρ S { w with drawn := w.drawn + 1 } fr a.tmps) (hd : a.defers = D)
    (hK : ∀ (fr' : Fr) (σ' : Heap) (ρ' : Gr) (S' : Cells) (w' : World) (a' : Act), a'.defers = D → Rel C.P σ' ρ' S' w' → Ext σ ρ S { w with drawn := w.drawn + 1 } σ' ρ' S' w' → FR C.P σ' ρ' S' w' fr' a'.tmps → (K fr' σ').go run loop lr lo = some r → Q .normal a' w')
    (hKp : ∀ (x : E) (fr' : Fr) (σ' : Heap) (ρ' : Gr) (S' : Cells) (w' : World) (a' : Act) (cv : Value), a'.defers = D → Rel C.P σ' ρ' S' w' → Ext σ ρ S { w with drawn := w.drawn + 1 } σ' ρ' S' w' → FR C.P σ' ρ' S' w' fr' a'.tmps →
      VE C.P w' S' x cv → (Kp x fr' σ').go run loop lr lo = some r → Q (.panic [{ v := cv, recovered := false }]) a' w') :
    (Code.region id arr true).wp C.P Q a w := by
  refine wp_region_any hm ?_
  obtain ⟨hord, hself⟩ := orderOk_spec l 0 ho
  have hspec := laid_spec is n l hl
  have hat : ∀ q ∈ l, q.at < arr.size := fun q hq => by
    have := (hspec q hq).1
    simpa using (List.getElem?_eq_some_iff.1 this).1
  -- each number comes
  have hall : ∀ j, j < arr.size → ∃ q ∈ l, q.at = j := by
    intro j hj
    have hnd : (l.map Item.at).Nodup := by
      rw [List.nodup_iff_pairwise_ne, List.pairwise_map]
      exact hord.imp fun h => h.1
    refine Classical.byContradiction fun hno => ?_
    have := nodup_len arr.size (j :: l.map Item.at) (List.nodup_cons.2 ⟨fun hm => ?_, hnd⟩) fun x hx => ?_
    · simp [hlen] at this; omega
    · obtain ⟨q, hq, he⟩ := List.mem_map.1 hm
      exact hno ⟨q, hq, he⟩
    · rcases List.mem_cons.1 hx with rfl | hx
      · exact hj
      · obtain ⟨q, hq, rfl⟩ := List.mem_map.1 hx
        exact hat q hq
  have hleft : Left arr (fun i => (ancs arr.toList []).getD i 0) (Array.replicate arr.size false) l := by
    refine ⟨by simp, fun j => ?_, fun q hq => ⟨by simpa using (hspec q hq).1, (hspec q hq).2⟩, hord, fun q hq e he hb => ?_, fun j hj => ?_, fun q hq t ht => ?_⟩
    · constructor
      · intro hj
        rcases Nat.lt_or_ge j arr.size with h | h
        · exact hall j h
        · simp [Array.getD_eq_getD_getElem?, Array.getElem?_eq_none (xs := Array.replicate arr.size false) (i := j) (by simpa using h)] at hj
      · rintro ⟨q, hq, rfl⟩
        have := hat q hq
        simp [Array.getD_eq_getD_getElem?, this]
    · obtain ⟨h1, h2⟩ := hself q hq e he hb
      refine ⟨h1, ?_⟩
      rcases h2 with h2 | ⟨p, h2, h3⟩
      · simp at h2
      · rw [← h3]; exact hat p h2
    · exfalso
      rcases Nat.lt_or_ge j arr.size with h | h
      · simp [Array.getD_eq_getD_getElem?, h] at hj
      · simp [Array.getD_eq_getD_getElem?, Array.getElem?_eq_none (xs := Array.replicate arr.size false) (i := j) (by simpa using h)] at hj
    · obtain ⟨e, h1, h2⟩ := ancs_spec' arr.toList [] q.at q.op t (hspec q hq).1 (by simpa using ht)
      exact ⟨e, by simpa using h1, h2⟩
  have hlen' : l.length = arr.size := by simpa using hlen
  rcases denDraw_inv l [] fr σ hap h with ⟨evs, frE, σE, h1, h2, h3, _, h5⟩ | ⟨evs, q, rest, frE, σE, x, σ', h1, h2, h3, _, h5, h6, _, h8, h9, h10, h11⟩
  · subst h1
    exact norm_ok hp hrun (D := D) (fun ρ' S' w' a' k1 k2 k3 k4 => hK frE σE ρ' S' w' a' k1 k2 k3 k4 h5) arr.size evs _ fr σ ρ S _ a hleft (by simp at hlen'; omega) h2 h3 hd hr (Ext.refl _ _ _ _) hf
  · subst h1
    exact pan_ok hp hrun (D := D) h6 h5 h9 rfl (fun cv ρ' S' w' a' k1 k2 k3 k4 k5 => hKp x _ σ' ρ' S' w' a' cv k1 k2 k3 k4 k5 h11) arr.size evs _ fr σ ρ S _ a hleft (by simp at hlen'; omega) h2 h3 h8 h10 hd hr (Ext.refl _ _ _ _) hf

end
end Go.Den
