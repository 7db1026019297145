/- From a run of the interpreter to a row: a law that returns true, whatever data it is handed, and leaves all that was there. -/
import Derived.Test.YtdlfldeacoiokaaDn26
namespace Go.Den
open Go Go.ChangeShapes Go.WideShapes Go.RowKit

section
variable {H : Type} {enc : TypeId × Value → H} {P : Program}

theorem trodAll_stays (hl : laidOutB P = true) {W W' : World} (hb : Below W.heap.size W W') : ∀ {ts : List TypeId} {vs : List Value} {ds : List (DataW H)} {ps : List MemPlace},
    (∀ t ∈ ts, P.readableRec t = true ∧ t < P.types.size) → DataW.TrodAll enc P W 0 (fun _ => true) true ts vs ds ps → (∀ x ∈ ps, x.block < W.heap.size) →
    DataW.TrodAll enc P W' 0 (fun b => decide (b < W.heap.size)) true ts vs ds ps
  | [], _, _, _, _, h, _ => by
    obtain ⟨rfl, rfl, rfl⟩ := trodAll_nil h
    rfl
  | t :: ts, _, _, _, ht, h, hlt => by
    obtain ⟨v, vs, d, ds, p, q, rfl, rfl, rfl, h1, h2⟩ := trodAll_cons h
    exact ⟨p, q, Below.trod hl (ht t (by simp)).1 (ht t (by simp)).2 h1 hb (fun x hx => hlt x (by simp [hx])), trodAll_stays hl hb (fun t' h' => ht t' (by simp [h'])) h2 (fun x hx => hlt x (by simp [hx])), rfl⟩

theorem trodAll_len {w : World} {base : Nat} {sp : Nat → Bool} {held : Bool} : ∀ {ts : List TypeId} {vs : List Value} {ds : List (DataW H)} {ps : List MemPlace}, DataW.TrodAll enc P w base sp held ts vs ds ps → ds.length = ts.length
  | [], _, _, _, h => by obtain ⟨_, rfl, _⟩ := trodAll_nil h; rfl
  | _ :: _, _, _, _, h => by
    obtain ⟨v, vs', d, ds', p', q', _, rfl, _, _, h2⟩ := trodAll_cons h
    simp [trodAll_len h2]

/-- A parameter's types, as the interpreter needs them. -/
def paramB (P : Program) (L : List TypeId) (t : TypeId) : Bool := L.contains t && (flat P depth t).isSome && P.readableRec t && decide (t < P.types.size)

def ParamTy (P : Program) (t : TypeId) (es : List E) : Prop := ∃ ft, flat P depth t = some ft ∧ All2 (CellTy P) ft es

theorem trodAll_open {w : World} {base : Nat} {r : Reach} {L : List TypeId} (hL : shapesB P L = true) : ∀ {ts : List TypeId} {vs : List Value} {ds : List (DataW H)} {ps : List MemPlace},
    (∀ t ∈ ts, paramB P L t = true) → DataW.TrodAll enc P w 0 (fun _ => true) true ts vs ds ps → (∀ (j : Nat) (t : TypeId) (v : Value), ts[j]? = some t → vs[j]? = some v → Value.okWide P w r base t v) →
    ∃ ess : List (List E), All2 (ParamTy P) ts ess ∧ vs.length = (List.zipWith (argOf P) ts ess).length ∧
      ∀ (j : Nat) (a : AV), (List.zipWith (argOf P) ts ess)[j]? = some a → ∃ v, vs[j]? = some v ∧ VA2 P [] [] (AllCells w) w a v
  | [], _, _, _, _, h, _ => by
    obtain ⟨rfl, rfl, rfl⟩ := trodAll_nil h
    exact ⟨[], .nil, rfl, by simp⟩
  | t :: ts, _, _, _, ht, h, hval => by
    obtain ⟨v, vs, d, ds, p, q, rfl, rfl, rfl, h1, h2⟩ := trodAll_cons h
    obtain ⟨ess, k1, k2, k3⟩ := trodAll_open hL (fun t' h' => ht t' (by simp [h'])) h2 (fun j t' v' e1 e2 => hval (j + 1) t' v' (by simpa using e1) (by simpa using e2))
    have hp := ht t (by simp)
    unfold paramB at hp
    simp only [Bool.and_eq_true, decide_eq_true_eq] at hp
    obtain ⟨ft, hft⟩ := Option.isSome_iff_exists.1 hp.1.1.2
    obtain ⟨es, e1, e2⟩ := open_data hL (by simpa using hp.1.1.1) hft (hval 0 t v rfl rfl) h1
    refine ⟨es :: ess, .cons ⟨ft, hft, e1⟩ k1, by simpa using k2, ?_⟩
    intro j a ha
    cases j with
    | zero => simp at ha; subst ha; exact ⟨v, rfl, e2⟩
    | succ j => exact k3 j a (by simpa using ha)

/-- What the law's runs must come to. -/
def LawRuns (P : Program) (H : Hints) (n : FuncId) (ts : List TypeId) : Prop :=
  ∀ ess : List (List E), All2 (ParamTy P) ts ess → ∃ k, runK P H k none n (List.zipWith (argOf P) ts ess) [] = some (.ret (.e (.bool true)), [])

theorem Rel.empty {w : World} (hT : TabsOk P [] w) : Rel P [] [] (AllCells w) w :=
  ⟨rfl, fun id cs h => by simp at h, fun id et n b c h => by simp at h, fun id r h => by simp at h, fun id h => by simp at h, fun id b c h => by simp at h, fun i j b c c' h => by simp at h, fun _ _ h => h, hT⟩

theorem law_contract {Hn : Hints} {L : List TypeId} (hL : shapesB P L = true) {n : FuncId} {f : Func} {s : ChangeSpec} {conds : List PathCond} {tb : TypeId} (hm : P.follows .mixedOrders = true) (hN : Named P) (hprim : PrimOk P Hn)
    (hl : laidOutB P = true) (hps : f.params.toList.all (paramB P L) = true) (hres : f.resultTypes = #[tb]) (hb : P.underlying tb = some .bool) (hvars : s.vars = [])
    (hfn : ∀ ds : List (DataW H), ds.length = f.params.toList.length → s.fn H ds = { results := [.lit (.bool true)], args := ds })
    (hrun : LawRuns P Hn n f.params.toList) (W : World) (hT : TabsOk P [] W) (base : Nat) (args : Array Value) (ds gs : List (DataW H)) (before : List MemPlace)
    (hval : ∀ (j : Nat) t v, f.params[j]? = some t → args[j]? = some v → Value.okWide P W .any base t v)
    (hW : DataW.Whole enc P f.params.toList s.vars false W args.toList ds gs before) (_ : conds.all (PathCond.test P ⟨f.params.toList, ds, s.plain.varTypes P, gs⟩) = true) :
    Calls P n args W fun e W' => ∃ v, e = .returned v ∧ s.post enc P f false true false false W args v W' := by
  obtain ⟨p, q, hA, hV, hbefore, hfz, hnd⟩ := id hW
  have hV' : DataW.TrodVars enc P W (fun _ => true) [] gs q := by rw [← hvars]; exact hV
  obtain ⟨rfl, rfl⟩ := trodVars_none hV'
  have hps' : ∀ t ∈ f.params.toList, paramB P L t = true := List.all_eq_true.1 hps
  obtain ⟨ess, h1, h2, h3⟩ := trodAll_open (r := .any) (base := base) hL hps' hA fun j t v e1 e2 => hval j t v (by simpa using e1) (by simpa using e2)
  obtain ⟨k, hk⟩ := hrun ess h1
  obtain ⟨_, hc⟩ := (runK_ok hm hN hprim k).1 none n _ _ _ _ hk
  refine (hc [] (AllCells W) W args (Rel.empty hT) ⟨by simpa using h2, ?_⟩).mono ?_
  · intro j a ha
    obtain ⟨v, e1, e2⟩ := h3 j a ha
    exact ⟨v, by simpa using e1, e2⟩
  · rintro e W' ⟨ρ', S', r1, r2, cv, rfl, r3⟩
    have hcv : VE P W' S' (.bool true) cv := r3
    cases hcv
    have hbelow : Below W.heap.size W W' := ⟨r2.os, r2.tape, r2.output, r2.size, fun b hb => r2.old b hb (fun id c => by simp)⟩
    have hlt : ∀ x ∈ p, x.block < W.heap.size := fun x hx => hW.lt x (by rw [hbefore]; simp [hx])
    have hdl : ds.length = f.params.toList.length := trodAll_len hA
    have hspec := hfn ds hdl
    refine ⟨.bool true, rfl, ds, [], before, [], p, [], hW, ?_, ?_, ?_, hbelow.frame _, fun h => by cases h⟩
    · rw [List.append_nil, hspec, hres]
      exact trodAll_mk1 (shut_bool hb true)
    · rw [List.append_nil, hspec]
      exact trodAll_stays hl hbelow (fun t ht => by
        have := hps' t ht
        unfold paramB at this
        simp only [Bool.and_eq_true, decide_eq_true_eq] at this
        exact ⟨this.1.2, this.2⟩) hA hlt
    · rw [List.append_nil, hspec, hvars]
      rfl
end
end Go.Den
