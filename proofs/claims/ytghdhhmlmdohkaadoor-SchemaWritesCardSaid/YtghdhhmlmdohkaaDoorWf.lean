/- The program's Write. -/
import Derived.Test.YtghdhhmlmdohkaaDoorWd
namespace Go.Proofs.YtghdhhmlmdohkaaDoor
open Go Go.Den
set_option maxRecDepth 100000

theorem sep_tail : ∀ ts : List (List UInt8), sepT [44] ts = Lib.joinTail [44] ts := by
  intro ts
  induction ts with
  | nil => rfl
  | cons t ts ih =>
    show [44] ++ t ++ sepT [44] ts = _
    rw [ih]
    simp [Lib.joinTail]
theorem sep_join {s : List UInt8} {ts : List (List UInt8)} (h : ts ≠ []) : sepT s ts = s ++ Lib.join ts [44] := by
  cases ts with
  | nil => exact absurd rfl h
  | cons t ts =>
    rw [Lib.join_cons, ← sep_tail]
    show s ++ t ++ sepT [44] ts = _
    simp

theorem put_fin {X : List E} {b w : List UInt8} (h : X = bytesE (b ++ w)) : PutOk (some (.ret (yes (decide (((X.length : Nat) : Int) ≤ 65536))), bldE X)) b w := by
  subst h
  rw [bytesE_len]
  by_cases hb : (b ++ w).length ≤ 65536
  · rw [dec_yes (by omega)]
    exact .inl ⟨by rw [← List.length_append]; exact hb, rfl⟩
  · rw [dec_no (by omega)]
    exact .inr ⟨by rw [← List.length_append]; omega, _, rfl⟩
theorem putOk_of {args : List AV} {σ : Heap} {X : Option (Res × Heap)} {f : FuncId} {b w : List UInt8} (hb : bodyRun PP HH RR LL none f args σ = X) (h : PutOk X b w) : PutOk (RR none f args σ) b w := by
  rcases h with ⟨h1, h2⟩ | ⟨h1, b', h2⟩
  · exact .inl ⟨h1, run_of_body (hb.trans h2)⟩
  · exact .inr ⟨h1, b', run_of_body (hb.trans h2)⟩
theorem condK {q : Bool} {x y : Option (Res × Heap)} {b w : List UInt8} (hq : q = true) (h : PutOk x b w) : PutOk (bif q then x else y) b w := by rw [hq]; exact h
theorem condK' {q : Bool} {x y : Option (Res × Heap)} {b w : List UInt8} (hq : q = false) (h : PutOk y b w) : PutOk (bif q then x else y) b w := by rw [hq]; exact h
theorem bindK {x : Option (Res × Heap)} {r : Res × Heap} {b w : List UInt8} {K : Res × Heap → Option (Res × Heap)} (h : x = some r) (hK : PutOk (K r) b w) : PutOk (x.bind K) b w := by rw [h]; exact hK

theorem bindKo {x : Option Out} {r : Out} {b w : List UInt8} {K : Out → Option (Res × Heap)} (h : x = some r) (hK : PutOk (K r) b w) : PutOk (x.bind K) b w := by rw [h]; exact hK

theorem quotS_len (x : List UInt8) : x.length + 2 ≤ (quotS x).length := by
  have := len_flatMap_esc x
  unfold quotS
  simp only [List.length_cons, List.length_append, List.length_nil]
  omega

theorem vlC_ok (k n : Int) (x : List UInt8) (ns vs : List E) (s c b : List UInt8) : (okFr ([AV.ptr 0 0, AV.undef, AV.undef, AV.ptr 2 0, AV.undef, str [], str []] ++ List.replicate 76 AV.undef) (putX (vlC k n x ns vs) s c b).2 && okHeap [.box [.nsp 0 69, .own 1 5 []], .vec 5 0, .box [num 0, num 0, str [], .e (.sl 9 []), .e (.sl 38 [])]] (putX (vlC k n x ns vs) s c b).3) = true := by kernel_rfl

/-- Behind the loop over a list's elements. -/
theorem put_after {k n : Int} {x : List UInt8} {ns vs : List E} {o c b : List UInt8} {ts : List (List UInt8)} {X : Option Out} (hts : ts = [] ↔ vs.length = 0) (ho : o.length = 1) (hc : c.length = 1) (hb : b.length ≤ 100000)
    (h : PutL X (vlC k n x ns vs) o c b ts) :
    PutOk (X.bind fun o => bif o.ex.isWay (Way.exit 1) then
      bif okFr ([AV.ptr 0 0, AV.undef, AV.undef, AV.ptr 2 0, AV.undef, str [], str []] ++ List.replicate 76 AV.undef) o.2 && okHeap [.box [.nsp 0 69, .own 1 5 []], .vec 5 0, .box [num 0, num 0, str [], .e (.sl 9 []), .e (.sl 38 [])]] o.3 then
        bif (((((o.hp.ob 2).cell 4).data.toList.length : Nat) : Int) == 0) then
          bif decide ((o.hp.ob 1).len = ((o.hp.ob 0).cell 1).data.toList.length) && decide ((((o.hp.ob 0).cell 1).data.toList.length + (bytesE (List.getD o.fr 5 AV.undef).data.toStr).length) * 1 ≤ 140737488355328) then
            bif decide ((((o.hp.ob 0).cell 1).data.toList ++ bytesE (List.getD o.fr 5 AV.undef).data.toStr).length = (((o.hp.ob 0).cell 1).data.toList ++ bytesE (List.getD o.fr 5 AV.undef).data.toStr).length) && decide (((((o.hp.ob 0).cell 1).data.toList ++ bytesE (List.getD o.fr 5 AV.undef).data.toStr).length + (bytesE (List.getD o.fr 6 AV.undef).data.toStr).length) * 1 ≤ 140737488355328) then
              some (Res.ret (yes (decide ((((((o.hp.ob 0).cell 1).data.toList ++ bytesE (List.getD o.fr 5 AV.undef).data.toStr ++ bytesE (List.getD o.fr 6 AV.undef).data.toStr).length : Nat) : Int) ≤ 65536))), bldE (((o.hp.ob 0).cell 1).data.toList ++ bytesE (List.getD o.fr 5 AV.undef).data.toStr ++ bytesE (List.getD o.fr 6 AV.undef).data.toStr))
            else none else none
        else bif decide ((o.hp.ob 1).len = ((o.hp.ob 0).cell 1).data.toList.length) && decide ((((o.hp.ob 0).cell 1).data.toList.length + (bytesE (List.getD o.fr 6 AV.undef).data.toStr).length) * 1 ≤ 140737488355328) then
          some (Res.ret (yes (decide ((((((o.hp.ob 0).cell 1).data.toList ++ bytesE (List.getD o.fr 6 AV.undef).data.toStr).length : Nat) : Int) ≤ 65536))), bldE (((o.hp.ob 0).cell 1).data.toList ++ bytesE (List.getD o.fr 6 AV.undef).data.toStr))
          else none else none
      else bif o.ex.isWay Way.ret then bif okFr ([AV.undef, AV.undef, AV.undef, AV.undef, yes false] ++ List.replicate 78 AV.undef) o.2 && okHeap [.box [.nsp 0 69, .own 1 5 []], .vec 5 0] o.3 then
        some (Res.ret (yes (List.getD o.fr 4 AV.undef).data.toBool), [.box [.nsp 0 69, .own 1 5 ((o.hp.ob 0).cell 1).data.toList], .vec 5 (o.hp.ob 1).len]) else none else none) b (o ++ Lib.join ts [44] ++ c) := by
  rcases h with ⟨h1, h2⟩ | ⟨h0, h1, b', h2⟩
  · refine bindKo h2 (condK rfl (condK (vlC_ok ..) ?_))
    by_cases hv : ts = []
    · subst hv
      have hl := hts.1 rfl
      refine condK (by show (((vs.length : Nat) : Int) == 0) = true; rw [hl]; rfl) ?_
      have e0 : b ++ sepT o [] = b := List.append_nil b
      show PutOk (bif decide ((bytesE (b ++ sepT o [])).length = (bytesE (b ++ sepT o [])).length) && decide (((bytesE (b ++ sepT o [])).length + (bytesE o).length) * 1 ≤ 140737488355328) then
        bif decide ((bytesE (b ++ sepT o []) ++ bytesE o).length = (bytesE (b ++ sepT o []) ++ bytesE o).length) && decide (((bytesE (b ++ sepT o []) ++ bytesE o).length + (bytesE c).length) * 1 ≤ 140737488355328) then
          some (Res.ret (yes (decide ((((bytesE (b ++ sepT o []) ++ bytesE o ++ bytesE c).length : Nat) : Int) ≤ 65536))), bldE (bytesE (b ++ sepT o []) ++ bytesE o ++ bytesE c)) else none else none) b _
      rw [e0]
      refine condK (size_ok (by rw [bytesE_len, bytesE_len]; omega)) (condK (size_ok (by rw [bytesE_app, bytesE_len, bytesE_len]; simp; omega)) (put_fin ?_))
      rw [bytesE_app, bytesE_app]
      show _ = bytesE (b ++ (o ++ [] ++ c))
      simp
    · have hl : vs.length ≠ 0 := fun e => hv (hts.2 e)
      refine condK' (by show (((vs.length : Nat) : Int) == 0) = false; exact ne_beq (by omega)) ?_
      have hle := h1.resolve_left hv
      show PutOk (bif decide ((bytesE (b ++ sepT o ts)).length = (bytesE (b ++ sepT o ts)).length) && decide (((bytesE (b ++ sepT o ts)).length + (bytesE c).length) * 1 ≤ 140737488355328) then
          some (Res.ret (yes (decide ((((bytesE (b ++ sepT o ts) ++ bytesE c).length : Nat) : Int) ≤ 65536))), bldE (bytesE (b ++ sepT o ts) ++ bytesE c)) else none) b _
      refine condK (size_ok (by rw [bytesE_len, bytesE_len, List.length_append]; omega)) (put_fin ?_)
      rw [bytesE_app, sep_join hv]
      simp
  · refine bindKo h2 (condK' rfl (condK rfl (condK rfl (.inr ⟨?_, b', rfl⟩))))
    rw [sep_join h0] at h1
    rw [List.length_append]; omega

end Go.Proofs.YtghdhhmlmdohkaaDoor
