/- The program's Write: what it answers. -/
import Derived.Test.YtghdhhmlmdohkaaDoorWf
namespace Go.Proofs.YtghdhhmlmdohkaaDoor
open Go Go.Den
set_option maxRecDepth 100000

theorem writ5 (d : Nat) (vs : List E) : writS (d + 1) (mkV 9 38 5 0 [] [] vs) = [91] ++ Lib.join (vs.map (writS d)) [44] ++ [93] := rfl
theorem writ6 (d : Nat) (ns vs : List E) : writS (d + 1) (mkV 9 38 6 0 [] ns vs) = [123] ++ Lib.join (List.zipWith (entT (writS d)) ns vs) [44] ++ [125] := rfl
theorem tail_mem : ∀ {ts : List (List UInt8)} {t : List UInt8}, t ∈ ts → ∀ s, t.length ≤ (sepT s ts).length := by
  intro ts
  induction ts with
  | nil => intro t h; cases h
  | cons u ts ih =>
    intro t h s
    show t.length ≤ (s ++ u ++ sepT [44] ts).length
    rcases List.mem_cons.1 h with rfl | h
    · simp only [List.length_append]; omega
    · have := ih h [44]
      simp only [List.length_append]; omega
theorem join_mem {ts : List (List UInt8)} {t s : List UInt8} (h : t ∈ ts) : t.length ≤ (s ++ Lib.join ts [44]).length := by
  rw [← sep_join (by rintro rfl; cases h)]
  exact tail_mem h s

theorem put_run : ∀ (d : Nat) (v : E), d ≤ 100 → FulV 9 38 d v → Val v → (writS d v).length ≤ 100000 → ∀ b : List UInt8, b.length + 20 * d ≤ 80000 → PutOk (RR none 47 [.ptr 0 0, slotsOf v] (bld b)) b (writS d v)
  | 0, _, _, h, _, _, _, _ => by cases h
  | d + 1, v, hd, fv, hv, hw, b, hb => by
    have bl := bytesE_len b
    rcases fv with ⟨n, rfl, n0, n1⟩ | ⟨x, rfl⟩ | rfl | rfl | ⟨vs, rfl, fe⟩ | ⟨ns, vs, rfl, hnv, asc, hns, fe⟩
    · -- a number
      have hlen := itoa_len (n := n) (by omega) (by omega)
      refine putOk_of (eq_put RR LL (bytesE b) 1 n [] [] []) (condK rfl (condK ?_ (condK (size_ok (by rw [bl, bytesE_len]; omega)) (put_fin (bytesE_app _ _)))))
      rw [dec_yes (by omega), dec_yes (by omega)]; rfl
    · -- a text
      have e : writS (d + 1) (mkV 9 38 2 0 x [] []) = quotS x := rfl
      rw [e] at hw ⊢
      have hq := quotS_len x
      refine putOk_of (eq_put RR LL (bytesE b) 2 0 x [] []) (condK' rfl (condK rfl ?_))
      have hwr : IntKind.i64.wrap (((bytesE b).length : Int) + (x.length : Int)) = (b.length : Int) + (x.length : Int) := by
        rw [bl]; exact wrap_in (by omega) (by omega)
      rw [hwr]
      by_cases hbig : (65536 : Int) < (b.length : Int) + (x.length : Int)
      · exact condK (dec_yes hbig) (.inr ⟨by omega, b, rfl⟩)
      · have qr := quote_run (x := x) (b := b) (by omega) (by omega)
        refine condK' (dec_no hbig) (bindK qr (condK rfl (condK rfl ?_)))
        exact put_fin (b := b) (w := quotS x) rfl
    · have e2 : bytesE b ++ [E.int .u8 ((102 : Nat) : Int), E.int .u8 ((97 : Nat) : Int), E.int .u8 ((108 : Nat) : Int), E.int .u8 ((115 : Nat) : Int), E.int .u8 ((101 : Nat) : Int)] = bytesE (b ++ [102, 97, 108, 115, 101]) := by
        rw [← bytesE_app]; rfl
      exact putOk_of (eq_put RR LL (bytesE b) 3 0 [] [] []) (condK' rfl (condK' rfl (condK rfl (condK rfl (condK (size_ok (by rw [bl]; omega)) (put_fin e2))))))
    · have e2 : bytesE b ++ [E.int .u8 ((116 : Nat) : Int), E.int .u8 ((114 : Nat) : Int), E.int .u8 ((117 : Nat) : Int), E.int .u8 ((101 : Nat) : Int)] = bytesE (b ++ [116, 114, 117, 101]) := by
        rw [← bytesE_app]; rfl
      exact putOk_of (eq_put RR LL (bytesE b) 3 1 [] [] []) (condK' rfl (condK' rfl (condK rfl (condK' rfl (condK (size_ok (by rw [bl]; omega)) (put_fin e2))))))
    · rw [writ5] at hw ⊢
      cases hv with
      | mk _ _ _ _ _ hx hn hnl hv hvl hk hnum =>
      have hf : ∀ v ∈ vs, ∀ b : List UInt8, b.length ≤ 80000 - 20 * d → PutOk (RR none 47 [.ptr 0 0, slotsV v] (bld b)) b (writS d v) := fun v hm b hb => by
        rw [slotsV_eq (hv v hm)]
        have := join_mem (s := [91]) (List.mem_map_of_mem (f := writS d) hm)
        exact put_run d v (by omega) (fe v hm) (hv v hm) (by rw [List.length_append] at hw; omega) b (by omega)
      have e := put_loop (k := 5) (n := 0) (x := []) (c := [93]) (ns := []) hvl (by omega) (by omega) (by simp) (fun h => by cases h) (by simp) hf vs.length 0 [91] b (by omega) (by simp) (by omega)
      have hi : itemsS (writS d) ((5 : Int) == 6) (([] : List E).drop 0) (vs.drop 0) = vs.map (writS d) := rfl
      rw [hi] at e
      refine putOk_of (eq_put RR LL (bytesE b) 5 0 [] [] vs) (condK' rfl (condK' rfl (condK' rfl (condK' rfl ?_))))
      exact put_after (by simp) rfl rfl (by omega) e
    · rw [writ6] at hw ⊢
      cases hv with
      | mk _ _ _ _ _ hx hn hnl hv hvl hk hnum =>
      have hf : ∀ v ∈ vs, ∀ b : List UInt8, b.length ≤ 80000 - 20 * d → PutOk (RR none 47 [.ptr 0 0, slotsV v] (bld b)) b (writS d v) := fun v hm b hb => by
        rw [slotsV_eq (hv v hm)]
        obtain ⟨i, hi, rfl⟩ := List.getElem_of_mem hm
        have hm2 : entT (writS d) (ns[i]'(by omega)) vs[i] ∈ List.zipWith (entT (writS d)) ns vs := by
          have hlen : i < (List.zipWith (entT (writS d)) ns vs).length := by rw [List.length_zipWith]; omega
          have := List.getElem_mem hlen
          rwa [List.getElem_zipWith] at this
        have := join_mem (s := [123]) hm2
        have h3 : (writS d vs[i]).length ≤ (entT (writS d) (ns[i]'(by omega)) vs[i]).length := by unfold entT; simp only [List.length_append]; omega
        exact put_run d _ (by omega) (fe _ hm) (hv _ hm) (by rw [List.length_append] at hw; omega) b (by omega)
      have e := put_loop (k := 6) (n := 0) (x := []) (c := [125]) (ns := ns) hvl (by omega) (by omega) (by simp) (fun _ => hnv) (fun o ho => by obtain ⟨m, rfl, _, hm⟩ := hns o ho; exact hm) hf vs.length 0 [123] b (by omega) (by simp) (by omega)
      have hi : itemsS (writS d) ((6 : Int) == 6) (ns.drop 0) (vs.drop 0) = List.zipWith (entT (writS d)) ns vs := rfl
      rw [hi] at e
      refine putOk_of (eq_put RR LL (bytesE b) 6 0 [] ns vs) (condK' rfl (condK' rfl (condK' rfl (condK rfl ?_))))
      refine put_after ?_ rfl rfl (by omega) e
      constructor
      · intro h
        have : (List.zipWith (entT (writS d)) ns vs).length = 0 := by rw [h]; rfl
        rw [List.length_zipWith] at this
        omega
      · intro h; have : vs = [] := List.length_eq_zero_iff.1 h; subst this; simp

end Go.Proofs.YtghdhhmlmdohkaaDoor
