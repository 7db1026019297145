/- Every operation that is no call of a Go function is carried out by the model as the interpreter says. -/
import Derived.Test.YtdlfldeacoiokaaDn13
namespace Go.Den
open Go

theorem srcOf_ok {P : Program} {S : Cells} {w : World} {σ : Heap} {ρ : Gr} {et tx : TypeId} {v : AV} {ys : List E} {cv : Value} {fs : List TypeId} (h : srcOf P et tx v = some ys) (hfs : flat P depth et = some fs) (h0 : fs.length ≠ 0) (hv : VA3 P σ ρ S w v cv) :
    ∃ news, Src P fs.length tx cv ys.length news w ∧ Laid P S w fs.length ys news ∧ ∀ (i : Nat) (y : E), ys[i]? = some y → okRow P et y = true := by
  unfold srcOf at h
  split at h
  · rename_i s
    split at h
    · rename_i h1 h2
      injection h with h; subst h
      have hf1 : fs = [et] := flat_one (P := P) (by unfold isAggB; rw [h2]) hfs
      subst hf1
      obtain ⟨news, n1, n2⟩ := src_string (P := P) h1 (show VE P w S (.str s) cv from hv)
      refine ⟨news, n1, n2, fun i y hy => ?_⟩
      rw [List.getElem?_map] at hy
      obtain ⟨c, _, hy⟩ := Option.map_eq_some_iff.1 hy
      subst hy
      refine okRow_mk hfs rfl fun j ct x h3 h4 => ?_
      match j with
      | 0 =>
        simp at h3; subst h3
        simp [E.cells] at h4; subst h4
        simp [okCell, h2]
      | j + 1 => simp at h3
    · cases h
  · rename_i v _
    split at h
    · rename_i h1 h2
      split at h
      · rename_i h3
        obtain ⟨rfl, rfl⟩ := h3
        injection h with h; subst h
        have hve := seal1_3 h2 hv
        obtain ⟨news, n1, n2⟩ := src_slice hfs h0 h1 hve
        exact ⟨news, n1, n2, VE_sl_rows hve⟩
      · cases h
    · cases h

theorem sliceLit_ok {P : Program} {σ : Heap} {ρ : Gr} {S : Cells} {w : World} {fr : Fr} {a : Act} {o : Oper} {t et : TypeId} {len : Nat} {parts : Array (Nat × Operand)} {xs : List E} (hr : Rel P σ ρ S w) (hf : FR P σ ρ S w fr a.tmps)
    (hop : o.op = .buildSlice t len parts) (h : sliceLit P fr t len parts = some (et, xs)) :
    OpOk P σ ρ S w a o (.e (.sl et xs)) σ ∧ ∀ (k : Nat) (σ1 : Heap), fillAt σ k (.vec et xs.length) = some σ1 → OpOk P σ ρ S w a o (.own k et xs) σ1 := by
  unfold sliceLit at h
  split at h
  · rename_i et ht
    split at h
    · rename_i z sz ps fs hz hs hps hfs
      split at h
      · cases h
      · rename_i hc
        simp only [not_or, Classical.not_not, ne_eq] at hc
        obtain ⟨c1, c2, c3, c4, c5⟩ := hc
        split at h
        · rename_i cs hcs
          split at h
          · rename_i es hes
            split at h
            · rename_i hok
              injection h with h; injection h with h1 h2; subst h1; subst h2
              exact op_buildSlice hr hf hop ht hz hs hps hfs c1 c2 (by omega) c4 c5 hcs hes hok
            · cases h
          · cases h
        · cases h
    · cases h
  · cases h

theorem evalPure_ok {P : Program} {σ : Heap} {ρ : Gr} {S : Cells} {w : World} {fr : Fr} {a : Act} {o : Oper} {ops : List Oper} {v : AV} (hr : Rel P σ ρ S w) (hf : FR P σ ρ S w fr a.tmps)
    (h : evalPure P ops fr o = some (true, v)) : OpOk P σ ρ S w a o v σ := by
  unfold evalPure at h
  split at h
  · -- move
    rename_i x hop
    obtain ⟨u, hu, h⟩ := Option.map_eq_some_iff.1 h
    injection h with _ h; subst h
    exact op_move hr hf hop hu
  · -- assign
    rename_i x hop
    obtain ⟨u, hu, h⟩ := Option.map_eq_some_iff.1 h
    injection h with _ h; subst h
    exact op_assign hr hf hop hu
  · -- pick
    rename_i c x y hop
    split at h
    · rename_i b bx by' hc hx hy
      injection h with h; injection h with _ h; subst h
      have := op_pick hr hf hop hc hx hy
      cases b <;> exact this
    · rename_i b va vb _ hc hx hy
      injection h with h; injection h with _ h; subst h
      exact op_pick hr hf hop hc hx hy
    · cases h
  · -- build
    rename_i t parts hop
    split at h
    · rename_i zs fs hz ht
      split at h
      · rename_i places ps hpl hps
        obtain ⟨cs, hcs, h⟩ := Option.map_eq_some_iff.1 h
        injection h with _ h; subst h
        exact op_build hr hf hop hz ht hpl hps hcs
      · cases h
    · cases h
  · -- buildSlice
    rename_i t len parts hop
    split at h
    · obtain ⟨⟨et, xs⟩, hq, h⟩ := Option.map_eq_some_iff.1 h
      injection h with _ h; subst h
      exact (sliceLit_ok hr hf hop hq).1
    · cases h
  · -- load
    rename_i t x hop
    split at h
    · rename_i et y off hx
      split at h
      · rename_i hs
        obtain ⟨u, hu, h⟩ := Option.map_eq_some_iff.1 h
        injection h with _ h; subst h
        exact op_load_pin hr hf hop hx hu hs
      · cases h
    · cases h
  · -- nilCheck
    rename_i x hop
    split at h
    · rename_i hx
      injection h with h; injection h with _ h; subst h
      exact op_nilCheck_ptr hr hf hop hx
    · rename_i hx
      injection h with h; injection h with _ h; subst h
      exact op_nilCheck_pin hr hf hop hx
    · rename_i hx
      injection h with h; injection h with _ h; subst h
      exact op_nilCheck_fn hr hf hop hx
    · rename_i hx
      injection h with h; injection h with _ h; subst h
      exact op_nilCheck_clo hr hf hop hx
    · rename_i hx
      injection h with h; injection h with _ h; subst h
      exact op_nilCheck_ifc hr hf hop hx
    · cases h
  · -- binOp
    rename_i op t x y t' hop
    split at h
    · rename_i u1 u2 h1 h2
      obtain ⟨⟨ok, r⟩, hb, h⟩ := Option.map_eq_some_iff.1 h
      injection h with h0 h; subst h
      simp only at h0
      subst h0
      exact op_bin hr hf hop h1 h2 hb
    · cases h
  · -- unOp
    rename_i op t x hop
    obtain ⟨u, hu, h⟩ := Option.map_eq_some_iff.1 h
    injection h with _ h; subst h
    obtain ⟨u0, h3, h4⟩ := Option.bind_eq_some_iff.1 hu
    exact op_unop hr hf hop h3 h4
  · -- convert
    rename_i src dst x hop
    split at h
    · rename_i hs hd hx
      injection h with h; injection h with _ h; subst h
      exact op_convert hr hf hop hs hd hx
    · rename_i hs hd hx
      injection h with h; injection h with _ h; subst h
      exact op_convert_str hr hf hop hs hd hx
    · cases h
  · -- makeInterface
    rename_i t x hop
    split at h
    · cases h
    · rename_i d u hn ht hx
      injection h with h; injection h with _ h; subst h
      exact op_makeIface hr hf hop ht (fun ms e => hn ms e) hx
    · cases h
  · -- slice
    rename_i t x lo hi hop
    split at h
    · rename_i s ht hx
      split at h
      · rename_i l hh hl hhi
        injection h with h; injection h with h0 h; subst h
        simp only [Bool.and_eq_true, decide_eq_true_eq] at h0
        exact op_slice_str hr hf hop ht hx hl hhi h0.1.1 h0.1.2 h0.2
      · cases h
    · rename_i et u ht hx
      split at h
      · rename_i et' xs hu
        split at h
        · rename_i hc
          obtain ⟨rfl, hsz⟩ := hc
          split at h
          · rename_i l hh hl hhi
            injection h with h; injection h with h0 h; subst h
            simp only [Bool.and_eq_true, decide_eq_true_eq] at h0
            exact op_slice_sl hr hf hop ht hx hu hsz hl hhi h0.1.1 h0.1.2 h0.2
          · cases h
        · cases h
      · cases h
    · cases h
  · -- fieldAddr
    rename_i s x i hop
    split at h
    · rename_i fs hs
      split at h
      · rename_i f hfi
        split at h
        · rename_i hn
          obtain ⟨n, hn1, hn2⟩ : ∃ n, sizeB P f.type = some n ∧ n ≠ 0 := by
            cases hq : sizeB P f.type with
            | none => simp [hq] at hn
            | some n => exact ⟨n, rfl, by simpa [hq] using hn⟩
          split at h
          · rename_i hx
            injection h with h; injection h with _ h; subst h
            exact op_fieldAddr_ptr hr hf hop hs hfi hn1 hn2 hx
          · rename_i hx
            injection h with h; injection h with _ h; subst h
            exact op_fieldAddr_pin hr hf hop hs hfi hn1 hn2 hx
          · cases h
        · cases h
      · cases h
    · cases h
  · -- field
    rename_i t x i hop
    split at h
    · rename_i fs cs ht hx
      split at h
      · rename_i f hfi
        split at h
        · rename_i ha
          split at h
          · rename_i n hn
            split at h
            · rename_i hl
              injection h with h; injection h with _ h; subst h
              exact op_field_agg hr hf hop ht hfi hx hn ha hl
            · cases h
          · cases h
        · rename_i ha
          split at h
          · rename_i hs
            obtain ⟨n, hn⟩ := Option.isSome_iff_exists.1 hs
            obtain ⟨u, hu, h⟩ := Option.map_eq_some_iff.1 h
            injection h with _ h; subst h
            exact op_field_one hr hf hop ht hfi hx hn (by simpa using ha) hu
          · cases h
      · cases h
    · cases h
  · -- indexAddr
    rename_i t x i hop
    split at h
    · rename_i et et' xs k n ht hx hi
      split at h
      · rename_i hc
        obtain ⟨rfl, hsz, hz⟩ := hc
        injection h with h; injection h with h0 h; subst h
        simp only [Bool.and_eq_true, decide_eq_true_eq] at h0
        obtain ⟨u, hu, hs⟩ := Option.bind_eq_some_iff.1 hx
        exact op_indexAddr hr hf hop ht hu hs hi hsz hz h0.1 h0.2
      · cases h
    · cases h
  · -- index
    rename_i t x i hop
    split at h
    · rename_i s k n ht hx hi
      injection h with h; injection h with h0 h; subst h
      simp only [Bool.and_eq_true, decide_eq_true_eq] at h0
      exact op_index_str hr hf hop ht hx hi h0.1 h0.2
    · cases h
  · -- typeAssert
    rename_i x u t ok hop
    split at h
    · cases h
    · rename_i d q vv hn ht hx
      split at h
      · rename_i v' hun
        obtain ⟨r, hres, h⟩ := Option.map_eq_some_iff.1 h
        injection h with _ h; subst h
        exact op_typeAssert hr hf hop ht (fun ms e => hn ms e) hx hun hres
      · cases h
    · cases h
  · -- makeFunc
    rename_i f first captured hop
    split at h
    · rename_i h0
      obtain ⟨ps, hp, h⟩ := Option.map_eq_some_iff.1 h
      injection h with _ h; subst h
      exact op_makeFunc hr hf hop h0 hp
    · cases h
  · -- extract
    rename_i x i hop
    split at h
    · rename_i vs hx
      obtain ⟨u, hu, h⟩ := Option.map_eq_some_iff.1 h
      injection h with _ h; subst h
      exact op_extract hr hf hop hx hu
    · cases h
  · -- len
    rename_i args ats hop
    split at h
    · rename_i s ht hx
      injection h with h; injection h with _ h; subst h
      exact op_len_str hr hf hop hx ht
    · rename_i et u ht hx
      split at h
      · rename_i hs
        injection h with h; injection h with _ h; subst h
        exact op_len_sl hr hf hop hx hs ht
      · cases h
    · cases h
  · -- max
    rename_i args _ hop
    split at h
    · rename_i hx
      split at h
      · rename_i hk; subst hk
        injection h with h; injection h with _ h; subst h
        exact op_max hr hf hop hx
      · cases h
    · cases h
  · rename_i args _ hop
    split at h
    · rename_i hx
      split at h
      · rename_i hk; subst hk
        injection h with h; injection h with _ h; subst h
        exact op_min hr hf hop hx
      · cases h
    · cases h
  · cases h

theorem evalHeap_ok {P : Program} {σ σ' : Heap} {ρ : Gr} {S : Cells} {w : World} {fr : Fr} {a : Act} {o : Oper} {k : Nat} {ops : List Oper} {v : AV} (hr : Rel P σ ρ S w) (hf : FR P σ ρ S w fr a.tmps)
    (h : evalHeap P ops fr σ k o = some (true, v, σ')) : OpOk P σ ρ S w a o v σ' := by
  unfold evalHeap at h
  split at h
  · -- box
    rename_i t x hop
    split at h
    · rename_i u n hu hn
      split at h
      · rename_i hc
        split at h
        · rename_i cs σ1 hp
          obtain ⟨σ2, hfill, h⟩ := Option.map_eq_some_iff.1 h
          injection h with _ h; injection h with h1 h2; subst h1; subst h2
          exact op_box hr hf hop hu hc.2 hp hfill
        · cases h
      · cases h
    · cases h
  · -- alloc
    rename_i t hop
    split at h
    · rename_i u hu
      split at h
      · rename_i cs σ1 hp
        obtain ⟨σ2, hfill, h⟩ := Option.map_eq_some_iff.1 h
        injection h with _ h; injection h with h1 h2; subst h1; subst h2
        exact op_alloc hr hop hu hp hfill
      · cases h
    · cases h
  · -- buildSlice
    rename_i t len parts hop
    split at h
    · cases h
    · split at h
      · rename_i et xs hq
        obtain ⟨σ1, hfill, h⟩ := Option.map_eq_some_iff.1 h
        injection h with _ h; injection h with h1 h2; subst h1; subst h2
        exact (sliceLit_ok hr hf hop hq).2 _ _ hfill
      · cases h
  · -- load
    rename_i t x hop
    split at h
    · rename_i id off hx
      split at h
      · rename_i cs n hb hn
        split at h
        · rename_i hl
          split at h
          · rename_i ha
            injection h with h; injection h with _ h; injection h with h1 h2; subst h1; subst h2
            exact op_load_agg hr hf hop hx hb hn hl ha
          · rename_i ha
            split at h
            · obtain ⟨u, hu, h⟩ := Option.map_eq_some_iff.1 h
              injection h with _ h; injection h with h1 h2; subst h1; subst h2
              exact op_load_one hr hf hop hx hb hn (by simpa using ha) hu
            · cases h
        · cases h
      · cases h
    · cases h
  · -- store
    rename_i t x y hop
    split at h
    · rename_i id off u n hx hy hn
      split at h
      · rename_i cs hb
        split at h
        · rename_i hc
          obtain ⟨⟨pc, σ1⟩, hp, h⟩ := Option.map_eq_some_iff.1 h
          injection h with _ h; injection h with h1 h2; subst h1; subst h2
          exact op_store hr hf hop hx hy hb hn hc.1 hc.2.1 hc.2.2 hp
        · cases h
      · cases h
    · cases h
  · -- range
    rename_i t x hop
    split at h
    · rename_i ht hx
      obtain ⟨σ1, hfill, h⟩ := Option.map_eq_some_iff.1 h
      injection h with _ h; injection h with h1 h2; subst h1; subst h2
      exact op_range hr hf hop ht hx hfill
    · cases h
  · -- append
    rename_i args ats hop
    · split at h
      · rename_i t tx x y hats hargs
        have e1 : ats = #[t, tx] := by rw [← hats]
        have e2 : args = #[x, y] := by rw [← hargs]
        subst e1; subst e2
        split at h
        · rename_i et ht
          split at h
          · rename_i i fs s ys hi hfs hs hys
            split at h
            · rename_i hc
              obtain ⟨c1, c2, c3, c4⟩ := hc
              obtain ⟨z, hz, hzs⟩ : ∃ z, i.zero = some z ∧ z.cells.size = fs.length := by
                cases hq : i.zero with
                | none => simp [hq] at c1
                | some z => exact ⟨z, rfl, by simpa [hq] using c1⟩
              have T : AppTypes P et t tx i fs z := ⟨ht, hi, hz, hzs, c2, hfs, c3, c4⟩
              obtain ⟨u, hu, hsrc⟩ := Option.bind_eq_some_iff.1 hys
              obtain ⟨news, n1, n2, n3⟩ := srcOf_ok hsrc hfs c3 (evalT_ok hf hu)
              have hsv := evalT_ok hf hs
              split at h
              · split at h
                · rename_i he
                  subst he
                  obtain ⟨σ1, hfill, h⟩ := Option.map_eq_some_iff.1 h
                  injection h with h0 h; injection h with h1 h2; subst h1; subst h2
                  obtain ⟨h3, _⟩ : a.eval x = .slice none 0 0 ∧ _ := hsv
                  exact op_append_nil hr hop T h3 rfl n1 n2 n3 (of_decide_eq_true h0) hfill
                · cases h
              · rename_i id et' xs
                split at h
                · rename_i et'' n hv
                  split at h
                  · rename_i he
                    obtain ⟨rfl, rfl⟩ := he
                    injection h with h; injection h with h0 h; injection h with h1 h2; subst h1; subst h2
                    simp only [Bool.and_eq_true, decide_eq_true_eq] at h0
                    obtain ⟨rfl, h0⟩ := h0
                    exact op_append_own hr hop T hsv hv rfl n1 n2 n3 h0
                  · cases h
                · cases h
              · cases h
            · cases h
          · cases h
        · cases h
      · cases h
  · cases h

theorem evalOp_ok {P : Program} {σ σ' : Heap} {ρ : Gr} {S : Cells} {w : World} {fr : Fr} {a : Act} {o : Oper} {k : Nat} {ops : List Oper} {v : AV} (hr : Rel P σ ρ S w) (hf : FR P σ ρ S w fr a.tmps)
    (h : evalOp P ops fr σ k o = some (true, v, σ')) : OpOk P σ ρ S w a o v σ' := by
  unfold evalOp at h
  split at h
  · rename_i b v' hp
    injection h with h; injection h with h0 h; injection h with h1 h2; subst h0; subst h1; subst h2
    exact evalPure_ok hr hf hp
  · exact evalHeap_ok hr hf h

theorem evalStill_ok {P : Program} {σ : Heap} {ρ : Gr} {S : Cells} {w : World} {fr : Fr} {a : Act} {o : Oper} {ops : List Oper} {v : AV} (hr : Rel P σ ρ S w) (hf : FR P σ ρ S w fr a.tmps)
    (h : evalStill P ops fr σ o = some (true, v)) : OpOk P σ ρ S w a o v σ := by
  unfold evalStill at h
  split at h
  · rename_i t x hop
    obtain ⟨⟨b, v', σ'⟩, he, h⟩ := Option.map_eq_some_iff.1 h
    injection h with h1 h2
    simp only at h1 h2
    subst h1; subst h2
    have hs : σ' = σ := by
      unfold evalOp at he
      split at he
      · injection he with he; injection he with _ he; injection he with _ he; exact he.symm
      · unfold evalHeap at he
        rw [hop] at he
        simp only at he
        split at he
        · split at he
          · split at he
            · split at he
              · injection he with he; injection he with _ he; injection he with _ he; exact he.symm
              · split at he
                · obtain ⟨_, _, he⟩ := Option.map_eq_some_iff.1 he
                  injection he with _ he; injection he with _ he; exact he.symm
                · cases he
            · cases he
          · cases he
        · cases he
    subst hs
    exact evalOp_ok hr hf he
  · exact evalPure_ok hr hf h
end Go.Den
