/- Dn4: texts Ze14 .. Ze16 in one. -/
import Derived.Test.YtapndkailgcboaaGreatDoorDn3
import Derived.Recover
/- Every operation that is no call of a Go function is carried out by the model as the interpreter says. -/
namespace Go.Den
open Go

theorem srcOf_ok {P : Program} {S : Cells} {w : World} {σ : Heap} {ρ : Gr} {et tx : TypeId} {v : AV} {ys : List E} {cv : Value} {fs : List TypeId} (h : srcOf P et tx v = some ys) (hfs : flat P depth et = some fs) (h0 : fs.length ≠ 0) (hv : VA3 P σ ρ S w v cv) :
    ∃ news, Src P fs.length tx cv ys.length news w ∧ Laid P S w fs.length ys news ∧ ∀ (i : Nat) (y : E), ys[i]? = some y → okRow P et y = true := by
  unfold srcOf at h
  split at h
  · rename_i s
    split at h
    · rename_i h1 h2
      injection h with h; subst h
      have hf1 : fs = [et] := flat_one (P := P) (by unfold isAggB; rw [h2]) hfs
      subst hf1
      obtain ⟨news, n1, n2⟩ := src_string (P := P) h1 (show VE P w S (.str s) cv from hv)
      refine ⟨news, n1, n2, fun i y hy => ?_⟩
      rw [List.getElem?_map] at hy
      obtain ⟨c, _, hy⟩ := Option.map_eq_some_iff.1 hy
      subst hy
      refine okRow_mk hfs rfl fun j ct x h3 h4 => ?_
      match j with
      | 0 =>
        simp at h3; subst h3
        simp [E.cells] at h4; subst h4
        simp [okCell, h2]
      | j + 1 => simp at h3
    · cases h
  · rename_i v _
    split at h
    · rename_i h1 h2
      split at h
      · rename_i h3
        obtain ⟨rfl, rfl⟩ := h3
        injection h with h; subst h
        have hve := seal1_3 h2 hv
        obtain ⟨news, n1, n2⟩ := src_slice hfs h0 h1 hve
        exact ⟨news, n1, n2, VE_sl_rows hve⟩
      · cases h
    · cases h

theorem sliceLit_ok {P : Program} {σ : Heap} {ρ : Gr} {S : Cells} {w : World} {fr : Fr} {a : Act} {o : Oper} {t et : TypeId} {len : Nat} {parts : Array (Nat × Operand)} {xs : List E} (hr : Rel P σ ρ S w) (hf : FR P σ ρ S w fr a.tmps)
    (hop : o.op = .buildSlice t len parts) (h : sliceLit P fr t len parts = some (et, xs)) :
    OpOk P σ ρ S w a o (.e (.sl et xs)) σ ∧ ∀ (k : Nat) (σ1 : Heap), fillAt σ k (.vec et xs.length) = some σ1 → OpOk P σ ρ S w a o (.own k et xs) σ1 := by
  unfold sliceLit at h
  split at h
  · rename_i et ht
    split at h
    · rename_i z sz ps fs hz hs hps hfs
      split at h
      · cases h
      · rename_i hc
        simp only [not_or, Classical.not_not, ne_eq] at hc
        obtain ⟨c1, c2, c3, c4, c5⟩ := hc
        split at h
        · rename_i cs hcs
          split at h
          · rename_i es hes
            split at h
            · rename_i hok
              injection h with h; injection h with h1 h2; subst h1; subst h2
              exact op_buildSlice hr hf hop ht hz hs hps hfs c1 c2 (by omega) c4 c5 hcs hes hok
            · cases h
          · cases h
        · cases h
    · cases h
  · cases h

theorem evalPure_ok {P : Program} {σ : Heap} {ρ : Gr} {S : Cells} {w : World} {fr : Fr} {a : Act} {o : Oper} {ops : List Oper} {v : AV} (hr : Rel P σ ρ S w) (hf : FR P σ ρ S w fr a.tmps)
    (h : evalPure P ops fr o = some (true, v)) : OpOk P σ ρ S w a o v σ := by
  unfold evalPure at h
  split at h
  · -- move
    rename_i x hop
    obtain ⟨u, hu, h⟩ := Option.map_eq_some_iff.1 h
    injection h with _ h; subst h
    exact op_move hr hf hop hu
  · -- assign
    rename_i x hop
    obtain ⟨u, hu, h⟩ := Option.map_eq_some_iff.1 h
    injection h with _ h; subst h
    exact op_assign hr hf hop hu
  · -- pick
    rename_i c x y hop
    split at h
    · rename_i b bx by' hc hx hy
      injection h with h; injection h with _ h; subst h
      have := op_pick hr hf hop hc hx hy
      cases b <;> exact this
    · rename_i b va vb _ hc hx hy
      injection h with h; injection h with _ h; subst h
      exact op_pick hr hf hop hc hx hy
    · cases h
  · -- build
    rename_i t parts hop
    split at h
    · rename_i zs fs hz ht
      split at h
      · rename_i places ps hpl hps
        obtain ⟨cs, hcs, h⟩ := Option.map_eq_some_iff.1 h
        injection h with _ h; subst h
        exact op_build hr hf hop hz ht hpl hps hcs
      · cases h
    · cases h
  · -- buildSlice
    rename_i t len parts hop
    split at h
    · obtain ⟨⟨et, xs⟩, hq, h⟩ := Option.map_eq_some_iff.1 h
      injection h with _ h; subst h
      exact (sliceLit_ok hr hf hop hq).1
    · cases h
  · -- load
    rename_i t x hop
    split at h
    · rename_i et y off hx
      split at h
      · rename_i hs
        obtain ⟨u, hu, h⟩ := Option.map_eq_some_iff.1 h
        injection h with _ h; subst h
        exact op_load_pin hr hf hop hx hu hs
      · cases h
    · cases h
  · -- nilCheck
    rename_i x hop
    split at h
    · rename_i hx
      injection h with h; injection h with _ h; subst h
      exact op_nilCheck_ptr hr hf hop hx
    · rename_i hx
      injection h with h; injection h with _ h; subst h
      exact op_nilCheck_pin hr hf hop hx
    · rename_i hx
      injection h with h; injection h with _ h; subst h
      exact op_nilCheck_fn hr hf hop hx
    · rename_i hx
      injection h with h; injection h with _ h; subst h
      exact op_nilCheck_clo hr hf hop hx
    · rename_i hx
      injection h with h; injection h with _ h; subst h
      exact op_nilCheck_ifc hr hf hop hx
    · rename_i hx
      injection h with h; injection h with _ h; subst h
      exact op_nilCheck_eptr hr hf hop hx
    · cases h
  · -- binOp
    rename_i op t x y t' hop
    split at h
    · rename_i u1 u2 h1 h2
      split at h
      · rename_i hn
        obtain ⟨r, hb, h⟩ := Option.map_eq_some_iff.1 h
        injection h with _ h; subst h
        exact op_nilS hr hf hop h1 hn hb
      · obtain ⟨⟨ok, r⟩, hb, h⟩ := Option.map_eq_some_iff.1 h
        injection h with h0 h; subst h
        simp only at h0
        subst h0
        exact op_cmp hr hf hop h1 h2 hb
    · cases h
  · -- unOp
    rename_i op t x hop
    obtain ⟨u, hu, h⟩ := Option.map_eq_some_iff.1 h
    injection h with _ h; subst h
    obtain ⟨u0, h3, h4⟩ := Option.bind_eq_some_iff.1 hu
    exact op_unop hr hf hop h3 h4
  · -- convert
    rename_i src dst x hop
    split at h
    · rename_i hs hd hx
      injection h with h; injection h with _ h; subst h
      exact op_convert hr hf hop hs hd hx
    · rename_i hs hd hx
      injection h with h; injection h with _ h; subst h
      exact op_convert_str hr hf hop hs hd hx
    · rename_i et v hs hd hx
      exact op_convert_bytes hr hf hop hs hd hx h rfl
    · cases h
  · -- makeInterface
    rename_i t x hop
    split at h
    · cases h
    · rename_i d u hn ht hx
      injection h with h; injection h with _ h; subst h
      exact op_makeIface hr hf hop ht (fun ms e => hn ms e) hx
    · cases h
  · -- slice
    rename_i t x lo hi hop
    split at h
    · rename_i s ht hx
      split at h
      · rename_i l hh hl hhi
        injection h with h; injection h with h0 h; subst h
        simp only [Bool.and_eq_true, decide_eq_true_eq] at h0
        exact op_slice_str hr hf hop ht hx hl hhi h0.1.1 h0.1.2 h0.2
      · cases h
    · rename_i et id et' n off len ht hx
      split at h
      · rename_i hc
        obtain ⟨rfl, hsz⟩ := hc
        split at h
        · rename_i l hh hl hhi
          injection h with h; injection h with h0 h; subst h
          simp only [Bool.and_eq_true, decide_eq_true_eq] at h0
          exact op_slice_mv hr hf hop ht hx hsz hl hhi h0.1.1 h0.1.2 h0.2
        · cases h
      · cases h
    · rename_i et u _ ht hx
      split at h
      · rename_i et' xs hu
        split at h
        · rename_i hc
          obtain ⟨rfl, hsz⟩ := hc
          split at h
          · rename_i l hh hl hhi
            injection h with h; injection h with h0 h; subst h
            simp only [Bool.and_eq_true, decide_eq_true_eq] at h0
            exact op_slice_sl hr hf hop ht hx hu hsz hl hhi h0.1.1 h0.1.2 h0.2
          · cases h
        · cases h
      · cases h
    · cases h
  · -- a full piece
    rename_i t x lo hi mx hop
    split at h
    · rename_i et et' xs ht hx
      obtain ⟨u, hu, hv⟩ := Option.bind_eq_some_iff.1 hx
      split at h
      · rename_i hc
        obtain ⟨rfl, hsz⟩ := hc
        split at h
        · rename_i l hh hi' km m hl hm hhi
          split at h
          · injection h with h; injection h with h0 h; subst h
            simp only [Bool.and_eq_true, decide_eq_true_eq] at h0
            exact op_slice3_nil hr hf hop ht hu hv hsz hl hhi rfl (show evalO fr (.const (.int _ 0)) = some (.e (.int _ 0)) from rfl) h0.1 h0.2
          · injection h with h; injection h with h0 h; subst h
            simp only [Bool.and_eq_true, decide_eq_true_eq] at h0
            exact op_slice3 hr hf hop ht hu hv hsz hl hhi rfl hm h0.1.1.1 h0.1.1.2 h0.1.2 h0.2
        · cases h
      · cases h
    · cases h
  · -- fieldAddr
    rename_i s x i hop
    split at h
    · rename_i fs hs
      split at h
      · rename_i f hfi
        split at h
        · rename_i hn
          obtain ⟨n, hn1, hn2⟩ : ∃ n, sizeB P f.type = some n ∧ n ≠ 0 := by
            cases hq : sizeB P f.type with
            | none => simp [hq] at hn
            | some n => exact ⟨n, rfl, by simpa [hq] using hn⟩
          split at h
          · rename_i hx
            injection h with h; injection h with _ h; subst h
            exact op_fieldAddr_ptr hr hf hop hs hfi hn1 hn2 hx
          · rename_i hx
            injection h with h; injection h with _ h; subst h
            exact op_fieldAddr_pin hr hf hop hs hfi hn1 hn2 hx
          · rename_i hx
            injection h with h; injection h with _ h; subst h
            exact op_fieldAddr_eptr hr hf hop hs hfi hn1 hn2 hx
          · cases h
        · cases h
      · cases h
    · cases h
  · -- field
    rename_i t x i hop
    split at h
    · rename_i fs cs ht hx
      split at h
      · rename_i f hfi
        split at h
        · rename_i ha
          split at h
          · rename_i n hn
            split at h
            · rename_i hl
              injection h with h; injection h with _ h; subst h
              exact op_field_agg hr hf hop ht hfi hx hn ha hl
            · cases h
          · cases h
        · rename_i ha
          split at h
          · rename_i hs
            obtain ⟨n, hn⟩ := Option.isSome_iff_exists.1 hs
            obtain ⟨u, hu, h⟩ := Option.map_eq_some_iff.1 h
            injection h with _ h; subst h
            exact op_field_one hr hf hop ht hfi hx hn (by simpa using ha) hu
          · cases h
      · cases h
    · cases h
  · -- indexAddr
    rename_i t x i hop
    split at h
    · rename_i et et' xs k n ht hx hi
      split at h
      · rename_i hc
        obtain ⟨rfl, hsz, hz⟩ := hc
        injection h with h; injection h with h0 h; subst h
        simp only [Bool.and_eq_true, decide_eq_true_eq] at h0
        obtain ⟨u, hu, hs⟩ := Option.bind_eq_some_iff.1 hx
        exact op_indexAddr hr hf hop ht hu hs hi hsz hz h0.1 h0.2
      · cases h
    · rename_i et k n ht hx hi
      split at h
      · rename_i id et' nn off len hx'
        split at h
        · rename_i hc
          obtain ⟨rfl, hsz, hz⟩ := hc
          injection h with h; injection h with h0 h; subst h
          simp only [Bool.and_eq_true, decide_eq_true_eq] at h0
          exact op_indexAddr_mv hr hf hop ht hx' hi hsz h0.1 h0.2
        · cases h
      · cases h
    · cases h
  · -- index
    rename_i t x i hop
    split at h
    · rename_i s k n ht hx hi
      injection h with h; injection h with h0 h; subst h
      simp only [Bool.and_eq_true, decide_eq_true_eq] at h0
      exact op_index_str hr hf hop ht hx hi h0.1 h0.2
    · cases h
  · -- typeAssert
    rename_i x u t ok hop
    split at h
    · cases h
    · rename_i d q vv hn ht hx
      split at h
      · rename_i v' hun
        obtain ⟨r, hres, h⟩ := Option.map_eq_some_iff.1 h
        injection h with _ h; subst h
        exact op_typeAssert hr hf hop ht (fun ms e => hn ms e) hx hun hres
      · cases h
    · cases h
  · -- makeFunc
    rename_i f first captured hop
    split at h
    · rename_i h0
      obtain ⟨ps, hp, h⟩ := Option.map_eq_some_iff.1 h
      injection h with _ h; subst h
      exact op_makeFunc hr hf hop h0 hp
    · cases h
  · -- extract
    rename_i x i hop
    split at h
    · rename_i vs hx
      obtain ⟨u, hu, h⟩ := Option.map_eq_some_iff.1 h
      injection h with _ h; subst h
      exact op_extract hr hf hop hx hu
    · cases h
  · -- len
    rename_i args ats hop
    split at h
    · rename_i s ht hx
      injection h with h; injection h with _ h; subst h
      exact op_len_str hr hf hop hx ht
    · rename_i et id et' n off len ht hx
      injection h with h; injection h with _ h; subst h
      exact op_len_mv hr hf hop hx ht
    · rename_i et u _ ht hx
      split at h
      · rename_i hs
        injection h with h; injection h with _ h; subst h
        exact op_len_sl hr hf hop hx hs ht
      · cases h
    · cases h
  · -- max
    rename_i args _ hop
    split at h
    · rename_i hx
      split at h
      · rename_i hk; subst hk
        injection h with h; injection h with _ h; subst h
        exact op_max hr hf hop hx
      · cases h
    · cases h
  · rename_i args _ hop
    split at h
    · rename_i hx
      split at h
      · rename_i hk; subst hk
        injection h with h; injection h with _ h; subst h
        exact op_min hr hf hop hx
      · cases h
    · cases h
  · cases h

theorem evalHeap_ok {P : Program} {σ σ' : Heap} {ρ : Gr} {S : Cells} {w : World} {fr : Fr} {a : Act} {o : Oper} {k : Nat} {ops : List Oper} {v : AV} (hr : Rel P σ ρ S w) (hf : FR P σ ρ S w fr a.tmps)
    (h : evalHeap P ops fr σ k o = some (true, v, σ')) : OpOk P σ ρ S w a o v σ' := by
  unfold evalHeap at h
  split at h
  · -- box
    rename_i t x hop
    split at h
    · rename_i u n hu hn
      split at h
      · rename_i hc
        split at h
        · rename_i cs σ1 hp
          obtain ⟨σ2, hfill, h⟩ := Option.map_eq_some_iff.1 h
          injection h with _ h; injection h with h1 h2; subst h1; subst h2
          exact op_box hr hf hop hu hc.2 hp hfill
        · cases h
      · cases h
    · cases h
  · -- alloc
    rename_i t hop
    split at h
    · rename_i u hu
      split at h
      · rename_i cs σ1 hp
        obtain ⟨σ2, hfill, h⟩ := Option.map_eq_some_iff.1 h
        injection h with _ h; injection h with h1 h2; subst h1; subst h2
        exact op_alloc hr hop hu hp hfill
      · cases h
    · cases h
  · -- buildSlice
    rename_i t len parts hop
    split at h
    · cases h
    · split at h
      · rename_i et xs hq
        obtain ⟨σ1, hfill, h⟩ := Option.map_eq_some_iff.1 h
        injection h with _ h; injection h with h1 h2; subst h1; subst h2
        exact (sliceLit_ok hr hf hop hq).2 _ _ hfill
      · cases h
  · -- load
    rename_i t x hop
    split at h
    · rename_i id off hx
      split at h
      · rename_i cs n hb hn
        split at h
        · rename_i hl
          split at h
          · rename_i ha
            injection h with h; injection h with _ h; injection h with h1 h2; subst h1; subst h2
            exact op_load_agg hr hf hop hx hb hn hl ha
          · rename_i ha
            split at h
            · obtain ⟨u, hu, h⟩ := Option.map_eq_some_iff.1 h
              injection h with _ h; injection h with h1 h2; subst h1; subst h2
              exact op_load_one hr hf hop hx hb hn (by simpa using ha) hu
            · cases h
        · cases h
      · cases h
    · rename_i id n i j hx
      split at h
      · rename_i et xs ov hb
        obtain ⟨u, hu, h⟩ := Option.map_eq_some_iff.1 h
        injection h with h0 h; injection h with h1 h2; subst h1; subst h2
        exact op_load_eptr hr hf hop hx hb (of_decide_eq_true h0) hu
      · cases h
    · cases h
  · -- store
    rename_i t x y hop
    split at h
    · rename_i id off u n hx hy hn
      split at h
      · rename_i cs hb
        split at h
        · rename_i hc
          obtain ⟨⟨pc, σ1⟩, hp, h⟩ := Option.map_eq_some_iff.1 h
          injection h with _ h; injection h with h1 h2; subst h1; subst h2
          exact op_store hr hf hop hx hy hb hn hc.1 hc.2.1 hc.2.2 hp
        · cases h
      · cases h
    · rename_i id n i j u m hx hy hn
      split at h
      · rename_i et xs ov hb
        split at h
        · rename_i l hfit
          split at h
          · rename_i hc
            injection h with h; injection h with h0 h; injection h with h1 h2; subst h1; subst h2
            exact op_store_eptr hr hf hop hx hy hb (of_decide_eq_true h0) hfit hc.1 hc.2
          · cases h
        · cases h
      · cases h
    · cases h
  · -- makeSlice
    rename_i t x y hop
    split at h
    · rename_i et ht
      split at h
      · rename_i i fs kn kc c hi hfs hx hy
        split at h
        · rename_i hc
          obtain ⟨c1, c2, c3, c4, _⟩ := hc
          obtain ⟨z, hz, hzs⟩ : ∃ z, i.zero = some z ∧ z.cells.size = fs.length := by
            cases hq : i.zero with
            | none => simp [hq] at c1
            | some z => exact ⟨z, rfl, by simpa [hq] using c1⟩
          obtain ⟨σ1, hfill, h⟩ := Option.map_eq_some_iff.1 h
          injection h with h0 h; injection h with h1 h2; subst h1; subst h2
          simp only [Bool.and_eq_true, decide_eq_true_eq] at h0
          exact op_makeSlice_vec hr hf hop ht hi hz c2 hfs c4 hx hy h0.1 h0.2 hfill
        · cases h
      · cases h
    · cases h
  · -- range
    rename_i t x hop
    split at h
    · rename_i ht hx
      obtain ⟨σ1, hfill, h⟩ := Option.map_eq_some_iff.1 h
      injection h with _ h; injection h with h1 h2; subst h1; subst h2
      exact op_range hr hf hop ht hx hfill
    · cases h
  · -- append
    rename_i args ats hop
    · split at h
      · rename_i t tx x y hats hargs
        have e1 : ats = #[t, tx] := by rw [← hats]
        have e2 : args = #[x, y] := by rw [← hargs]
        subst e1; subst e2
        split at h
        · rename_i et ht
          split at h
          · rename_i i fs s ys hi hfs hs hys
            split at h
            · rename_i hc
              obtain ⟨c1, c2, c3, c4⟩ := hc
              obtain ⟨z, hz, hzs⟩ : ∃ z, i.zero = some z ∧ z.cells.size = fs.length := by
                cases hq : i.zero with
                | none => simp [hq] at c1
                | some z => exact ⟨z, rfl, by simpa [hq] using c1⟩
              have T : AppTypes P et t tx i fs z := ⟨ht, hi, hz, hzs, c2, hfs, c3, c4⟩
              obtain ⟨u, hu, hsrc⟩ := Option.bind_eq_some_iff.1 hys
              obtain ⟨news, n1, n2, n3⟩ := srcOf_ok hsrc hfs c3 (evalT_ok hf hu)
              have hsv := evalT_ok hf hs
              split at h
              · split at h
                · rename_i he
                  subst he
                  obtain ⟨σ1, hfill, h⟩ := Option.map_eq_some_iff.1 h
                  injection h with h0 h; injection h with h1 h2; subst h1; subst h2
                  obtain ⟨h3, _⟩ : a.eval x = .slice none 0 0 ∧ _ := hsv
                  exact op_append_nil hr hop T (.inl rfl) h3 rfl n1 n2 n3 (of_decide_eq_true h0) hfill
                · cases h
              · split at h
                · rename_i he
                  subst he
                  obtain ⟨σ1, hfill, h⟩ := Option.map_eq_some_iff.1 h
                  injection h with h0 h; injection h with h1 h2; subst h1; subst h2
                  simp only [Bool.and_eq_true, decide_eq_true_eq, Bool.not_eq_true', List.isEmpty_eq_false_iff] at h0
                  obtain ⟨⟨A, h3⟩, _⟩ : (∃ A, a.eval x = .slice A 0 0) ∧ _ := hsv
                  exact op_append_nil hr hop T (.inr h0.1) h3 rfl n1 n2 n3 h0.2 hfill
                · cases h
              · rename_i id et' xs
                split at h
                · rename_i et'' n hv
                  split at h
                  · rename_i he
                    obtain ⟨rfl, rfl⟩ := he
                    injection h with h; injection h with h0 h; injection h with h1 h2; subst h1; subst h2
                    simp only [Bool.and_eq_true, decide_eq_true_eq] at h0
                    obtain ⟨rfl, h0⟩ := h0
                    exact op_append_own hr hop T hsv hv rfl n1 n2 n3 h0
                  · cases h
                · cases h
              · rename_i id et' n off len
                split at h
                · rename_i et'' xs ov hv
                  split at h
                  · rename_i he
                    obtain ⟨rfl, rfl⟩ := he
                    injection h with h; injection h with h0 h; injection h with h1 h2; subst h1; subst h2
                    simp only [Bool.and_eq_true, decide_eq_true_eq] at h0
                    obtain ⟨⟨⟨q1, rfl⟩, rfl⟩, h0⟩ := h0
                    exact op_append_arr hr hop T hsv hv q1 rfl n1 (LaidA.ofData hfs n2 n3) h0
                  · cases h
                · cases h
              · cases h
            · cases h
          · cases h
        · cases h
      · cases h
  · cases h

theorem evalArr_ok {P : Program} {σ σ' : Heap} {ρ : Gr} {S : Cells} {w : World} {fr : Fr} {a : Act} {o : Oper} {k : Nat} {v : AV} (hr : Rel P σ ρ S w) (hf : FR P σ ρ S w fr a.tmps)
    (h : evalArr P fr σ k o = some (true, v, σ')) : OpOk P σ ρ S w a o v σ' := by
  unfold evalArr at h
  split at h
  · -- buildSlice
    rename_i t len parts hop
    split at h
    · rename_i et xs ov hq
      obtain ⟨σ1, hfill, h⟩ := Option.map_eq_some_iff.1 h
      injection h with _ h; injection h with h1 h2; subst h1; subst h2
      unfold sliceLitA at hq
      split at hq
      · rename_i et' ht
        split at hq
        · rename_i z sz ps fs hz hs hps hfs
          split at hq
          · cases hq
          · rename_i hc
            simp only [not_or, Nat.not_lt, ne_eq, Classical.not_not] at hc
            obtain ⟨c1, c2, c3, c4, c5⟩ := hc
            split at hq
            · rename_i cs hcs
              split at hq
              · rename_i hok
                injection hq with hq; injection hq with e1 hq; injection hq with e2 e3
                subst e1; subst e2; subst e3
                exact op_buildSlice_arr hr hf hop ht hz hs hps hfs c1 c2 (by omega) c4 c5 hcs hok hfill
              · cases hq
            · cases hq
        · cases hq
      · cases hq
    · cases h
  · -- makeSlice
    rename_i t x y hop
    split at h
    · rename_i et ht
      split at h
      · rename_i i fs z kn kc c hi hfs hz hx hy
        split at h
        · rename_i hc
          obtain ⟨c1, c2, c3, c4, _⟩ := hc
          obtain ⟨z, hz, hzs⟩ : ∃ z, i.zero = some z ∧ z.cells.size = fs.length := by
            cases hq : i.zero with
            | none => simp [hq] at c1
            | some z => exact ⟨z, rfl, by simpa [hq] using c1⟩
          obtain ⟨σ1, hfill, h⟩ := Option.map_eq_some_iff.1 h
          injection h with h0 h; injection h with h1 h2; subst h1; subst h2
          simp only [Bool.and_eq_true, decide_eq_true_eq] at h0
          exact op_makeSlice_arr0 hr hf hop ht hi hz c2 hfs c3 c4 hx hy h0.1 h0.2 hfill
        · cases h
      · rename_i i fs z kn n kc c _ hi hfs hz hx hy
        split at h
        · rename_i hc
          obtain ⟨c1, c2, c3, c4, _, _, c7, c8⟩ := hc
          obtain ⟨σ1, hfill, h⟩ := Option.map_eq_some_iff.1 h
          injection h with h0 h; injection h with h1 h2; subst h1; subst h2
          simp only [Bool.and_eq_true, decide_eq_true_eq] at h0
          exact op_makeSlice_arr hr hf hop ht hi hz c7 c8 c2 hfs c3 c4 hx hy h0.1.1 h0.1.2 h0.2 hfill
        · cases h
      · cases h
    · cases h
  · -- append
    rename_i args ats hop
    split at h
    · rename_i t tx x y hats hargs
      have e1 : ats = #[t, tx] := by rw [← hats]
      have e2 : args = #[x, y] := by rw [← hargs]
      subst e1; subst e2
      split at h
      · rename_i et ht
        split at h
        · rename_i i fs s v hi hfs hs hv
          split at h
          · rename_i hc
            obtain ⟨c1, c2, c3, c4⟩ := hc
            obtain ⟨z, hz, hzs⟩ : ∃ z, i.zero = some z ∧ z.cells.size = fs.length := by
              cases hq : i.zero with
              | none => simp [hq] at c1
              | some z => exact ⟨z, rfl, by simpa [hq] using c1⟩
            have T : AppTypes P et t tx i fs z := ⟨ht, hi, hz, hzs, c2, hfs, c3, c4⟩
            split at h
            · rename_i id et' n off len id2 et2 n2 off2 len2
              split at h
              · rename_i et'' xs ov et3 xs2 ov2 hb hb2
                split at h
                · rename_i he
                  obtain ⟨rfl, rfl, rfl, rfl, he5, he6⟩ := he
                  injection h with h; injection h with h0 h; injection h with h1 h2; subst h1; subst h2
                  simp only [Bool.and_eq_true, decide_eq_true_eq] at h0
                  obtain ⟨⟨⟨⟨q1, q2⟩, rfl⟩, rfl⟩, h0⟩ := h0
                  have htx : P.underlying tx = some (.slice et) := by
                    unfold isSliceOf at he5
                    split at he5
                    · rename_i e he; simp at he5; subst he5; exact he
                    · cases he5
                  obtain ⟨s1, news, s2, s3⟩ := src_arr hr hfs htx (evalT_ok hf hv) hb2 q2
                  have := op_append_arr hr hop T (evalT_ok hf hs) hb q1 rfl (by rw [s1]; exact s2) s3 (by rw [s1]; exact h0)
                  rw [s1] at this
                  exact this
                · cases h
              · cases h
            · rename_i et' id2 et2 n2 off2 len2
              split at h
              · rename_i et3 xs2 ov2 hb2
                split at h
                · rename_i he
                  obtain ⟨rfl, rfl, rfl, he5⟩ := he
                  obtain ⟨σ1, hfill, h⟩ := Option.map_eq_some_iff.1 h
                  injection h with h0 h; injection h with h1 h2; subst h1; subst h2
                  simp only [Bool.and_eq_true, decide_eq_true_eq] at h0
                  obtain ⟨⟨q2, q3⟩, h0⟩ := h0
                  have htx : P.underlying tx = some (.slice et) := by
                    unfold isSliceOf at he5
                    split at he5
                    · rename_i e he; simp at he5; subst he5; exact he
                    · cases he5
                  obtain ⟨s1, news, s2, s3⟩ := src_arr hr hfs htx (evalT_ok hf hv) hb2 q2
                  obtain ⟨⟨A, h3⟩, _⟩ : (∃ A, a.eval x = .slice A 0 0) ∧ _ := evalT_ok hf hs
                  have := op_append_nil_arr hr hop T h3 rfl (by rw [s1]; exact s2) s3 (by intro e; rw [e] at s1; exact q3 s1.symm) (by rw [s1]; exact h0) hfill
                  rw [s1] at this
                  exact this
                · cases h
              · cases h
            · rename_i et' v' _ _
              split at h
              · rename_i ys hys
                split at h
                · rename_i he
                  subst he
                  obtain ⟨news, n1, n2, n3⟩ := srcOf_ok hys hfs c3 (evalT_ok hf hv)
                  obtain ⟨σ1, hfill, h⟩ := Option.map_eq_some_iff.1 h
                  injection h with h0 h; injection h with h1 h2; subst h1; subst h2
                  simp only [Bool.and_eq_true, decide_eq_true_eq, Bool.not_eq_true', List.isEmpty_eq_false_iff] at h0
                  obtain ⟨⟨A, h3⟩, _⟩ : (∃ A, a.eval x = .slice A 0 0) ∧ _ := evalT_ok hf hs
                  exact op_append_nil_arr hr hop T h3 rfl n1 (LaidA.ofData hfs n2 n3) h0.1 h0.2 hfill
                · cases h
              · cases h
            · rename_i et' v' _
              split at h
              · rename_i ys hys
                split at h
                · rename_i he
                  subst he
                  obtain ⟨news, n1, n2, n3⟩ := srcOf_ok hys hfs c3 (evalT_ok hf hv)
                  obtain ⟨σ1, hfill, h⟩ := Option.map_eq_some_iff.1 h
                  injection h with h0 h; injection h with h1 h2; subst h1; subst h2
                  simp only [Bool.and_eq_true, decide_eq_true_eq, Bool.not_eq_true', List.isEmpty_eq_false_iff] at h0
                  obtain ⟨h3, _⟩ : a.eval x = .slice none 0 0 ∧ _ := evalT_ok hf hs
                  exact op_append_nil_arr hr hop T h3 rfl n1 (LaidA.ofData hfs n2 n3) h0.1 h0.2 hfill
                · cases h
              · cases h
            · cases h
          · cases h
        · cases h
      · cases h
    · cases h
  · cases h

theorem evalOp_ok {P : Program} {σ σ' : Heap} {ρ : Gr} {S : Cells} {w : World} {fr : Fr} {a : Act} {o : Oper} {k : Nat} {ops : List Oper} {v : AV} (hr : Rel P σ ρ S w) (hf : FR P σ ρ S w fr a.tmps)
    (h : evalOp P ops fr σ k o = some (true, v, σ')) : OpOk P σ ρ S w a o v σ' := by
  unfold evalOp at h
  split at h
  · rename_i b v' hp
    injection h with h; injection h with h0 h; injection h with h1 h2; subst h0; subst h1; subst h2
    exact evalPure_ok hr hf hp
  · exact evalHeap_ok hr hf h

theorem evalStill_ok {P : Program} {σ : Heap} {ρ : Gr} {S : Cells} {w : World} {fr : Fr} {a : Act} {o : Oper} {ops : List Oper} {v : AV} (hr : Rel P σ ρ S w) (hf : FR P σ ρ S w fr a.tmps)
    (h : evalStill P ops fr σ o = some (true, v)) : OpOk P σ ρ S w a o v σ := by
  unfold evalStill at h
  split at h
  · rename_i t x hop
    obtain ⟨⟨b, v', σ'⟩, he, h⟩ := Option.map_eq_some_iff.1 h
    injection h with h1 h2
    simp only at h1 h2
    subst h1; subst h2
    have hs : σ' = σ := by
      unfold evalOp at he
      split at he
      · injection he with he; injection he with _ he; injection he with _ he; exact he.symm
      · unfold evalHeap at he
        rw [hop] at he
        simp only at he
        split at he
        · split at he
          · split at he
            · split at he
              · injection he with he; injection he with _ he; injection he with _ he; exact he.symm
              · split at he
                · obtain ⟨_, _, he⟩ := Option.map_eq_some_iff.1 he
                  injection he with _ he; injection he with _ he; exact he.symm
                · cases he
            · cases he
          · cases he
        · split at he
          · obtain ⟨_, _, he⟩ := Option.map_eq_some_iff.1 he
            injection he with _ he; injection he with _ he; exact he.symm
          · cases he
        · cases he
    subst hs
    exact evalOp_ok hr hf he
  · exact evalPure_ok hr hf h
end Go.Den

/- Objects numbered anew: what a value says of them stays said, in both ways. -/
namespace Go.Den
open Go

theorem addNew_prefix : ∀ (is acc : List Nat), ∃ t, addNew acc is = acc ++ t
  | [], acc => ⟨[], by simp [addNew]⟩
  | i :: is, acc => by
    unfold addNew
    obtain ⟨t, ht⟩ := addNew_prefix is (if acc.contains i then acc else acc ++ [i])
    split at ht
    · rename_i hc; rw [if_pos hc]; exact ⟨t, ht⟩
    · rename_i hc; rw [if_neg hc]; exact ⟨i :: t, by rw [ht]; simp⟩

theorem addNew_mem : ∀ (is acc : List Nat) (x : Nat), x ∈ is → x ∈ addNew acc is
  | i :: is, acc, x, h => by
    unfold addNew
    rcases List.mem_cons.1 h with h | h
    · subst h
      obtain ⟨t, ht⟩ := addNew_prefix is (if acc.contains x then acc else acc ++ [x])
      rw [ht]
      by_cases hc : acc.contains x = true
      · rw [if_pos hc]; simp at hc; simp [hc]
      · rw [if_neg hc]; simp
    · exact addNew_mem is _ x h

theorem addNew_nodup : ∀ (is acc : List Nat), acc.Nodup → (addNew acc is).Nodup
  | [], acc, h => by simpa [addNew] using h
  | i :: is, acc, h => by
    unfold addNew
    refine addNew_nodup is _ ?_
    split
    · exact h
    · rename_i hc
      simp at hc
      rw [List.nodup_append]
      exact ⟨h, by simp, fun a ha b hb => by simp at hb; subst hb; rintro rfl; exact hc ha⟩

theorem closure_prefix (σ : Heap) : ∀ (k : Nat) (ids : List Nat), ∃ t, closure σ k ids = ids ++ t
  | 0, ids => ⟨[], by simp [closure]⟩
  | k + 1, ids => by
    unfold closure
    obtain ⟨t, ht⟩ := addNew_prefix (ids.flatMap (idsAt σ)) ids
    obtain ⟨t', ht'⟩ := closure_prefix σ k (addNew ids (ids.flatMap (idsAt σ)))
    exact ⟨t ++ t', ht'.trans (by rw [ht, List.append_assoc])⟩

theorem closure_mem (σ : Heap) (k : Nat) (ids : List Nat) (x : Nat) (h : x ∈ ids) : x ∈ closure σ k ids := by
  obtain ⟨t, ht⟩ := closure_prefix σ k ids
  rw [ht]; simp [h]

theorem closure_nodup (σ : Heap) : ∀ (k : Nat) (ids : List Nat), ids.Nodup → (closure σ k ids).Nodup
  | 0, _, h => h
  | k + 1, _, h => closure_nodup σ k _ (addNew_nodup _ _ h)

theorem idx_spec {ids : List Nat} {id : Nat} (h : id ∈ ids) : ids[idx ids id]? = some id := by
  have h1 : ids.findIdx (· == id) < ids.length := List.findIdx_lt_length_of_exists ⟨id, h, by simp⟩
  have h2 := List.findIdx_getElem (w := h1)
  unfold idx
  rw [List.getElem?_eq_getElem h1]
  simpa using h2

theorem nodup_inj {ids : List Nat} (hn : ids.Nodup) {i j id : Nat} (h : ids[i]? = some id) (h' : ids[j]? = some id) : i = j := by
  have hi := (List.getElem?_eq_some_iff.1 h).1
  exact (List.getElem?_inj hi hn).1 (h.trans h'.symm)

theorem idx_at {ids : List Nat} (hn : ids.Nodup) {k id : Nat} (h : ids[k]? = some id) : idx ids id = k :=
  nodup_inj hn (idx_spec (List.mem_of_getElem? h)) h

theorem subHeap_spec {σ σ1 : Heap} {ids : List Nat} (h : subHeap σ ids = some σ1) :
    σ1.length = ids.length ∧ ∀ (k id : Nat), ids[k]? = some id → ∃ o, σ[id]? = some o ∧ o ≠ .hole ∧ (∀ x ∈ o.ids, x ∈ ids) ∧ σ1[k]? = some (o.ren (idx ids)) := by
  obtain ⟨h1, h2⟩ := mapM_some_get h
  refine ⟨h1, fun k id hk => ?_⟩
  obtain ⟨y, hy, hy'⟩ := h2 k id hk
  split at hy
  · cases hy
  · rename_i o hno ho
    by_cases hc : o.ids.all ids.contains = true
    · rw [if_pos hc] at hy
      injection hy with hy
      refine ⟨o, ho, fun e => hno e, fun x hx => ?_, by rw [hy', hy]⟩
      have := List.all_eq_true.1 hc x hx
      simpa using this
    · rw [if_neg hc] at hy; cases hy
  · cases hy

def subGr (ρ : Gr) (ids : List Nat) : Gr := ids.map fun id => ρ.getD id none

theorem subGr_get {ρ : Gr} {ids : List Nat} {k id : Nat} (h : ids[k]? = some id) (hl : id < ρ.length) : (subGr ρ ids)[k]? = ρ[id]? := by
  simp [subGr, List.getElem?_map, h, List.getD_eq_getElem?_getD, List.getElem?_eq_getElem hl]

theorem subGr_back {ρ : Gr} {ids : List Nat} {k : Nat} {g : Nat × Nat} (h : (subGr ρ ids)[k]? = some (some g)) : ∃ id, ids[k]? = some id ∧ ρ[id]? = some (some g) := by
  unfold subGr at h
  rw [List.getElem?_map] at h
  cases hk : ids[k]? with
  | none => rw [hk] at h; cases h
  | some id =>
    rw [hk] at h
    refine ⟨id, rfl, ?_⟩
    simp [List.getD_eq_getElem?_getD] at h
    cases hr : ρ[id]? with
    | none => rw [hr] at h; cases h
    | some x => rw [hr] at h; simp at h; rw [h]

theorem Raw.ren_kind (r : Nat → Nat) (q : Raw) : (q.ren r).kind = q.kind := by cases q <;> rfl
theorem Raw.ren_size (r : Nat → Nat) (q : Raw) : (q.ren r).size = q.size := by cases q <;> rfl
theorem ovAt_map (f : AV → AV) (i j : Nat) : ∀ ov : List (Nat × Nat × AV), ovAt (ov.map fun p => (p.1, p.2.1, f p.2.2)) i j = (ovAt ov i j).map f
  | [] => rfl
  | (i0, j0, a) :: r => by
    simp only [List.map_cons, ovAt]
    rw [ovAt_map f i j r]
    cases (j0 == j) <;> cases (i0 == i) <;> rfl

section
variable {P : Program} {σ σ1 : Heap} {ρ : Gr} {S : Cells} {w : World} {ids : List Nat}

theorem VA1.sub (hl : ρ.length = σ.length) (hs : subHeap σ ids = some σ1) {v : AV} {cv : Value} (hv : VA1 P σ ρ S w v cv) (hi : ∀ x ∈ v.ids1, x ∈ ids) :
    VA1 P σ1 (subGr ρ ids) S w (v.ren1 (idx ids)) cv := by
  obtain ⟨h1, h2⟩ := subHeap_spec hs
  cases v with
  | own id et xs =>
    have hk := idx_spec (hi id (by simp [AV.ids1]))
    obtain ⟨o, ho, _, _, ho'⟩ := h2 _ _ hk
    obtain ⟨h3, ⟨n, h4, h5, h6⟩ | h4⟩ := hv
    · rw [h4] at ho; injection ho with ho; subst ho
      refine ⟨h3, .inl ⟨n, ho', h5, fun he => ?_⟩⟩
      have := h6 he
      unfold place at *
      rw [subGr_get hk (by rw [hl]; exact (List.getElem?_eq_some_iff.1 h4).1)]
      exact this
    · rw [h4] at ho; injection ho with ho; subst ho
      exact ⟨h3, .inr ho'⟩
  | ptr id off =>
    obtain ⟨b, c, h3, ⟨cs, h4⟩, h5⟩ := hv
    have hk := idx_spec (hi id (by simp [AV.ids1]))
    obtain ⟨o, ho, _, _, ho'⟩ := h2 _ _ hk
    rw [h4] at ho; injection ho with ho; subst ho
    exact ⟨b, c, by rw [subGr_get hk (List.getElem?_eq_some_iff.1 h3).1]; exact h3, ⟨_, ho'⟩, h5⟩
  | clo f ps =>
    obtain ⟨cap, h3, h4, h5⟩ := hv
    refine ⟨cap, h3, by simpa using h4, fun j p hj => ?_⟩
    rw [List.getElem?_map] at hj
    obtain ⟨q, hq, rfl⟩ := Option.map_eq_some_iff.1 hj
    obtain ⟨b, c, h6, ⟨cs, h7⟩, h8⟩ := h5 j q hq
    have hk := idx_spec (hi q.1 (List.mem_map.2 ⟨q, List.mem_of_getElem? hq, rfl⟩))
    obtain ⟨o, ho, _, _, ho'⟩ := h2 _ _ hk
    rw [h7] at ho; injection ho with ho; subst ho
    exact ⟨b, c, by rw [subGr_get hk (List.getElem?_eq_some_iff.1 h6).1]; exact h6, ⟨_, ho'⟩, h8⟩
  | itr id =>
    obtain ⟨b, c, h3, ⟨r, h4, h4'⟩, h5⟩ := hv
    have hk := idx_spec (hi id (by simp [AV.ids1]))
    obtain ⟨o, ho, _, _, ho'⟩ := h2 _ _ hk
    rw [h4] at ho; injection ho with ho; subst ho
    exact ⟨b, c, by rw [subGr_get hk (List.getElem?_eq_some_iff.1 h3).1]; exact h3, ⟨_, ho', by rw [Raw.ren_kind]; exact h4'⟩, h5⟩
  | mp id =>
    obtain ⟨b, c, h3, ⟨r, h4, h4'⟩, h5⟩ := hv
    have hk := idx_spec (hi id (by simp [AV.ids1]))
    obtain ⟨o, ho, _, _, ho'⟩ := h2 _ _ hk
    rw [h4] at ho; injection ho with ho; subst ho
    exact ⟨b, c, by rw [subGr_get hk (List.getElem?_eq_some_iff.1 h3).1]; exact h3, ⟨_, ho', by rw [Raw.ren_kind]; exact h4'⟩, h5⟩
  | mv id et n off len =>
    have hk := idx_spec (hi id (by simp [AV.ids1]))
    obtain ⟨o, ho, _, _, ho'⟩ := h2 _ _ hk
    obtain ⟨b, q, c, fs, h3, h3', ⟨xs, ov, h4, h5, h6⟩ | h4⟩ := hv
    · rw [h4] at ho; injection ho with ho; subst ho
      refine ⟨b, q, c, fs, h3, h3', .inl ⟨xs, _, ho', h5, fun he => ?_⟩⟩
      obtain ⟨c0, h7, h8⟩ := h6 he
      exact ⟨c0, by rw [subGr_get hk (by rw [hl]; exact (List.getElem?_eq_some_iff.1 h4).1)]; exact h7, h8⟩
    · rw [h4] at ho; injection ho with ho; subst ho
      exact ⟨b, q, c, fs, h3, h3', .inr ho'⟩
  | eptr id n i j =>
    have hk := idx_spec (hi id (by simp [AV.ids1]))
    obtain ⟨o, ho, _, _, ho'⟩ := h2 _ _ hk
    obtain ⟨b, q, h3, ⟨et, xs, ov, fs, h4, h4', h5, h6⟩ | h4⟩ := hv
    · rw [h4] at ho; injection ho with ho; subst ho
      refine ⟨b, q, h3, .inl ⟨et, xs, _, fs, ho', h4', h5, fun he => ?_⟩⟩
      obtain ⟨c0, h7, h8⟩ := h6 he
      exact ⟨c0, by rw [subGr_get hk (by rw [hl]; exact (List.getElem?_eq_some_iff.1 h4).1)]; exact h7, h8⟩
    · rw [h4] at ho; injection ho with ho; subst ho
      exact ⟨b, q, h3, .inr ho'⟩
  | nilm => exact hv
  | nsp id t =>
    obtain ⟨⟨cs, h4⟩, b, h6, h7⟩ := hv
    have hk := idx_spec (hi id (by simp [AV.ids1]))
    obtain ⟨o, ho, _, _, ho'⟩ := h2 _ _ hk
    rw [h4] at ho; injection ho with ho; subst ho
    exact ⟨⟨_, ho'⟩, b, by rw [subGr_get hk (List.getElem?_eq_some_iff.1 h6).1]; exact h6, h7⟩
  | e x => exact hv
  | nils et => exact hv
  | nilc et => exact hv
  | nil0 et => exact hv
  | sn et xs => exact hv
  | nilp => exact hv
  | pin et y off => exact hv
  | fn f => exact hv
  | ni => exact hv
  | undef => trivial
  | agg cs => exact hv.elim
  | tup vs => exact hv.elim

theorem ren1_one (r : Nat → Nat) {v : AV} (h : v.one = true) : (v.ren1 r).one = true := by
  cases v <;> first | exact h | rfl

theorem ren1_agg (r : Nat → Nat) {v : AV} (h : ∀ cs, v ≠ .agg cs) : v.ren2 r = v.ren1 r ∧ ∀ cs, v.ren1 r ≠ .agg cs := by
  cases v <;> first | exact absurd rfl (h _) | exact ⟨rfl, fun cs => by simp [AV.ren1]⟩
theorem ren2_tup (r : Nat → Nat) {v : AV} (h : ∀ cs, v ≠ .tup cs) : v.ren3 r = v.ren2 r ∧ ∀ cs, v.ren2 r ≠ .tup cs := by
  cases v <;> first | exact absurd rfl (h _) | exact ⟨rfl, fun cs => by simp [AV.ren2, AV.ren1]⟩
theorem ids2_one {v : AV} (h : ∀ cs, v ≠ .agg cs) : v.ids2 = v.ids1 := by
  cases v <;> first | rfl | exact absurd rfl (h _)
theorem ids3_two {v : AV} (h : ∀ cs, v ≠ .tup cs) : v.ids3 = v.ids2 := by
  cases v <;> first | rfl | exact absurd rfl (h _)

/-- From cells to values. -/
theorem lift2 {σ' : Heap} {ρ' : Gr} {S' : Cells} {w' : World} {r : Nat → Nat} {G : Nat → Prop}
    (h : ∀ (v : AV) (cv : Value), VA1 P σ ρ S w v cv → (∀ x ∈ v.ids1, G x) → VA1 P σ' ρ' S' w' (v.ren1 r) cv) {v : AV} {cv : Value} (hv : VA2 P σ ρ S w v cv)
    (hi : ∀ x ∈ v.ids2, G x) : VA2 P σ' ρ' S' w' (v.ren2 r) cv := by
  by_cases hh : ∃ cs, v = .agg cs
  · obtain ⟨cs, rfl⟩ := hh
    obtain ⟨arr, h1, h2, h3⟩ := hv
    refine ⟨arr, h1, by simpa using h2, fun j u hj => ?_⟩
    rw [List.getElem?_map] at hj
    obtain ⟨v, hv, rfl⟩ := Option.map_eq_some_iff.1 hj
    obtain ⟨ho, x, h4, h5⟩ := h3 j v hv
    exact ⟨ren1_one r ho, x, h4, h v x h5 fun y hy => hi y (List.mem_flatMap.2 ⟨v, List.mem_of_getElem? hv, hy⟩)⟩
  · have hn : ∀ cs, v ≠ .agg cs := fun cs e => hh ⟨cs, e⟩
    rw [VA2_eq hn] at hv
    rw [ids2_one hn] at hi
    rw [(ren1_agg r hn).1]
    exact (h v cv hv hi).to2

theorem lift3 {σ' : Heap} {ρ' : Gr} {S' : Cells} {w' : World} {r : Nat → Nat} {G : Nat → Prop}
    (h : ∀ (v : AV) (cv : Value), VA1 P σ ρ S w v cv → (∀ x ∈ v.ids1, G x) → VA1 P σ' ρ' S' w' (v.ren1 r) cv) {v : AV} {cv : Value} (hv : VA3 P σ ρ S w v cv)
    (hi : ∀ x ∈ v.ids3, G x) : VA3 P σ' ρ' S' w' (v.ren3 r) cv := by
  by_cases hh : ∃ cs, v = .tup cs
  · obtain ⟨cs, rfl⟩ := hh
    obtain ⟨arr, h1, h2, h3⟩ := hv
    refine ⟨arr, h1, by simpa using h2, fun j u hj => ?_⟩
    rw [List.getElem?_map] at hj
    obtain ⟨v, hv, rfl⟩ := Option.map_eq_some_iff.1 hj
    obtain ⟨x, h4, h5⟩ := h3 j v hv
    exact ⟨x, h4, lift2 h h5 fun y hy => hi y (List.mem_flatMap.2 ⟨v, List.mem_of_getElem? hv, hy⟩)⟩
  · have hn : ∀ cs, v ≠ .tup cs := fun cs e => hh ⟨cs, e⟩
    rw [VA3_eq hn] at hv
    rw [ids3_two hn] at hi
    rw [(ren2_tup r hn).1]
    exact (lift2 h hv hi).to3

theorem VA2.sub (hl : ρ.length = σ.length) (hs : subHeap σ ids = some σ1) {v : AV} {cv : Value} (hv : VA2 P σ ρ S w v cv) (hi : ∀ x ∈ v.ids2, x ∈ ids) :
    VA2 P σ1 (subGr ρ ids) S w (v.ren2 (idx ids)) cv := lift2 (fun _ _ h h' => VA1.sub hl hs h h') hv hi
theorem VA3.sub (hl : ρ.length = σ.length) (hs : subHeap σ ids = some σ1) {v : AV} {cv : Value} (hv : VA3 P σ ρ S w v cv) (hi : ∀ x ∈ v.ids3, x ∈ ids) :
    VA3 P σ1 (subGr ρ ids) S w (v.ren3 (idx ids)) cv := lift3 (fun _ _ h h' => VA1.sub hl hs h h') hv hi

theorem subHeap_back {σ σ1 : Heap} {ids : List Nat} (h : subHeap σ ids = some σ1) {k : Nat} {q : Ob} (hk : σ1[k]? = some q) :
    ∃ id o, ids[k]? = some id ∧ σ[id]? = some o ∧ o ≠ .hole ∧ (∀ x ∈ o.ids, x ∈ ids) ∧ q = o.ren (idx ids) := by
  obtain ⟨h1, h2⟩ := subHeap_spec h
  have hkl : k < ids.length := by rw [← h1]; exact (List.getElem?_eq_some_iff.1 hk).1
  obtain ⟨o, ho, hno, hin, ho'⟩ := h2 k ids[k] (by simp [hkl])
  rw [hk] at ho'; injection ho' with ho'
  exact ⟨ids[k], o, by simp [hkl], ho, hno, hin, ho'⟩

theorem ren_box {r : Nat → Nat} {o : Ob} {cs : List AV} (h : Ob.box cs = o.ren r) : ∃ ds, o = .box ds ∧ cs = ds.map (AV.ren1 r) := by
  cases o <;> simp [Ob.ren] at h; exact ⟨_, rfl, h⟩
theorem ren_vec {r : Nat → Nat} {o : Ob} {t n} (h : Ob.vec t n = o.ren r) : o = .vec t n := by
  cases o <;> simp [Ob.ren] at h; obtain ⟨rfl, rfl⟩ := h; rfl
theorem ren_raw {r : Nat → Nat} {o : Ob} {q : Raw} (h : Ob.raw q = o.ren r) : ∃ q0, o = .raw q0 ∧ q = q0.ren r := by
  cases o <;> simp [Ob.ren] at h; exact ⟨_, rfl, h⟩

/-- An object in other numbers. -/
theorem RawOk.lift {σ' : Heap} {ρ' : Gr} {S' : Cells} {w' : World} {r : Nat → Nat} {G : Nat → Prop} (hE : ∀ (x : E) (v : Value), VE P w S x v → VE P w' S' x v)
    (h : ∀ (v : AV) (cv : Value), VA1 P σ ρ S w v cv → (∀ x ∈ v.ids1, G x) → VA1 P σ' ρ' S' w' (v.ren1 r) cv) {c : Nat} {q : Raw} {o : Obj} (hv : RawOk P σ ρ S w c q o)
    (hi : ∀ x ∈ q.ids, G x) : RawOk P σ' ρ' S' w' c (q.ren r) o := by
  cases q with
  | iter s pos => exact hv
  | arr et xs ov =>
    obtain ⟨arr, fs, h1, h2, h3, h4, h5, h6, h7, h8, h9⟩ := hv
    refine ⟨arr, fs, h1, h2, h3, h4, h5, fun p hp => ?_, h7, fun i y j ct x hy hct hx hov => ?_, fun i y j x hy hx => ?_⟩
    · obtain ⟨p0, hp0, rfl⟩ := List.mem_map.1 hp
      exact h6 p0 hp0
    · rw [ovAt_map] at hov
      exact h8 i y j ct x hy hct hx (by cases hq : ovAt ov i j <;> rw [hq] at hov <;> first | rfl | cases hov)
    · obtain ⟨v, k1, k2⟩ := h9 i y j x hy hx
      refine ⟨v, k1, ?_⟩
      rw [ovAt_map]
      cases hq : ovAt ov i j with
      | none => rw [hq] at k2; exact hE x v k2
      | some u =>
        rw [hq] at k2
        exact ⟨by cases u <;> first | exact k2.1 | rfl, h u v k2.2 fun y hy => hi y (List.mem_flatMap.2 ⟨_, ovAt_mem hq, hy⟩)⟩
  | map kt vt es =>
    obtain ⟨ents, clk, h1, h2, h3⟩ := hv
    refine ⟨ents, clk, h1, by simpa using h2, fun i k v hk => ?_⟩
    rw [List.getElem?_map] at hk
    obtain ⟨⟨k0, v0⟩, hk0, he⟩ := Option.map_eq_some_iff.1 hk
    injection he with e1 e2; subst e1; subst e2
    obtain ⟨e, k1, k2, k3⟩ := h3 i k0 v0 hk0
    exact ⟨e, k1, hE _ _ k2, lift2 h k3 fun y hy => hi y (List.mem_flatMap.2 ⟨_, List.mem_of_getElem? hk0, hy⟩)⟩
theorem ren_hole {r : Nat → Nat} {o : Ob} (h : Ob.hole = o.ren r) : o = .hole := by
  cases o <;> simp [Ob.ren] at h; rfl

theorem Rel.sub (hr : Rel P σ ρ S w) (hn : ids.Nodup) (hs : subHeap σ ids = some σ1) : Rel P σ1 (subGr ρ ids) S w := by
  have hgl : ∀ {id : Nat} {o : Ob}, σ[id]? = some o → id < ρ.length := fun h => by rw [hr.len]; exact (List.getElem?_eq_some_iff.1 h).1
  refine ⟨by simp [subGr, (subHeap_spec hs).1], ?_, ?_, ?_, ?_, ?_, ?_, hr.cells, hr.glob.mono' fun id b c h => (subGr_back h).imp fun _ h => h.2⟩
  · intro k cs hk
    obtain ⟨id, o, hid, ho, _, hin, hq⟩ := subHeap_back hs hk
    obtain ⟨ds, rfl, rfl⟩ := ren_box hq
    obtain ⟨b, c, arr, T, h3, h4, h5, h6, h7⟩ := hr.box _ _ ho
    refine ⟨b, c, arr, T, by rw [subGr_get hid (hgl ho)]; exact h3, h4, by simpa using h5, ?_, h7⟩
    intro j v hj
    rw [List.getElem?_map] at hj
    obtain ⟨u, hu, rfl⟩ := Option.map_eq_some_iff.1 hj
    obtain ⟨ho, x, h8, h9⟩ := h6 j u hu
    exact ⟨ren1_one _ ho, x, h8, VA1.sub hr.len hs h9 fun y hy => hin y (List.mem_flatMap.2 ⟨u, List.mem_of_getElem? hu, hy⟩)⟩
  · intro k et n b c hk hg
    obtain ⟨id, o, hid, ho, _, hin, hq⟩ := subHeap_back hs hk
    have := ren_vec hq; subst this
    rw [subGr_get hid (hgl ho)] at hg
    exact hr.vec _ _ _ _ _ ho hg
  · intro k r hk
    obtain ⟨id, o, hid, ho, _, hin, hq⟩ := subHeap_back hs hk
    obtain ⟨q0, rfl, rfl⟩ := ren_raw hq
    obtain ⟨b, c, ob, h3, h4, h5, h6⟩ := hr.raw _ _ ho
    exact ⟨b, c, ob, by rw [subGr_get hid (hgl ho)]; exact h3, h4, h5.lift (fun _ _ h => h) (G := fun x => x ∈ ids) (fun _ _ h h' => VA1.sub hr.len hs h h') hin, h6⟩
  · intro k hk
    obtain ⟨id, o, hid, ho, hno, hin, hq⟩ := subHeap_back hs hk
    exact absurd (ren_hole hq) hno
  · intro k b c h
    obtain ⟨id, _, h4⟩ := subGr_back h
    exact hr.lt _ _ _ h4
  · intro i j b c c' hi hj
    obtain ⟨id, h3, h4⟩ := subGr_back hi
    obtain ⟨id', h3', h4'⟩ := subGr_back hj
    have := hr.inj _ _ _ _ _ h4 h4'
    subst this
    exact nodup_inj hn h3 h3'

/-! ### Back -/

def backGr (ids : List Nat) (ρ1 ρ : Gr) : Gr := (ρ.zipIdx.map fun p => if ids.contains p.2 then ρ1.getD (idx ids p.2) none else p.1) ++ ρ1.drop ids.length

variable {σ1' : Heap} {ρ1' : Gr} {S' : Cells} {w' : World}

theorem renum_at {n k id : Nat} (h : ids[k]? = some id) : renum ids n k = id := by
  unfold renum
  rw [if_pos (List.getElem?_eq_some_iff.1 h).1]
  simp [List.getD_eq_getElem?_getD, h]
theorem renum_new {n k : Nat} (h : ids.length ≤ k) : renum ids n k = n + (k - ids.length) := by
  unfold renum
  rw [if_neg (by omega)]

theorem zipIdx_map_get {α β : Type} (f : α × Nat → β) (l : List α) (i : Nat) : (l.zipIdx.map f)[i]? = (l[i]?).map fun x => f (x, i) := by
  rw [List.getElem?_map, List.getElem?_zipIdx]
  cases l[i]? <;> simp

theorem back_at (hn : ids.Nodup) (hb : ∀ id ∈ ids, id < σ.length) (hl : ρ.length = σ.length) (hl' : ρ1'.length = σ1'.length) {k : Nat} {o : Ob} (ho : σ1'[k]? = some o) :
    (backTo ids σ1' σ)[renum ids σ.length k]? = some (o.ren (renum ids σ.length)) ∧ (backGr ids ρ1' ρ)[renum ids σ.length k]? = ρ1'[k]? := by
  have hk1 : k < ρ1'.length := by rw [hl']; exact (List.getElem?_eq_some_iff.1 ho).1
  rcases Nat.lt_or_ge k ids.length with hk | hk
  · have hid : ids[k]? = some ids[k] := List.getElem?_eq_getElem hk
    have hlt := hb ids[k] (List.getElem_mem hk)
    rw [renum_at hid]
    have hc : ids.contains ids[k] = true := by simp
    constructor
    · unfold backTo
      rw [List.getElem?_append_left (by simpa using hlt), zipIdx_map_get, List.getElem?_eq_getElem hlt]
      simp only [Option.map_some, hc, if_true, idx_at hn hid, Heap.ob, List.getD_eq_getElem?_getD, ho, Option.getD_some]
    · unfold backGr
      rw [List.getElem?_append_left (by simp [hl]; exact hlt), zipIdx_map_get, List.getElem?_eq_getElem (by rw [hl]; exact hlt)]
      simp only [Option.map_some, hc, if_true, idx_at hn hid, List.getD_eq_getElem?_getD, List.getElem?_eq_getElem hk1, Option.getD_some]
  · rw [renum_new hk]
    constructor
    · unfold backTo
      rw [List.getElem?_append_right (by simp), List.getElem?_map, List.getElem?_drop]
      simp only [List.length_map, List.length_zipIdx]
      rw [show ids.length + (σ.length + (k - ids.length) - σ.length) = k by omega, ho]
      rfl
    · unfold backGr
      rw [List.getElem?_append_right (by simp [hl]), List.getElem?_drop]
      simp only [List.length_map, List.length_zipIdx, hl]
      rw [show ids.length + (σ.length + (k - ids.length) - σ.length) = k by omega]

theorem back_other (hl : ρ.length = σ.length) {id : Nat} (h : id ∉ ids) (hlt : id < σ.length) : (backTo ids σ1' σ)[id]? = σ[id]? ∧ (backGr ids ρ1' ρ)[id]? = ρ[id]? := by
  have hc : ids.contains id = false := by simpa using h
  constructor
  · unfold backTo
    rw [List.getElem?_append_left (by simpa using hlt), zipIdx_map_get, List.getElem?_eq_getElem hlt]
    simp only [Option.map_some, hc]; rfl
  · unfold backGr
    rw [List.getElem?_append_left (by simp [hl]; exact hlt), zipIdx_map_get, List.getElem?_eq_getElem (by rw [hl]; exact hlt)]
    simp only [Option.map_some, hc]; rfl

theorem back_len : (backTo ids σ1' σ).length = σ.length + (σ1'.length - ids.length) := by simp [backTo]
theorem backGr_len : (backGr ids ρ1' ρ).length = ρ.length + (ρ1'.length - ids.length) := by simp [backGr]

/-- Where an object behind the call comes from. -/
theorem back_from (hl : ids.length ≤ σ1'.length) {i : Nat} (hi : i < (backTo ids σ1' σ).length) : (∃ k, k < σ1'.length ∧ i = renum ids σ.length k) ∨ (i ∉ ids ∧ i < σ.length) := by
  rw [back_len] at hi
  rcases Nat.lt_or_ge i σ.length with h | h
  · by_cases hm : i ∈ ids
    · have hs := idx_spec hm
      have := (List.getElem?_eq_some_iff.1 hs).1
      exact .inl ⟨idx ids i, by omega, (renum_at hs).symm⟩
    · exact .inr ⟨hm, h⟩
  · exact .inl ⟨ids.length + (i - σ.length), by omega, by rw [renum_new (by omega)]; omega⟩

theorem renum_inj (hn : ids.Nodup) (hb : ∀ id ∈ ids, id < σ.length) {i j : Nat} (h : renum ids σ.length i = renum ids σ.length j) : i = j := by
  rcases Nat.lt_or_ge i ids.length with hi | hi <;> rcases Nat.lt_or_ge j ids.length with hj | hj
  · have h1 : ids[i]? = some ids[i] := List.getElem?_eq_getElem hi
    have h2 : ids[j]? = some ids[j] := List.getElem?_eq_getElem hj
    rw [renum_at h1, renum_at h2] at h
    exact nodup_inj hn h1 (by rw [h]; exact h2)
  · have h1 : ids[i]? = some ids[i] := List.getElem?_eq_getElem hi
    rw [renum_at h1, renum_new hj] at h
    have := hb _ (List.getElem_mem hi)
    omega
  · have h2 : ids[j]? = some ids[j] := List.getElem?_eq_getElem hj
    rw [renum_at h2, renum_new hi] at h
    have := hb _ (List.getElem_mem hj)
    omega
  · rw [renum_new hi, renum_new hj] at h; omega

/-- What the numbered objects came to, in the caller's numbers. -/
theorem back_ok (hr : Rel P σ ρ S w) (hn : ids.Nodup) (hs : subHeap σ ids = some σ1) (hr' : Rel P σ1' ρ1' S' w') (he : Ext σ1 (subGr ρ ids) S w σ1' ρ1' S' w')
    (hlen : σ1.length ≤ σ1'.length) :
    Rel P (backTo ids σ1' σ) (backGr ids ρ1' ρ) S' w' ∧ Ext σ ρ S w (backTo ids σ1' σ) (backGr ids ρ1' ρ) S' w' ∧
    ∀ (v : AV) (cv : Value), VA1 P σ1' ρ1' S' w' v cv → VA1 P (backTo ids σ1' σ) (backGr ids ρ1' ρ) S' w' (v.ren1 (renum ids σ.length)) cv := by
  obtain ⟨h1, h2⟩ := subHeap_spec hs
  have hb : ∀ id ∈ ids, id < σ.length := fun id hid => by
    obtain ⟨k, hk⟩ := List.mem_iff_getElem?.1 hid
    obtain ⟨o, ho, _⟩ := h2 k id hk
    exact (List.getElem?_eq_some_iff.1 ho).1
  have at_ : ∀ {k : Nat} {o : Ob}, σ1'[k]? = some o → (backTo ids σ1' σ)[renum ids σ.length k]? = some (o.ren (renum ids σ.length)) ∧ (backGr ids ρ1' ρ)[renum ids σ.length k]? = ρ1'[k]? :=
    fun ho => back_at hn hb hr.len hr'.len ho
  have hout : ∀ (id b c : Nat), ρ[id]? = some (some (b, c)) → id ∉ ids → ∀ k c', (subGr ρ ids)[k]? ≠ some (some (b, c')) := fun id b c h hni k c' hk => by
    obtain ⟨id', h3, h4⟩ := subGr_back hk
    have := hr.inj _ _ _ _ _ h h4
    subst this
    exact hni (List.mem_of_getElem? h3)
  have hnewS : ∀ (id b c : Nat), ρ[id]? = some (some (b, c)) → id ∉ ids → ∀ o, S' b o → S b o := fun id b c h hni o hs' => by
    rcases he.newS b o hs' with h3 | h3 | ⟨i, c', h3⟩
    · exact h3
    · have := hr.lt id b c h; omega
    · exact absurd h3 (hout id b c h hni i c')
  -- an object that was there, behind the call
  have old_in : ∀ {id : Nat} {o : Ob}, σ[id]? = some o → id ∈ ids → ∃ k, ids[k]? = some id ∧ σ1[k]? = some (o.ren (idx ids)) ∧ (subGr ρ ids)[k]? = ρ[id]? ∧ renum ids σ.length k = id := fun {id o} ho hi => by
    have hk := idx_spec hi
    obtain ⟨o', ho', _, _, h3⟩ := h2 _ _ hk
    rw [ho] at ho'; injection ho' with ho'; subst ho'
    exact ⟨_, hk, h3, subGr_get hk (by rw [hr.len]; exact (List.getElem?_eq_some_iff.1 ho).1), renum_at hk⟩
  have hext : Ext σ ρ S w (backTo ids σ1' σ) (backGr ids ρ1' ρ) S' w' := by
    refine ⟨he.cell, ?_, ?_, ?_, ?_, ?_, ?_, ?_, he.size, he.os, he.tape, he.output⟩
    · intro id cs hbx
      by_cases hi : id ∈ ids
      · obtain ⟨k, hk, h3, h4, h5⟩ := old_in hbx hi
        obtain ⟨⟨cs', h6⟩, h7⟩ := he.box _ _ h3
        obtain ⟨h8, h9⟩ := at_ h6
        rw [h5] at h8 h9
        exact ⟨⟨_, h8⟩, h9.trans (h7.trans h4)⟩
      · obtain ⟨h3, h4⟩ := back_other (σ1' := σ1') (ρ1' := ρ1') hr.len hi (List.getElem?_eq_some_iff.1 hbx).1
        exact ⟨⟨cs, h3.trans hbx⟩, h4⟩
    · intro id et n hbx
      by_cases hi : id ∈ ids
      · obtain ⟨k, hk, h3, h4, h5⟩ := old_in hbx hi
        rcases he.vec _ _ _ h3 with ⟨n', l, h6, h7⟩ | h6
        · obtain ⟨h8, h9⟩ := at_ h6
          rw [h5] at h8 h9
          exact .inl ⟨n', l, h8, fun e => h9.trans ((h7 e).trans h4)⟩
        · obtain ⟨h8, _⟩ := at_ h6
          rw [h5] at h8
          exact .inr h8
      · obtain ⟨h3, h4⟩ := back_other (σ1' := σ1') (ρ1' := ρ1') hr.len hi (List.getElem?_eq_some_iff.1 hbx).1
        exact .inl ⟨n, Nat.le_refl _, h3.trans hbx, fun _ => h4⟩
    · intro id r hbx
      by_cases hi : id ∈ ids
      · obtain ⟨k, hk, h3, h4, h5⟩ := old_in hbx hi
        rcases he.raw _ _ h3 with ⟨r', g1, g2, h6, h7⟩ | ⟨g1, h6⟩
        · obtain ⟨h8, h9⟩ := at_ h6
          rw [h5] at h8 h9
          rw [Raw.ren_kind] at g1
          rw [Raw.ren_size] at g2 h7
          exact .inl ⟨_, by rw [Raw.ren_kind]; exact g1, by rw [Raw.ren_size]; exact g2, h8, fun e => h9.trans ((h7 (by rw [Raw.ren_size] at e; exact e)).trans h4)⟩
        · obtain ⟨h8, _⟩ := at_ h6
          rw [h5] at h8
          exact .inr ⟨by rw [Raw.ren_kind] at g1; exact g1, h8⟩
      · obtain ⟨h3, h4⟩ := back_other (σ1' := σ1') (ρ1' := ρ1') hr.len hi (List.getElem?_eq_some_iff.1 hbx).1
        exact .inl ⟨r, rfl, Nat.le_refl _, h3.trans hbx, fun _ => h4⟩
    · intro id hbx
      by_cases hi : id ∈ ids
      · obtain ⟨k, hk, h3, h4, h5⟩ := old_in hbx hi
        have h6 := he.dead _ h3
        obtain ⟨h8, _⟩ := at_ h6
        rw [h5] at h8
        exact h8
      · exact (back_other (σ1' := σ1') (ρ1' := ρ1') hr.len hi (List.getElem?_eq_some_iff.1 hbx).1).1.trans hbx
    · intro b hb hno
      refine he.old b hb fun k c hk => ?_
      obtain ⟨id, _, h4⟩ := subGr_back hk
      exact hno id c h4
    · intro id b c hg
      have hlt : id < (backTo ids σ1' σ).length := by
        have := (List.getElem?_eq_some_iff.1 hg).1
        rw [backGr_len] at this
        rw [back_len, ← hr'.len, ← hr.len]; exact this
      rcases back_from (by rw [← h1]; exact hlen) hlt with ⟨k, hk, rfl⟩ | ⟨hi, hlt⟩
      · rw [(at_ (List.getElem?_eq_getElem hk)).2] at hg
        rcases he.fresh _ _ _ hg with h3 | ⟨i, c', h3⟩
        · exact .inl h3
        · obtain ⟨id', _, h4⟩ := subGr_back h3
          exact .inr ⟨id', c', h4⟩
      · rw [(back_other (σ1' := σ1') (ρ1' := ρ1') hr.len hi hlt).2] at hg
        exact .inr ⟨id, c, hg⟩
    · intro b o hs'
      rcases he.newS b o hs' with h3 | h3 | ⟨i, c, h3⟩
      · exact .inl h3
      · exact .inr (.inl h3)
      · obtain ⟨id', _, h4⟩ := subGr_back h3
        exact .inr (.inr ⟨id', c, h4⟩)
  have hval : ∀ (v : AV) (cv : Value), VA1 P σ1' ρ1' S' w' v cv → VA1 P (backTo ids σ1' σ) (backGr ids ρ1' ρ) S' w' (v.ren1 (renum ids σ.length)) cv := by
    intro v cv hv
    cases v with
    | own k et xs =>
      obtain ⟨h3, ⟨n, h4, h5, h6⟩ | h4⟩ := hv
      · obtain ⟨h7, h8⟩ := at_ h4
        refine ⟨h3, .inl ⟨n, h7, h5, fun e => ?_⟩⟩
        have := h6 e
        unfold place at *
        rw [h8]
        exact this
      · exact ⟨h3, .inr (at_ h4).1⟩
    | ptr k off =>
      obtain ⟨b, c, h3, ⟨cs, h4⟩, h5⟩ := hv
      obtain ⟨h7, h8⟩ := at_ h4
      exact ⟨b, c, h8.trans h3, ⟨_, h7⟩, h5⟩
    | clo f ps =>
      obtain ⟨cap, h3, h4, h5⟩ := hv
      refine ⟨cap, h3, by simpa using h4, fun j p hj => ?_⟩
      rw [List.getElem?_map] at hj
      obtain ⟨q, hq, rfl⟩ := Option.map_eq_some_iff.1 hj
      obtain ⟨b, c, h6, ⟨cs, h7⟩, h8⟩ := h5 j q hq
      obtain ⟨h9, h10⟩ := at_ h7
      exact ⟨b, c, h10.trans h6, ⟨_, h9⟩, h8⟩
    | itr k =>
      obtain ⟨b, c, h3, ⟨r, h4, h4'⟩, h5⟩ := hv
      obtain ⟨h7, h8⟩ := at_ h4
      exact ⟨b, c, h8.trans h3, ⟨_, h7, by rw [Raw.ren_kind]; exact h4'⟩, h5⟩
    | mp k =>
      obtain ⟨b, c, h3, ⟨r, h4, h4'⟩, h5⟩ := hv
      obtain ⟨h7, h8⟩ := at_ h4
      exact ⟨b, c, h8.trans h3, ⟨_, h7, by rw [Raw.ren_kind]; exact h4'⟩, h5⟩
    | mv k et n off len =>
      obtain ⟨b, q, c, fs, h3, h3', ⟨xs, ov, h4, h5, h6⟩ | h4⟩ := hv
      · obtain ⟨h7, h8⟩ := at_ h4
        exact ⟨b, q, c, fs, h3, h3', .inl ⟨xs, _, h7, h5, fun e => let ⟨c0, g1, g2⟩ := h6 e; ⟨c0, h8.trans g1, g2⟩⟩⟩
      · exact ⟨b, q, c, fs, h3, h3', .inr (at_ h4).1⟩
    | eptr k n i j =>
      obtain ⟨b, q, h3, ⟨et, xs, ov, fs, h4, h4', h5, h6⟩ | h4⟩ := hv
      · obtain ⟨h7, h8⟩ := at_ h4
        exact ⟨b, q, h3, .inl ⟨et, xs, _, fs, h7, h4', h5, fun e => let ⟨c0, g1, g2⟩ := h6 e; ⟨c0, h8.trans g1, g2⟩⟩⟩
      · exact ⟨b, q, h3, .inr (at_ h4).1⟩
    | nilm => exact hv
    | nsp k t =>
      obtain ⟨⟨cs, h4⟩, b, h6, h9⟩ := hv
      obtain ⟨h7, h8⟩ := at_ h4
      exact ⟨⟨_, h7⟩, b, h8.trans h6, h9⟩
    | e x => exact hv
    | nils et => exact hv
    | nilc et => exact hv
    | nil0 et => exact hv
    | sn et xs => exact hv
    | nilp => exact hv
    | pin et y off => exact hv
    | fn f => exact hv
    | ni => exact hv
    | undef => trivial
    | agg cs => exact hv.elim
    | tup vs => exact hv.elim
  -- where an object comes from
  have from_ : ∀ {i : Nat} {q : Ob}, (backTo ids σ1' σ)[i]? = some q → (∃ k o, i = renum ids σ.length k ∧ σ1'[k]? = some o ∧ q = o.ren (renum ids σ.length) ∧ (backGr ids ρ1' ρ)[i]? = ρ1'[k]?) ∨
      (i ∉ ids ∧ σ[i]? = some q ∧ (backGr ids ρ1' ρ)[i]? = ρ[i]?) := fun {i q} hq => by
    rcases back_from (by rw [← h1]; exact hlen) (List.getElem?_eq_some_iff.1 hq).1 with ⟨k, hk, rfl⟩ | ⟨hi, hlt⟩
    · obtain ⟨h3, h4⟩ := at_ (List.getElem?_eq_getElem hk)
      rw [hq] at h3; injection h3 with h3
      exact .inl ⟨k, _, rfl, List.getElem?_eq_getElem hk, h3, h4⟩
    · obtain ⟨h3, h4⟩ := back_other (σ1' := σ1') (ρ1' := ρ1') hr.len hi hlt
      exact .inr ⟨hi, h3.symm.trans hq, h4⟩
  have hother : ∀ {id b c : Nat}, ρ[id]? = some (some (b, c)) → id ∉ ids → w'.heap[b]? = w.heap[b]? := fun {id b c} h hi => he.old b (hr.lt id b c h) (hout id b c h hi)
  refine ⟨⟨by rw [back_len, backGr_len, hr.len, hr'.len], ?_, ?_, ?_, ?_, ?_, ?_, hr'.cells, hr.glob.mono hext⟩, hext, hval⟩
  · intro id cs hbx
    rcases from_ hbx with ⟨k, o, rfl, ho, hq, hg⟩ | ⟨hi, ho, hg⟩
    · obtain ⟨ds, rfl, rfl⟩ := ren_box hq
      obtain ⟨b, c, arr, T, h3, h4, h5, h6, h7⟩ := hr'.box _ ds ho
      refine ⟨b, c, arr, T, hg.trans h3, h4, by simpa using h5, ?_, h7⟩
      intro j v hj
      rw [List.getElem?_map] at hj
      obtain ⟨u, hu, rfl⟩ := Option.map_eq_some_iff.1 hj
      obtain ⟨ho, x, h8, h9⟩ := h6 j u hu
      exact ⟨ren1_one _ ho, x, h8, hval u x h9⟩
    · obtain ⟨b, c, arr, T, h3, h4, h5, h6, h7⟩ := hr.box _ _ ho
      refine ⟨b, c, arr, T, hg.trans h3, (hother h3 hi).trans h4, h5, ?_, ⟨fun o hs' => h7.1 o (hnewS id b c h3 hi o hs'), h7.2⟩⟩
      intro j v hj
      obtain ⟨ho, x, h8, h9⟩ := h6 j v hj
      exact ⟨ho, x, h8, h9.mono hext⟩
  · intro id et n b c hbx hgr
    rcases from_ hbx with ⟨k, o, rfl, ho, hq, hg⟩ | ⟨hi, ho, hg⟩
    · have := ren_vec hq; subst this
      exact hr'.vec _ _ _ _ _ ho (hg.symm.trans hgr)
    · have h3 := hg.symm.trans hgr
      obtain ⟨arr, T, fs, h4, h5, h6, h7, h8⟩ := hr.vec _ _ _ _ _ ho h3
      exact ⟨arr, T, fs, (hother h3 hi).trans h4, h5, h6, h7, fun o hs' => h8.1 o (hnewS id b c h3 hi o hs'), h8.2⟩
  · intro id r hbx
    rcases from_ hbx with ⟨k, o, rfl, ho, hq, hg⟩ | ⟨hi, ho, hg⟩
    · obtain ⟨q0, rfl, rfl⟩ := ren_raw hq
      obtain ⟨b, c, ob, h3, h4, h5, h6⟩ := hr'.raw _ _ ho
      exact ⟨b, c, ob, hg.trans h3, h4, h5.lift (fun _ _ h => h) (G := fun _ => True) (fun v cv h _ => hval v cv h) (fun _ _ => trivial), h6⟩
    · obtain ⟨b, c, ob, h3, h4, h5, h6⟩ := hr.raw _ _ ho
      exact ⟨b, c, ob, hg.trans h3, (hother h3 hi).trans h4, h5.mono hext, fun o hs' => h6 o (hnewS id b c h3 hi o hs')⟩
  · intro id hbx
    rcases from_ hbx with ⟨k, o, rfl, ho, hq, hg⟩ | ⟨hi, ho, hg⟩
    · have := ren_hole hq; subst this
      exact hg.trans (hr'.hole _ ho)
    · exact hg.trans (hr.hole _ ho)
  · intro id b c hgr
    have hlt : id < (backTo ids σ1' σ).length := by
      have := (List.getElem?_eq_some_iff.1 hgr).1
      rw [backGr_len] at this
      rw [back_len, ← hr'.len, ← hr.len]; exact this
    rcases from_ (List.getElem?_eq_getElem hlt) with ⟨k, o, rfl, ho, hq, hg⟩ | ⟨hi, ho, hg⟩
    · exact hr'.lt _ _ _ (hg.symm.trans hgr)
    · exact Nat.lt_of_lt_of_le (hr.lt _ _ _ (hg.symm.trans hgr)) he.size
  · intro i j b c c' hi hj
    have hlt : ∀ {i : Nat} {g : Option (Nat × Nat)}, (backGr ids ρ1' ρ)[i]? = some g → i < (backTo ids σ1' σ).length := fun {i g} h => by
      have := (List.getElem?_eq_some_iff.1 h).1
      rw [backGr_len] at this
      rw [back_len, ← hr'.len, ← hr.len]; exact this
    have key : ∀ {k i b c c' : Nat}, ρ1'[k]? = some (some (b, c)) → i ∉ ids → ρ[i]? = some (some (b, c')) → False := fun {k i b c c'} h h3 h4 => by
      rcases he.fresh _ _ _ h with h5 | ⟨q, c2, h5⟩
      · have := hr.lt i b c' h4; omega
      · exact hout i b c' h4 h3 q c2 h5
    rcases from_ (List.getElem?_eq_getElem (hlt hi)) with ⟨k, o, rfl, ho, hq, hg⟩ | ⟨hi1, ho, hg⟩ <;> rcases from_ (List.getElem?_eq_getElem (hlt hj)) with ⟨k', o', rfl, ho', hq', hg'⟩ | ⟨hj1, ho', hg'⟩
    · have := hr'.inj _ _ _ _ _ (hg.symm.trans hi) (hg'.symm.trans hj)
      rw [this]
    · exact (key (hg.symm.trans hi) hj1 (hg'.symm.trans hj)).elim
    · exact (key (hg'.symm.trans hj) hi1 (hg.symm.trans hi)).elim
    · exact hr.inj _ _ _ _ _ (hg.symm.trans hi) (hg'.symm.trans hj)

end
end Go.Den

/- Calls: what a callee's results and objects are, is said by their types; and the caller goes on with them. -/
namespace Go.Den
open Go

section
variable {P : Program}

theorem okCells_spec {ft : List TypeId} {rs : List AV} (h : okCells P ft rs = true) : rs.length = ft.length ∧
    ∀ (j : Nat) (ct : TypeId) (v : AV), ft[j]? = some ct → rs[j]? = some v → ∃ x, v = .e x ∧ okCell P ct x = true := by
  unfold okCells at h
  rw [Bool.and_eq_true] at h
  refine ⟨by simpa using h.1, fun j ct v h1 h2 => ?_⟩
  have hz : (ft.zip rs)[j]? = some (ct, v) := by rw [List.getElem?_zip_eq_some]; exact ⟨h1, h2⟩
  have := List.all_eq_true.1 h.2 _ (List.mem_of_getElem? hz)
  cases v <;> simp at this
  exact ⟨_, rfl, this⟩

theorem seal1_e {x : E} : (AV.e x).seal1 = some x := rfl

theorem seal_cells : ∀ {rs : List AV}, (∀ (j : Nat) (v : AV), rs[j]? = some v → ∃ x, v = .e x) → ∃ xs : List E, rs = xs.map AV.e ∧ rs.mapM AV.seal1 = some xs
  | [], _ => ⟨[], rfl, rfl⟩
  | v :: rs, h => by
    obtain ⟨x, rfl⟩ := h 0 v rfl
    obtain ⟨xs, h1, h2⟩ := seal_cells (rs := rs) fun j v hj => h (j + 1) v (by simpa using hj)
    exact ⟨x :: xs, by simp [h1], by simp [List.mapM_cons, seal1_e, h2]⟩

theorem canonRes1_ok {t : TypeId} {r v : AV} (h : okRes1 P t r = true) (hc : canonRes1 P t r = some v) : v = r ∧ (∀ f, r.ren2 f = r) ∧ ∀ cs, r ≠ .tup cs := by
  unfold okRes1 at h
  unfold canonRes1 at hc
  by_cases ha : isAggB P t = true
  · rw [if_pos ha] at h hc
    cases hf : flat P depth t with
    | none => rw [hf] at h; cases h
    | some ft =>
      cases r with
      | agg rs =>
        simp only [hf] at h hc
        obtain ⟨h1, h2⟩ := okCells_spec h
        have he : ∀ (j : Nat) (v : AV), rs[j]? = some v → ∃ x, v = .e x := fun j v hj => by
          have hl : j < ft.length := by rw [← h1]; exact (List.getElem?_eq_some_iff.1 hj).1
          obtain ⟨x, hx, _⟩ := h2 j ft[j] v (by simp [hl]) hj
          exact ⟨x, hx⟩
        obtain ⟨xs, hx1, hx2⟩ := seal_cells he
        have hd : (AV.agg rs).data = .agg xs := by simp [AV.data, AV.dat, hx2]
        obtain ⟨cs, hcs, rfl⟩ := Option.map_eq_some_iff.1 hc
        obtain ⟨h3, h4⟩ := mapM_some_get hcs
        refine ⟨?_, fun f => ?_, fun cs e => by cases e⟩
        · congr 1
          apply List.ext_getElem?
          intro j
          by_cases hj : j < ft.length
          · obtain ⟨y, hy, hy'⟩ := h4 j (ft[j], j) (by simp [hj])
            rw [hy']
            obtain ⟨u, hu, rfl⟩ := Option.map_eq_some_iff.1 hy
            have hjr : j < rs.length := by omega
            obtain ⟨x, hx, hok⟩ := h2 j ft[j] rs[j] (by simp [hj]) (by simp [hjr])
            have hxs : xs[j]? = some x := by
              have : (xs.map AV.e)[j]? = some (.e x) := by rw [← hx1]; simp [hjr, hx]
              rw [List.getElem?_map] at this
              obtain ⟨z, hz, hz'⟩ := Option.map_eq_some_iff.1 this
              cases hz'; exact hz
            rw [hd, E.cell_of (y := .agg xs) (x := x) (by exact hxs)] at hu
            rw [canon_ok hu hok, List.getElem?_eq_getElem hjr, hx]
          · rw [List.getElem?_eq_none (by rw [h3]; simp; omega), List.getElem?_eq_none (by omega)]
        · simp only [AV.ren2]
          congr 1
          rw [hx1]
          simp [AV.ren1]
      | _ => simp [hf] at h
  · rw [if_neg ha] at h hc
    cases r with
    | e x =>
      obtain ⟨u, hu, rfl⟩ := Option.map_eq_some_iff.1 hc
      cases x with
      | agg cs => have := okCell_one h; simp [AV.one] at this
      | int k n => exact ⟨by rw [canon_ok hu (by simpa [AV.data, AV.dat, AV.seal1] using h)]; rfl, fun f => rfl, fun cs e => by cases e⟩
      | bool b => exact ⟨by rw [canon_ok hu (by simpa [AV.data, AV.dat, AV.seal1] using h)]; rfl, fun f => rfl, fun cs e => by cases e⟩
      | str s => exact ⟨by rw [canon_ok hu (by simpa [AV.data, AV.dat, AV.seal1] using h)]; rfl, fun f => rfl, fun cs e => by cases e⟩
      | sl e xs => exact ⟨by rw [canon_ok hu (by simpa [AV.data, AV.dat, AV.seal1] using h)]; rfl, fun f => rfl, fun cs e => by cases e⟩
      | ifc t x => exact ⟨by rw [canon_ok hu (by simpa [AV.data, AV.dat, AV.seal1] using h)]; rfl, fun f => rfl, fun cs e => by cases e⟩
      | nili => exact ⟨by rw [canon_ok hu (by simpa [AV.data, AV.dat, AV.seal1] using h)]; rfl, fun f => rfl, fun cs e => by cases e⟩
    | _ => simp at h

theorem canonRes_ok {t : TypeId} {r : Res} {v : AV} (h : okRes P t r = true) (hc : canonRes P t r.val = some v) : ∃ u, r = .ret u ∧ v = u ∧ ∀ f, u.ren3 f = u := by
  unfold okRes at h
  cases r with
  | pan x => cases h
  | rcv x => cases h
  | ret u =>
    refine ⟨u, rfl, ?_⟩
    simp only [Res.val] at hc
    unfold canonRes at hc
    simp only at h
    split at h
    · rename_i ts hu
      rw [hu] at hc
      split at h
      · rename_i vs
        simp only at hc
        rw [Bool.and_eq_true] at h
        obtain ⟨ws, hws, rfl⟩ := Option.map_eq_some_iff.1 hc
        obtain ⟨h3, h4⟩ := mapM_some_get hws
        have hlen : vs.length = ts.toList.length := by simpa using h.1
        have hall : ∀ (j : Nat) (hj : j < vs.length), ws[j]? = some vs[j] ∧ ∀ f, vs[j].ren2 f = vs[j] := fun j hj => by
          have hjt : j < ts.toList.length := by omega
          obtain ⟨y, hy, hy'⟩ := h4 j (ts.toList[j], j) (by simp [List.getElem?_zipIdx])
          have hz : (ts.toList.zip vs)[j]? = some (ts.toList[j], vs[j]) := by
            rw [List.getElem?_zip_eq_some]; exact ⟨List.getElem?_eq_getElem hjt, List.getElem?_eq_getElem hj⟩
          have hok := List.all_eq_true.1 h.2 _ (List.mem_of_getElem? hz)
          have hcomp : AV.comp (.tup vs) j = vs[j] := by simp [AV.comp, List.getD_eq_getElem?_getD, hj]
          rw [hcomp] at hy
          obtain ⟨h5, h6, _⟩ := canonRes1_ok hok hy
          exact ⟨by rw [hy', h5], h6⟩
        refine ⟨?_, fun f => ?_⟩
        · congr 1
          apply List.ext_getElem?
          intro j
          by_cases hj : j < vs.length
          · rw [(hall j hj).1, List.getElem?_eq_getElem hj]
          · rw [List.getElem?_eq_none (by rw [h3]; simp at hlen ⊢; omega), List.getElem?_eq_none (by omega)]
        · simp only [AV.ren3]
          congr 1
          apply List.ext_getElem?
          intro j
          rw [List.getElem?_map]
          by_cases hj : j < vs.length
          · rw [List.getElem?_eq_getElem hj]; simp [(hall j hj).2]
          · rw [List.getElem?_eq_none (by omega)]; rfl
      · cases h
    · rename_i h0 hu
      rw [hu] at hc
      have hc' : canonRes1 P t u = some v := by
        rename_i x
        cases x <;> first | exact hc | exact absurd rfl (h0 _)
      obtain ⟨h5, h6, h7⟩ := canonRes1_ok h hc'
      exact ⟨h5, fun f => by rw [(ren2_tup f h7).1]; exact h6 f⟩
    · cases h

theorem likeCell_ok {c d : AV} (h : okLike c d = true) : likeCell c d = d := by
  unfold okLike at h
  split at h <;> first | (cases h; done) | skip
  · simp at h; subst h; rfl
  · rfl
  · rfl
  · simp at h; subst h; rfl
  · simp at h; obtain ⟨h1, h2⟩ := h; subst h1; subst h2; rfl
  · simp at h; obtain ⟨h1, h2⟩ := h; subst h1; subst h2; rfl
  · rfl
  · simp at h; subst h; rfl
  · simp at h; obtain ⟨h1, h2⟩ := h; subst h1; subst h2; rfl
  · simp at h; subst h; rfl
  · simp at h; obtain ⟨h1, h2⟩ := h; subst h1; subst h2; rfl
  · simp at h; obtain ⟨h1, h2⟩ := h; subst h1; subst h2; rfl
  · simp at h; subst h; rfl
  · rfl

theorem likeOv_ok : ∀ {ps qs : List (Nat × Nat × AV)}, okOv ps qs = true → likeOv ps qs = qs
  | [], [], _ => rfl
  | (i, j, a) :: ps, (i', j', b) :: qs, h => by
    simp only [okOv, Bool.and_eq_true, beq_iff_eq] at h
    obtain ⟨rfl, h2, rfl, h4⟩ := h
    simp only [likeOv, likeCell_ok h2, likeOv_ok h4]
  | [], _ :: _, h => by cases h
  | _ :: _, [], h => by cases h

theorem likeCells_ok {cs ds : List AV} (hl : cs.length = ds.length) (h : ((cs.zip ds).all fun (c, d) => okLike c d) = true) (dflt : AV) : (cs.zipIdx.map fun (c, j) => likeCell c (ds.getD j dflt)) = ds := by
  apply List.ext_getElem?
  intro j
  rw [List.getElem?_map, List.getElem?_zipIdx]
  by_cases hj : j < cs.length
  · have hjd : j < ds.length := by omega
    have hz : (cs.zip ds)[j]? = some (cs[j], ds[j]) := by rw [List.getElem?_zip_eq_some]; exact ⟨List.getElem?_eq_getElem hj, List.getElem?_eq_getElem hjd⟩
    have := List.all_eq_true.1 h _ (List.mem_of_getElem? hz)
    rw [List.getElem?_eq_getElem hj, List.getElem?_eq_getElem hjd]
    simp only [Option.map_some, Nat.zero_add, List.getD_eq_getElem?_getD, List.getElem?_eq_getElem hjd, Option.getD_some]
    rw [likeCell_ok this]
  · rw [List.getElem?_eq_none (by omega), List.getElem?_eq_none (by omega)]; rfl

theorem likeHeap_ok {σ h : Heap} (ho : okHeap σ h = true) : likeHeap σ h = h ∧ h.length = σ.length := by
  unfold okHeap at ho
  rw [Bool.and_eq_true] at ho
  have hlen : σ.length = h.length := by simpa using ho.1
  refine ⟨?_, hlen.symm⟩
  apply List.ext_getElem?
  intro k
  unfold likeHeap
  rw [List.getElem?_map, List.getElem?_zipIdx]
  by_cases hk : k < σ.length
  · have hkh : k < h.length := by omega
    have hz : (σ.zip h)[k]? = some (σ[k], h[k]) := by rw [List.getElem?_zip_eq_some]; exact ⟨List.getElem?_eq_getElem hk, List.getElem?_eq_getElem hkh⟩
    have hok := List.all_eq_true.1 ho.2 _ (List.mem_of_getElem? hz)
    have hob : Heap.ob h k = h[k] := by simp [Heap.ob, List.getD_eq_getElem?_getD, hkh]
    rw [List.getElem?_eq_getElem hk, List.getElem?_eq_getElem hkh]
    simp only [Option.map_some, Nat.zero_add, hob]
    congr 1
    generalize σ[k] = o at *
    generalize h[k] = q at *
    cases o with
    | box cs =>
      cases q with
      | box ds =>
        simp only [Bool.and_eq_true, beq_iff_eq] at hok
        simp only
        congr 1
        exact likeCells_ok hok.1 hok.2 .undef
      | _ => cases hok
    | vec t n =>
      cases q with
      | vec t' n' =>
        have : t = t' := by simpa using hok
        subst this; rfl
      | _ => cases hok
    | raw r =>
      cases q with
      | raw r' =>
        cases r <;> cases r' <;> first | (cases hok; done) | rfl | skip
        simp only [Bool.and_eq_true, beq_iff_eq] at hok
        obtain ⟨rfl, h2⟩ := hok
        simp only [Ob.arrX, Ob.arrO, likeOv_ok h2]
      | _ => cases r <;> cases hok
    | dead => cases q <;> first | rfl | cases hok
    | hole => cases q <;> first | rfl | cases hok
  · rw [List.getElem?_eq_none (by omega), List.getElem?_eq_none (by omega)]; rfl

theorem okSlot_ok {p v : AV} (h : okSlot p v = true) : likeSlot p v = .undef ∨ likeSlot p v = v := by
  unfold okSlot at h
  split at h
  · exact .inl rfl
  · rename_i cs ds
    right
    rw [Bool.and_eq_true] at h
    simp only [likeSlot]
    congr 1
    exact likeCells_ok (by simpa using h.1) h.2 .undef
  · right
    cases p with
    | undef => rename_i h1 _; exact (h1 rfl).elim
    | agg cs => simp [okLike] at h
    | _ => exact likeCell_ok h

/-- A value of which less is said. -/
def Weaker (v u : AV) : Prop := ∀ (P : Program) (σ : Heap) (ρ : Gr) (S : Cells) (w : World) (cv : Value), VA3 P σ ρ S w u cv → VA3 P σ ρ S w v cv
theorem Weaker.refl (v : AV) : Weaker v v := fun _ _ _ _ _ _ h => h
theorem Weaker.undef (v : AV) : Weaker .undef v := fun _ _ _ _ _ _ _ => trivial

theorem okVal_ok {p v : AV} (h : okVal p v = true) : Weaker (likeVal p v) v := by
  unfold okVal at h
  split at h
  · rename_i ps vs
    rw [Bool.and_eq_true] at h
    have hl : ps.length = vs.length := by simpa using h.1
    have : likeVal (.tup ps) (.tup vs) = .tup vs := by
      simp only [likeVal]
      congr 1
      apply List.ext_getElem?
      intro j
      rw [List.getElem?_map, List.getElem?_zipIdx]
      by_cases hj : j < ps.length
      · have hjd : j < vs.length := by omega
        have hz : (ps.zip vs)[j]? = some (ps[j], vs[j]) := by rw [List.getElem?_zip_eq_some]; exact ⟨List.getElem?_eq_getElem hj, List.getElem?_eq_getElem hjd⟩
        have h3 := List.all_eq_true.1 h.2 _ (List.mem_of_getElem? hz)
        rw [Bool.and_eq_true] at h3
        rw [List.getElem?_eq_getElem hj, List.getElem?_eq_getElem hjd]
        simp only [Option.map_some, Nat.zero_add, AV.comp, List.getD_eq_getElem?_getD, List.getElem?_eq_getElem hjd, Option.getD_some]
        rcases okSlot_ok h3.1 with h4 | h4
        · exfalso
          have h5 := h3.2
          have h6 := h3.1
          generalize ps[j] = a at *
          generalize vs[j] = b at *
          have h7 : a ≠ .undef := by rintro rfl; cases h5
          have h8 : okSlot a .undef = false := by cases a <;> first | rfl | exact absurd rfl h7 | (rename_i x; cases x <;> rfl)
          by_cases hag : ∃ cs, a = .agg cs
          · obtain ⟨cs, rfl⟩ := hag
            cases b <;> simp [okSlot, okLike] at h6
            simp [likeSlot] at h4
          · have e1 : likeSlot a b = likeCell a b := by cases a <;> first | rfl | exact absurd rfl h7 | exact absurd ⟨_, rfl⟩ hag
            have e2 : okSlot a b = okLike a b := by cases a <;> cases b <;> first | rfl | exact absurd rfl h7 | exact absurd ⟨_, rfl⟩ hag
            rw [e1, likeCell_ok (e2 ▸ h6)] at h4
            subst h4
            rw [h8] at h6; cases h6
        · rw [h4]
      · rw [List.getElem?_eq_none (by omega), List.getElem?_eq_none (by omega)]; rfl
    rw [this]
    exact Weaker.refl _
  · rename_i h0
    have hl : likeVal p v = likeSlot p v := by
      cases p <;> first | rfl | skip
      rename_i ps
      cases v <;> first | (simp [okSlot, okLike] at h; done) | exact (h0 _ _ rfl rfl).elim
    rw [hl]
    rcases okSlot_ok h with h1 | h1 <;> rw [h1]
    · exact Weaker.undef _
    · exact Weaker.refl _

/-- What a call of a Go function comes to. -/
inductive Come where
  | ret (v : AV) (h : Heap)
  | pan (x : E) (h : Heap)

end

section
variable {R : Type} {run : RunF} {loop : Code → Fr → Heap → Option Out} {lr : Res → Heap → Option R} {lo : Out → Option R} {r : R}

theorem go_br {b : Bool} {x y : T} (h : (T.br b x y).go run loop lr lo = some r) : (b = true ∧ x.go run loop lr lo = some r) ∨ (b = false ∧ y.go run loop lr lo = some r) := by
  cases b with
  | true => exact .inl ⟨rfl, h⟩
  | false => exact .inr ⟨rfl, h⟩
theorem go_must {b : Bool} {x : T} (h : (T.br b x .fail).go run loop lr lo = some r) : b = true ∧ x.go run loop lr lo = some r := by
  rcases go_br h with h | ⟨_, h⟩
  · exact h
  · cases h

theorem splice_inv {k : Res × Heap → T} : ∀ {t : T}, (t.splice k).go run loop lr lo = some r → ∃ rh, t.quick = some rh ∧ (k rh).go run loop lr lo = some r
  | .res q h, he => ⟨(q, h), rfl, he⟩
  | .br b x y, he => by
    rcases go_br (show (T.br b (x.splice k) (y.splice k)).go run loop lr lo = some r from he) with ⟨rfl, he⟩ | ⟨rfl, he⟩
    · exact splice_inv (t := x) he
    · exact splice_inv (t := y) he
  | .fail, he => by cases he
  | .out _, he => by cases he
  | .call .., he => by cases he
  | .loop .., he => by cases he

theorem spliceO_inv {k : Out → T} : ∀ {t : T}, (t.spliceO k).go run loop lr lo = some r → ∃ o, t.quickO = some o ∧ (k o).go run loop lr lo = some r
  | .out o, he => ⟨o, rfl, he⟩
  | .br b x y, he => by
    rcases go_br (show (T.br b (x.spliceO k) (y.spliceO k)).go run loop lr lo = some r from he) with ⟨rfl, he⟩ | ⟨rfl, he⟩
    · exact spliceO_inv (t := x) he
    · exact spliceO_inv (t := y) he
  | .fail, he => by cases he
  | .res _ _, he => by cases he
  | .call .., he => by cases he
  | .loop .., he => by cases he

/-- What a function comes to, by its contract or its run. -/
def RunsTo (H : Hints) (run : RunF) (md : Mode) (f : FuncId) (as : List AV) (σ : Heap) (rh : Res × Heap) : Prop :=
  (∃ g, H.prim md f = some g ∧ (g as σ).quick = some rh) ∨ run md f as σ = some rh

def CallOut (H : Hints) (run : RunF) (f : FuncId) (args : List AV) (σ : Heap) (out : Come) : Prop :=
  ∃ (ids : List Nat) (σc : Heap) (q : Res) (h : Heap), ids = closure σ 6 (addNew [] ((args.map (AV.handed (H.own f))).flatMap AV.ids2)) ∧ subHeap σ ids = some σc ∧
    RunsTo H run none f ((args.map (AV.handed (H.own f))).map (AV.ren2 (idx ids))) σc (q, h) ∧ σc.length ≤ h.length ∧
    ((∃ u v, q = .ret u ∧ Weaker v u ∧ out = .ret (v.ren3 (renum ids σ.length)) (backTo ids h σ)) ∨ ∃ x, q = .pan x ∧ out = .pan x (backTo ids h σ))

theorem callT_inv {C : Ctx} {t : TypeId} {f : FuncId} {args : List AV} {σ : Heap} {K : AV → Heap → T} {Kp : E → Heap → T}
    (h : (callT C t f args σ K Kp).go run loop lr lo = some r) : ∃ out, CallOut C.H run f args σ out ∧ (match out with | .ret v h => K v h | .pan x h => Kp x h).go run loop lr lo = some r := by
  unfold callT at h
  simp only at h
  generalize hids : closure σ 6 (addNew [] ((args.map (AV.handed (C.H.own f))).flatMap AV.ids2)) = ids at h
  split at h
  · cases h
  · rename_i σc hs
    have mkRet : ∀ (q : Heap) (u v : AV), RunsTo C.H run none f ((args.map (AV.handed (C.H.own f))).map (AV.ren2 (idx ids))) σc (.ret u, q) → σc.length ≤ q.length → Weaker v u → (K (v.ren3 (renum ids σ.length)) (backTo ids q σ)).go run loop lr lo = some r →
        ∃ out, CallOut C.H run f args σ out ∧ (match out with | .ret v h => K v h | .pan x h => Kp x h).go run loop lr lo = some r :=
      fun q u v h1 h2 h3 h4 => ⟨.ret _ _, ⟨ids, σc, .ret u, q, hids.symm, hs, h1, h2, .inl ⟨u, v, rfl, h3, rfl⟩⟩, h4⟩
    have mkPan : ∀ (q : Heap) (x : E), RunsTo C.H run none f ((args.map (AV.handed (C.H.own f))).map (AV.ren2 (idx ids))) σc (.pan x, q) → σc.length ≤ q.length → (Kp x (backTo ids q σ)).go run loop lr lo = some r →
        ∃ out, CallOut C.H run f args σ out ∧ (match out with | .ret v h => K v h | .pan x h => Kp x h).go run loop lr lo = some r :=
      fun q x h1 h2 h4 => ⟨.pan _ _, ⟨ids, σc, .pan x, q, hids.symm, hs, h1, h2, .inr ⟨x, rfl, rfl⟩⟩, h4⟩
    split at h
    · -- a contract
      rename_i g hg
      obtain ⟨⟨q, qh⟩, hq, h⟩ := splice_inv h
      have hrun : RunsTo C.H run none f ((args.map (AV.handed (C.H.own f))).map (AV.ren2 (idx ids))) σc (q, qh) := .inl ⟨g, hg, hq⟩
      split at h
      · rename_i heq
        injection heq with h1 h2; subst h1; subst h2
        split at h
        · rename_i hl; exact mkRet _ _ _ hrun hl (Weaker.refl _) h
        · cases h
      · rename_i heq
        injection heq with h1 h2; subst h1; subst h2
        split at h
        · rename_i hl; exact mkPan _ _ hrun hl h
        · cases h
      · cases h
    · -- a run
      obtain ⟨⟨q, qh⟩, hq, h⟩ := Option.bind_eq_some_iff.1 (show (run none f ((args.map (AV.handed (C.H.own f))).map (AV.ren2 (idx ids))) σc).bind (fun rh => (backT C t f ids σc σ K Kp rh).go run loop lr lo) = some r from h)
      have hrun : RunsTo C.H run none f ((args.map (AV.handed (C.H.own f))).map (AV.ren2 (idx ids))) σc (q, qh) := .inr hq
      have viaType : ∀ (v : AV), canonRes C.P t q.val = some v → okRes C.P t q = true → σc.length ≤ qh.length → (K (v.ren3 (renum ids σ.length)) (backTo ids qh σ)).go run loop lr lo = some r →
          ∃ out, CallOut C.H run f args σ out ∧ (match out with | .ret v h => K v h | .pan x h => Kp x h).go run loop lr lo = some r := fun v hc ho hl hk => by
        obtain ⟨u, hu, hv, _⟩ := canonRes_ok ho hc
        subst hv; subst hu
        exact mkRet _ _ _ hrun hl (Weaker.refl _) hk
      unfold backT at h
      split at h
      · -- as it is
        split at h
        · rename_i heq
          injection heq with h1 h2; subst h1; subst h2
          split at h
          · rename_i hl; exact mkRet _ _ _ hrun hl (Weaker.refl _) h
          · cases h
        · rename_i heq
          injection heq with h1 h2; subst h1; subst h2
          split at h
          · rename_i hl; exact mkPan _ _ hrun hl h
          · cases h
        · cases h
      · -- by its type
        split at h
        · rename_i v hc
          obtain ⟨ho, h⟩ := go_must h
          obtain ⟨e1, e2⟩ := likeHeap_ok ho
          simp only at e1 e2
          rw [e1] at h
          split at h
          · rcases go_br h with ⟨hp, h⟩ | ⟨hp, h⟩
            · cases q with
              | pan x => exact mkPan _ _ hrun (by omega) h
              | ret u => cases hp
              | rcv u => cases hp
            · obtain ⟨ho, h⟩ := go_must h
              exact viaType v hc ho (by omega) h
          · obtain ⟨ho, h⟩ := go_must h
            exact viaType v hc ho (by omega) h
        · cases h
      · -- as it is foretold
        rename_i pv ph _ _
        split at h
        · rename_i hpl
          obtain ⟨ho, h⟩ := go_must h
          obtain ⟨e1, e2⟩ := likeHeap_ok ho
          simp only at e1 e2
          rw [e1] at h
          rcases go_br h with ⟨hp, h⟩ | ⟨hp, h⟩
          · split at h
            · cases q with
              | pan x => exact mkPan _ _ hrun (by omega) h
              | ret u => cases hp
              | rcv u => cases hp
            · cases h
          · cases pv with
            | some p =>
              simp only at h
              obtain ⟨hv, h⟩ := go_must h
              rw [Bool.and_eq_true] at hv
              cases q with
              | ret u => exact mkRet _ u _ hrun (by omega) (okVal_ok hv.2) h
              | pan x => cases hv.1
              | rcv u => cases hv.1
            | none =>
              simp only at h
              split at h
              · rename_i v hc
                obtain ⟨ho, h⟩ := go_must h
                exact viaType v hc ho (by omega) h
              · cases h
        · cases h
end

/-- A caller's state, when a call that it put off begins. -/
def ModeOk (P : Program) (w : World) (S : Cells) : Option E → FrameMode → Prop
  | none, u => u = .returning
  | some x, u => ∃ cv, VE P w S x cv ∧ u = .panicking [{ v := cv, recovered := false }]

/-- .. and when it has ended. -/
def ModeEnd (u : FrameMode) : Res → FrameMode → Prop
  | .ret _, u' => u' = u
  | .rcv _, u' => ∃ cv, u' = .panicking [{ v := cv, recovered := true }]
  | .pan _, _ => False

/-- A Go function's run, of which the interpreter says what it comes to. -/
def RunPost (P : Program) (r : Res) (σ' : Heap) (σ : Heap) (ρ : Gr) (S : Cells) (w : World) (e : Ending) (w' : World) : Prop :=
  ∃ ρ' S', Rel P σ' ρ' S' w' ∧ Ext σ ρ S w σ' ρ' S' w' ∧
    match r with
    | .ret v => ∃ cv, e = .returned cv ∧ VA3 P σ' ρ' S' w' v cv
    | .pan x => ∃ cv, e = .panicked [{ v := cv, recovered := false }] ∧ VE P w' S' x cv
    | .rcv _ => False

def RunPostD (P : Program) (u : FrameMode) (r : Res) (σ' : Heap) (σ : Heap) (ρ : Gr) (S : Cells) (w : World) (e : Ending) (u' : FrameMode) (w' : World) : Prop :=
  ∃ ρ' S', Rel P σ' ρ' S' w' ∧ Ext σ ρ S w σ' ρ' S' w' ∧ (∃ cv, e = .returned cv) ∧ ModeEnd u r u'

/-- The call of this function enters its body. -/
def Enters (P : Program) (f : FuncId) : Prop := ∃ fn, P.funcs[f]? = some fn ∧ (fn.name == "runtime.NumGoroutine") = false ∧ fn.body.isNone = false

def ArgsOk (P : Program) (σ : Heap) (ρ : Gr) (S : Cells) (w : World) (args : List AV) (cargs : Array Value) : Prop :=
  cargs.size = args.length ∧ ∀ (j : Nat) (v : AV), args[j]? = some v → ∃ cv, cargs[j]? = some cv ∧ VA2 P σ ρ S w v cv

/-- A function, called on these arguments, comes to this. -/
def ComesTo (P : Program) (md : Mode) (f : FuncId) (args : List AV) (σ : Heap) (r : Res) (σ' : Heap) : Prop :=
  Enters P f ∧ ∀ (ρ : Gr) (S : Cells) (w : World) (cargs : Array Value), Rel P σ ρ S w → ArgsOk P σ ρ S w args cargs →
    match md with
    | none => Calls P f cargs w (RunPost P r σ' σ ρ S w)
    | some pv => ∀ u, ModeOk P w S pv u → CallsD P f cargs u w (RunPostD P u r σ' σ ρ S w)

def RunOk (P : Program) (run : RunF) : Prop := ∀ (md : Mode) (f : FuncId) (args : List AV) (σ : Heap) (r : Res) (σ' : Heap), run md f args σ = some (r, σ') → ComesTo P md f args σ r σ'

/-- The contracts that are known. -/
def PrimOk (P : Program) (H : Hints) : Prop :=
  ∀ (md : Mode) (f : FuncId) (g : List AV → Heap → T) (args : List AV) (σ : Heap) (r : Res) (σ' : Heap), H.prim md f = some g → (g args σ).quick = some (r, σ') → ComesTo P md f args σ r σ'

theorem RunsTo.ok {P : Program} {H : Hints} {run : RunF} (hp : PrimOk P H) (hr : RunOk P run) {md : Mode} {f : FuncId} {as : List AV} {σ : Heap} {r : Res} {σ' : Heap} (h : RunsTo H run md f as σ (r, σ')) : ComesTo P md f as σ r σ' := by
  rcases h with ⟨g, h1, h2⟩ | h
  · exact hp md f g as σ r σ' h1 h2
  · exact hr md f as σ r σ' h

section
variable {P : Program} {σ : Heap} {ρ : Gr} {S : Cells} {w : World}

theorem calm1_ok {v : AV} {cv : Value} (hv : VA1 P σ ρ S w v cv) : VA1 P σ ρ S w v.calm1 cv := by
  unfold AV.calm1
  split
  · rename_i x h
    exact seal1_ok h hv
  · exact hv

theorem calm1_one {v : AV} (h : v.one = true) : v.calm1.one = true := by
  cases v <;> simp [AV.calm1, AV.seal1] <;> first | exact h | rfl

theorem calm_ok {v : AV} {cv : Value} (hv : VA3 P σ ρ S w v cv) : VA2 P σ ρ S w v.calm cv := by
  unfold AV.calm
  split
  · rename_i cs
    obtain ⟨arr, h1, h2, h3⟩ : ∃ arr : Array Value, cv = .agg arr ∧ arr.size = cs.length ∧ ∀ (j : Nat) (v : AV), cs[j]? = some v → v.one = true ∧ ∃ x, arr[j]? = some x ∧ VA1 P σ ρ S w v x := hv
    refine ⟨arr, h1, by simpa using h2, fun j u hj => ?_⟩
    rw [List.getElem?_map] at hj
    obtain ⟨v, hv, rfl⟩ := Option.map_eq_some_iff.1 hj
    obtain ⟨ho, x, h4, h5⟩ := h3 j v hv
    exact ⟨calm1_one ho, x, h4, calm1_ok h5⟩
  · trivial
  · rename_i h1 h2
    rw [VA3_eq h2, VA2_eq h1] at hv
    exact (calm1_ok hv).to2

theorem handed_ok {ow : Bool} {v : AV} {cv : Value} (hv : VA3 P σ ρ S w v cv) : VA2 P σ ρ S w (v.handed ow) cv := by
  cases ow with
  | false => exact calm_ok hv
  | true =>
    show VA2 P σ ρ S w v.keep cv
    unfold AV.keep
    split
    · trivial
    · rename_i h
      rw [VA3_eq h] at hv
      exact hv

/-- The arguments, in the callee's numbers. -/
theorem args_sub {ids : List Nat} {σc : Heap} {as : List AV} {cargs : Array Value} (hl : ρ.length = σ.length) (hs : subHeap σ ids = some σc) (hi : ∀ x ∈ as.flatMap AV.ids2, x ∈ ids) (ha : ArgsOk P σ ρ S w as cargs) :
    ArgsOk P σc (subGr ρ ids) S w (as.map (AV.ren2 (idx ids))) cargs := by
  refine ⟨by simpa using ha.1, fun j v hj => ?_⟩
  rw [List.getElem?_map] at hj
  obtain ⟨u, hu, rfl⟩ := Option.map_eq_some_iff.1 hj
  obtain ⟨cv, h1, h2⟩ := ha.2 j u hu
  exact ⟨cv, h1, VA2.sub hl hs h2 fun x hx => hi x (List.mem_flatMap.2 ⟨u, List.mem_of_getElem? hu, hx⟩)⟩

theorem args_calm {as : List AV} {cargs : Array Value} (hsz : cargs.size = as.length) (ha : ∀ (j : Nat) (v : AV), as[j]? = some v → ∃ cv, cargs[j]? = some cv ∧ VA3 P σ ρ S w v cv) : ArgsOk P σ ρ S w (as.map AV.calm) cargs := by
  refine ⟨by simpa using hsz, fun j v hj => ?_⟩
  rw [List.getElem?_map] at hj
  obtain ⟨u, hu, rfl⟩ := Option.map_eq_some_iff.1 hj
  obtain ⟨cv, h1, h2⟩ := ha j u hu
  exact ⟨cv, h1, calm_ok h2⟩

theorem args_handed {ow : Bool} {as : List AV} {cargs : Array Value} (hsz : cargs.size = as.length) (ha : ∀ (j : Nat) (v : AV), as[j]? = some v → ∃ cv, cargs[j]? = some cv ∧ VA3 P σ ρ S w v cv) : ArgsOk P σ ρ S w (as.map (AV.handed ow)) cargs := by
  refine ⟨by simpa using hsz, fun j v hj => ?_⟩
  rw [List.getElem?_map] at hj
  obtain ⟨u, hu, rfl⟩ := Option.map_eq_some_iff.1 hj
  obtain ⟨cv, h1, h2⟩ := ha j u hu
  exact ⟨cv, h1, handed_ok h2⟩

theorem CallOut_ok {H : Hints} {run : RunF} (hp : PrimOk P H) (hrun : RunOk P run) {f : FuncId} {args : List AV} {cargs : Array Value} {out : Come} (hr : Rel P σ ρ S w) (hsz : cargs.size = args.length)
    (ha : ∀ (j : Nat) (v : AV), args[j]? = some v → ∃ cv, cargs[j]? = some cv ∧ VA3 P σ ρ S w v cv) (h : CallOut H run f args σ out) :
    Enters P f ∧ Calls P f cargs w fun e w' => ∃ ρ' S', match out with
      | .ret v σ' => Rel P σ' ρ' S' w' ∧ Ext σ ρ S w σ' ρ' S' w' ∧ ∃ cv, e = .returned cv ∧ VA3 P σ' ρ' S' w' v cv
      | .pan x σ' => Rel P σ' ρ' S' w' ∧ Ext σ ρ S w σ' ρ' S' w' ∧ ∃ cv, e = .panicked [{ v := cv, recovered := false }] ∧ VE P w' S' x cv := by
  obtain ⟨ids, σc, q, h', hids, hs, hrun', hlen, hout⟩ := h
  have hn : ids.Nodup := by rw [hids]; exact closure_nodup _ _ _ (addNew_nodup _ _ (by simp))
  obtain ⟨hen, hc⟩ := RunsTo.ok hp hrun hrun'
  have hargs := args_sub hr.len hs (fun x hx => by rw [hids]; exact closure_mem _ _ _ _ (addNew_mem _ _ _ hx)) (args_handed hsz ha)
  refine ⟨hen, Calls.mono (hc (subGr ρ ids) S w cargs (hr.sub hn hs) hargs) ?_⟩
  rintro e w' ⟨ρ1', S', h1, h2, h3⟩
  obtain ⟨h4, h5, h6⟩ := back_ok hr hn hs h1 h2 hlen
  refine ⟨backGr ids ρ1' ρ, S', ?_⟩
  rcases hout with ⟨u, v, rfl, hw, rfl⟩ | ⟨x, rfl, rfl⟩
  · obtain ⟨cv, h7, h8⟩ := h3
    exact ⟨h4, h5, cv, h7, lift3 (G := fun _ => True) (fun v cv h _ => h6 v cv h) (hw _ _ _ _ _ _ h8) (fun _ _ => trivial)⟩
  · obtain ⟨cv, h7, h8⟩ := h3
    exact ⟨h4, h5, cv, h7, h8⟩

end
end Go.Den

