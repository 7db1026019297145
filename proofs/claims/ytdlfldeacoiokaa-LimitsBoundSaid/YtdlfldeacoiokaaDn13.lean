/- Appends are carried out by the model as the interpreter says. -/
import Derived.Test.YtdlfldeacoiokaaDn12
import Derived.Deep.AppendSrc
import Derived.Deep.Upon
namespace Go.Den
open Go

section
variable {P : Program} {σ : Heap} {ρ : Gr} {S : Cells} {w w' : World} {fr : Fr} {a : Act} {o : Oper}

theorem okRow_mk {et : TypeId} {y : E} {fs : List TypeId} (hfs : flat P depth et = some fs) (hl : y.cells.length = fs.length)
    (hok : ∀ (j : Nat) (ct : TypeId) (x : E), fs[j]? = some ct → y.cells[j]? = some x → okCell P ct x = true) : okRow P et y = true := by
  unfold okRow
  rw [hfs]
  simp only [Bool.and_eq_true, beq_iff_eq]
  refine ⟨hl.symm, List.all_eq_true.2 fun p hp => ?_⟩
  obtain ⟨j, hj⟩ := List.getElem?_of_mem hp
  obtain ⟨ct, x⟩ := p
  rw [List.getElem?_zip_eq_some] at hj
  exact hok j ct x hj.1 hj.2

theorem VE_sl_rows {et : TypeId} {xs : List E} {cv : Value} (h : VE P w S (.sl et xs) cv) : ∀ (i : Nat) (y : E), xs[i]? = some y → okRow P et y = true := by
  obtain ⟨A, c, fs, b, o, f, e, hfs, hc, hlen, hok, _⟩ := VE_sl_inv h
  exact fun i y hy => okRow_mk hfs (hlen i y hy) (fun j ct x => hok i y j ct x hy)

/-- Values that read as the elements of a slice, laid one behind the other. -/
def Laid (P : Program) (S : Cells) (w : World) (sz : Nat) (ys : List E) (news : List Value) : Prop :=
  news.length = ys.length * sz ∧ ∀ (i : Nat) (y : E) (j : Nat) (x : E), ys[i]? = some y → y.cells[j]? = some x → ∃ v, news[i * sz + j]? = some v ∧ VE P w S x v

theorem E_one {et : TypeId} {y : E} {fs : List TypeId} (hfs : flat P depth et = some fs) (hy : okRow P et y = true) {j : Nat} {x : E} (hx : y.cells[j]? = some x) : (AV.e x).one = true := by
  obtain ⟨h1, h2⟩ := okRow_inv hfs hy
  have hj : j < fs.length := by rw [← h1]; exact (List.getElem?_eq_some_iff.1 hx).1
  exact okCell_one (h2 j _ x (List.getElem?_eq_getElem hj) hx)

theorem VE_oneCell {x : E} {v : Value} (h1 : (AV.e x).one = true) (h : VE P w S x v) : v.oneCell' = true := by
  cases h <;> first | rfl | (simp [AV.one] at h1)

/-- The elements of a slice in memory. -/
theorem VE_laid {et : TypeId} {xs : List E} {A : Option Addr} {n c : Nat} {fs : List TypeId} (hfs : flat P depth et = some fs) (h0 : fs.length ≠ 0) (h : VE P w S (.sl et xs) (.slice A n c)) :
    ∃ news, Laid P S w fs.length xs news ∧ (∀ u ∈ news, u.oneCell' = true) ∧ (xs ≠ [] → ∃ ad, A = some ad ∧ ∀ (j : Nat) (u : Value), news[j]? = some u → w.cell? (ad.add j) = some u) := by
  have hrows := VE_sl_rows h
  obtain ⟨A', c', fs', b, o', f, e, hfs', hc, hlen, hok, hA, hE⟩ := VE_sl_inv h
  injection e with e1 e2 e3
  subst e1
  rw [hfs] at hfs'; injection hfs' with hfs'; subst hfs'
  have key : ∀ k, k < xs.length * fs.length → ∃ (y : E) (x : E), xs[k / fs.length]? = some y ∧ y.cells[k % fs.length]? = some x ∧ k / fs.length * fs.length + k % fs.length = k := by
    intro k hk
    have h1 : k / fs.length < xs.length := Nat.div_lt_of_lt_mul (by rw [Nat.mul_comm]; exact hk)
    have h2 : k % fs.length < fs.length := Nat.mod_lt _ (by omega)
    have hy := List.getElem?_eq_getElem h1
    have hl := hlen _ _ hy
    exact ⟨_, _, hy, List.getElem?_eq_getElem (by rw [hl]; exact h2), Nat.div_add_mod' k fs.length⟩
  refine ⟨(List.range (xs.length * fs.length)).map fun k => f (k / fs.length) (k % fs.length), ⟨by simp, fun i y j x hy hj => ?_⟩, ?_, ?_⟩
  · have hi : i < xs.length := (List.getElem?_eq_some_iff.1 hy).1
    have hjl : j < fs.length := by rw [← hlen i y hy]; exact (List.getElem?_eq_some_iff.1 hj).1
    have hlt : i * fs.length + j < xs.length * fs.length := by
      have : (i + 1) * fs.length ≤ xs.length * fs.length := Nat.mul_le_mul_right _ hi
      rw [Nat.add_mul] at this
      omega
    refine ⟨_, map_range_put _ hlt, ?_⟩
    have d1 : (i * fs.length + j) / fs.length = i := by
      rw [Nat.mul_comm, Nat.mul_add_div (by omega), Nat.div_eq_of_lt hjl, Nat.add_zero]
    have d2 : (i * fs.length + j) % fs.length = j := by
      rw [Nat.mul_comm, Nat.mul_add_mod, Nat.mod_eq_of_lt hjl]
    rw [d1, d2]
    exact hE i y j x hy hj
  · intro u hu
    obtain ⟨k, hk⟩ := List.getElem?_of_mem hu
    obtain ⟨hk', rfl⟩ := map_range_get hk
    obtain ⟨y, x, h1, h2, _⟩ := key k hk'
    exact VE_oneCell (E_one hfs (hrows _ _ h1) h2) (hE _ _ _ _ h1 h2)
  · intro hne
    have hpos : 0 < xs.length * fs.length := Nat.mul_pos (List.length_pos_iff.2 hne) (by omega)
    obtain ⟨y0, x0, h1, h2, _⟩ := key 0 hpos
    obtain ⟨rfl, _⟩ := hA _ _ _ _ h1 h2
    refine ⟨_, rfl, fun j u hj => ?_⟩
    obtain ⟨hj', rfl⟩ := map_range_get hj
    obtain ⟨y, x, h3, h4, h5⟩ := key j hj'
    obtain ⟨_, _, h6⟩ := hA _ _ _ _ h3 h4
    rw [add_at, ← h6]
    congr 2
    omega

theorem src_slice {et t : TypeId} {ys : List E} {cv : Value} {fs : List TypeId} (hfs : flat P depth et = some fs) (h0 : fs.length ≠ 0) (ht : P.underlying t = some (.slice et)) (h : VE P w S (.sl et ys) cv) :
    ∃ news, Src P fs.length t cv ys.length news w ∧ Laid P S w fs.length ys news := by
  obtain ⟨A, c, _, _, _, _, rfl, _⟩ := VE_sl_inv h
  obtain ⟨news, h1, h2, h3⟩ := VE_laid hfs h0 h
  refine ⟨news, ?_, h1⟩
  by_cases hne : ys = []
  · subst hne
    have : news = [] := List.eq_nil_of_length_eq_zero (by rw [h1.1]; simp)
    subst this
    cases A with
    | none => exact Src.ofNil w ht c
    | some ad => exact Src.ofSlice w ht ad 0 c [] (by simp) (by simp) (by simp)
  · obtain ⟨ad, rfl, h4⟩ := h3 hne
    exact Src.ofSlice w ht ad ys.length c news h1.1 h4 h2

theorem src_string {t : TypeId} {s : List UInt8} {cv : Value} (ht : P.underlying t = some .string) (h : VE P w S (.str s) cv) :
    ∃ news, Src P 1 t cv (s.map fun c => E.int .u8 c.toNat).length news w ∧ Laid P S w 1 (s.map fun c => E.int .u8 c.toNat) news := by
  cases h with
  | str _ b hb =>
    subst hb
    have hs := Src.ofString (P := P) w ht b
    have hl : (b.data.toList.map fun c => E.int .u8 c.toNat).length = b.size := by simp
    refine ⟨byteCells b, by rw [hl]; exact hs, by rw [byteCells_length, hl]; omega, fun i y j x hy hj => ?_⟩
    rw [List.getElem?_map] at hy
    obtain ⟨c, hc, hy⟩ := Option.map_eq_some_iff.1 hy
    subst hy
    have hj0 : j = 0 := by
      have := (List.getElem?_eq_some_iff.1 hj).1
      simp [E.cells] at this
      omega
    subst hj0
    simp [E.cells] at hj
    subst hj
    exact ⟨.int .u8 c.toNat, by simp [byteCells, hc], VE.int _ _⟩

theorem Laid.mono {σ' : Heap} {ρ' : Gr} {S' : Cells} (he : Ext σ ρ S w σ' ρ' S' w') {sz : Nat} {ys : List E} {news : List Value} (h : Laid P S w sz ys news) : Laid P S' w' sz ys news :=
  ⟨h.1, fun i y j x hy hj => let ⟨v, h1, h2⟩ := h.2 i y j x hy hj; ⟨v, h1, VE.mono he.cell h2⟩⟩

theorem Laid.append {sz : Nat} {xs ys : List E} {olds news : List Value} (h : Laid P S w sz xs olds) (k : Laid P S w sz ys news) :
    Laid P S w sz (xs ++ ys) (olds ++ news) := by
  refine ⟨by simp [h.1, k.1, Nat.add_mul], fun i y j x hy hx => ?_⟩
  rcases Nat.lt_or_ge i xs.length with hi | hi
  · rw [List.getElem?_append_left hi] at hy
    obtain ⟨v, h1, h2⟩ := h.2 i y j x hy hx
    exact ⟨v, by rw [List.getElem?_append_left (List.getElem?_eq_some_iff.1 h1).1]; exact h1, h2⟩
  · rw [List.getElem?_append_right hi] at hy
    obtain ⟨v, h1, h2⟩ := k.2 _ y j x hy hx
    refine ⟨v, ?_, h2⟩
    have e : i * sz + j = olds.length + ((i - xs.length) * sz + j) := by
      rw [h.1]
      have : i = xs.length + (i - xs.length) := by omega
      rw [this, Nat.add_mul]
      simp
      omega
    rw [e, List.getElem?_append_right (by omega)]
    simpa using h1

/-- A slice out of a row that holds its elements. -/
theorem VE_of_laid {et : TypeId} {zs : List E} {fs : List TypeId} {b c : Nat} {arr : Array Value} {T : TypeId} {all : List Value} (hfs : flat P depth et = some fs) (hc : zs.length ≤ c) (hrows : ∀ (i : Nat) (y : E), zs[i]? = some y → okRow P et y = true)
    (hh : w.heap[b]? = some (.cells arr T (0, 0))) (hS : ∀ k, k < zs.length * fs.length → S b k) (hl : Laid P S w fs.length zs all) (ha : ∀ k, k < all.length → arr[k]? = all[k]?) :
    VE P w S (.sl et zs) (.slice (some ⟨b, 0, none⟩) zs.length c) :=
  VE_row hfs hc hh hrows hS fun i y j x hy hj => by
    obtain ⟨v, h1, h2⟩ := hl.2 i y j x hy hj
    exact ⟨v, by rw [ha _ (List.getElem?_eq_some_iff.1 h1).1]; exact h1, h2⟩

theorem run_append_op {ev : Operand → Value} {x y : Operand} {ats : Array TypeId} {r : Value} (h : o.op = .call { callee := .builtin .append, args := #[x, y], argTypes := ats })
    (hr : (Builtin.append_ ats o.type #[ev x, ev y]).run P w = .ok r w') : (execOp ev o).run P w = .ok (.value r) w' := by
  simp [execOp, h, resolve, invoke, builtin, hr]

theorem run_append_room' {t tx ty e : TypeId} {i : TypeInfo} (ht : P.underlying t = some (.slice e)) (hi : P.info? e = some i) {b sLen sCap : Nat} {x : Value} {n : Nat} {news : List Value} (hs : Src P i.size tx x n news w)
    (hroom : sLen + n ≤ sCap) {cur : Array Value} {T : TypeId} (hg : w.heap[b]? = some (.cells cur T (0, 0))) (hl : sLen * i.size + news.length ≤ cur.size) :
    (Builtin.append_ #[t, tx] ty #[.slice (some ⟨b, 0, none⟩) sLen sCap, x]).run P w = .ok (.slice (some ⟨b, 0, none⟩) (sLen + n) sCap) (w.setRow b (cur.toList.take (sLen * i.size) ++ news ++ cur.toList.drop (sLen * i.size + news.length)).toArray) := by
  have hst := run_storeCells_at P b (sLen * i.size) T news 0 cur w hg (by simpa using hl) hs.one
  simp only [Nat.add_zero] at hst
  rcases hs.kind with ⟨e', hk⟩ | hk <;> simp [Builtin.append_, run_underlying ht, run_underlying hk, sizeOf, typeInfo, hi, hs.len, hroom, hs.cells, Addr.add_lit, hst]


theorem grown_arr {z : Value} {cells : List Value} {n m sz : Nat} (hz : z.cells.size = sz) (hc : cells.length = n * sz) (hn : n ≤ m) :
    (cells.toArray ++ Builtin.zeroCells z.cells (m - n)).size = m * sz ∧ ∀ k, k < cells.length → (cells.toArray ++ Builtin.zeroCells z.cells (m - n))[k]? = cells[k]? := by
  refine ⟨by rw [Array.size_append, size_zeroCells, hz, List.size_toArray, hc, ← Nat.add_mul]; congr 1; omega, fun k hk => ?_⟩
  rw [Array.getElem?_append_left (by simpa using hk)]
  simp

/-- What an append asks of its types. -/
structure AppTypes (P : Program) (et t tx : TypeId) (i : TypeInfo) (fs : List TypeId) (z : Value) : Prop where
  ht : P.underlying t = some (.slice et)
  hi : P.info? et = some i
  hz : i.zero = some z
  hzs : z.cells.size = fs.length
  hsz : i.size = fs.length
  hfs : flat P depth et = some fs
  h0 : fs.length ≠ 0
  hb : i.bytes ≠ 0

theorem fits {n m bytes : Nat} (hb : bytes ≠ 0) (h : (n + m) * bytes ≤ 140737488355328) : ((n + m : Nat) : Int) ≤ 9223372036854775807 := by
  have : n + m ≤ (n + m) * bytes := Nat.le_mul_of_pos_right _ (by omega)
  omega

theorem op_append_nil (hr : Rel P σ ρ S w) {et t tx : TypeId} {x y : Operand} {i : TypeInfo} {fs : List TypeId} {z : Value} {ys : List E} {news : List Value} {cx : Value} (h : o.op = .call { callee := .builtin .append, args := #[x, y], argTypes := #[t, tx] })
    (T : AppTypes P et t tx i fs z) (hx : a.eval x = .slice none 0 0) (hy : a.eval y = cx) (hs : Src P fs.length tx cx ys.length news w) (hl : Laid P S w fs.length ys news) (hrows : ∀ (i : Nat) (y : E), ys[i]? = some y → okRow P et y = true)
    (hbytes : ys.length * i.bytes ≤ 140737488355328) {k : Nat} {σ1 : Heap} (hfill : fillAt σ k (.vec et ys.length) = some σ1) : OpOk P σ ρ S w a o (.own k et ys) σ1 := by
  obtain ⟨hh, rfl⟩ := fillAt_spec hfill
  have hkl := (List.getElem?_eq_some_iff.1 hh).1
  obtain ⟨ht, hi, hz, hzs, hsz, hfs, h0, hb⟩ := T
  have hs' : Src P i.size tx cx ys.length news w := by rw [hsz]; exact hs
  by_cases hm : ys.length = 0
  · have hys : ys = [] := List.eq_nil_of_length_eq_zero hm
    subst hys
    have hn : news = [] := List.eq_nil_of_length_eq_zero (by rw [hl.1]; simp)
    subst hn
    have hrun := run_append_nothing w t tx o.type et i ht hi none 0 0 (Nat.le_refl _) cx hs'
    obtain ⟨r1, e1⟩ := hr.fillVec hh et 0
    exact ⟨_, _, _, _, _, run_append_op h (by rw [hx, hy]; exact hrun), .inl rfl, r1, e1, VE.nilSlice hfs _ _, .inl ⟨0, by simp [hkl], Nat.le_refl _, fun _ => .inl ⟨hr.hole _ hh, rfl, rfl⟩⟩⟩
  · have h63 := fits (n := 0) (m := ys.length) hb (by simpa using hbytes)
    have hrun := run_append_grow_src w t tx o.type et i z ht hi hz none 0 0 [] (run_firstCells_none w.drew i.size 0 0 0) cx ys.length news hs' (by omega) h63 (growslice_fits (by omega) (by simpa using hbytes))
    simp only [Nat.zero_add, List.nil_append] at hrun
    have hge := grownCap_ge w ys.length 0 et
    obtain ⟨g1, g2⟩ := grown_arr (m := grownCap w ys.length 0 et) hzs hl.1 hge
    obtain ⟨r1, e1⟩ := hr.layRow (.inr hh) (NewBlock.drew w _ et) (et := et) (n := ys.length) hfs hge (by rw [g1]; exact Nat.le_refl _)
    refine ⟨_, _, _, _, _, run_append_op h (by rw [hx, hy]; exact hrun), .inl rfl, r1, e1, ?_, .inl ⟨ys.length, by simp [hkl], Nat.le_refl _, fun _ => .inr ⟨w.heap.size, _, ?_, rfl⟩⟩⟩
    · exact VE_of_laid hfs hge hrows (NewBlock.drew w _ et).new (fun k hk => .inr ⟨rfl, hk⟩) (hl.mono e1) g2
    · rw [List.getElem?_set, if_pos rfl, if_pos (by rw [hr.len]; exact hkl)]

theorem op_append_own (hr : Rel P σ ρ S w) {et t tx : TypeId} {x y : Operand} {i : TypeInfo} {fs : List TypeId} {z : Value} {id : Nat} {xs ys : List E} {news : List Value} {cx : Value} (h : o.op = .call { callee := .builtin .append, args := #[x, y], argTypes := #[t, tx] })
    (T : AppTypes P et t tx i fs z) (hx : VA1 P σ ρ S w (.own id et xs) (a.eval x)) (hv : σ[id]? = some (.vec et xs.length)) (hy : a.eval y = cx) (hs : Src P fs.length tx cx ys.length news w) (hl : Laid P S w fs.length ys news)
    (hrows : ∀ (i : Nat) (y : E), ys[i]? = some y → okRow P et y = true) (hbytes : (xs.length + ys.length) * i.bytes ≤ 140737488355328) : OpOk P σ ρ S w a o (.own id et (xs ++ ys)) (σ.set id (.vec et (xs ++ ys).length)) := by
  obtain ⟨ht, hi, hz, hzs, hsz, hfs, h0, hb⟩ := T
  have hs' : Src P i.size tx cx ys.length news w := by rw [hsz]; exact hs
  obtain ⟨hve, ⟨n, hn, _, hp⟩ | hn⟩ := hx
  case inr => rw [hv] at hn; cases hn
  rw [hv] at hn; injection hn with hn; injection hn with _ hn; subst hn
  have hp := hp rfl
  have hidl : id < σ.length := (List.getElem?_eq_some_iff.1 hv).1
  have hxrows := VE_sl_rows hve
  have hallrows : ∀ (i : Nat) (y : E), (xs ++ ys)[i]? = some y → okRow P et y = true := by
    intro i y hy
    rcases Nat.lt_or_ge i xs.length with hi | hi
    · rw [List.getElem?_append_left hi] at hy; exact hxrows i y hy
    · rw [List.getElem?_append_right hi] at hy; exact hrows _ y hy
  by_cases hm : ys.length = 0
  · have hys : ys = [] := List.eq_nil_of_length_eq_zero hm
    subst hys
    have hn : news = [] := List.eq_nil_of_length_eq_zero (by rw [hl.1]; simp)
    subst hn
    have hset : σ.set id (.vec et (xs ++ []).length) = σ := by
      rw [List.append_nil]
      exact List.ext_getElem? fun k => by
        rw [List.getElem?_set]
        split
        · rename_i e; subst e; exact hv.symm
        · rfl
    rw [hset, List.append_nil]
    obtain ⟨A, c, _, _, _, _, e, _, hc, _⟩ := VE_sl_inv hve
    have hrun := run_append_nothing w t tx o.type et i ht hi A xs.length c hc cx hs'
    exact OpOk.pure hr (run_append_op h (by rw [e, hy]; exact hrun)) (by rw [← e]; exact ⟨hve, .inl ⟨xs.length, hv, Nat.le_refl _, fun _ => hp⟩⟩)
  · have h63 := fits hb hbytes
    rcases hp with ⟨p1, p2, p3⟩ | ⟨b, c, p1, p2⟩
    · -- it lies nowhere yet
      have hxs : xs = [] := List.eq_nil_of_length_eq_zero p3
      subst hxs
      have hrun := run_append_grow_src w t tx o.type et i z ht hi hz none 0 0 [] (run_firstCells_none w.drew i.size 0 0 0) cx ys.length news hs' (by omega) (by simpa using h63) (growslice_fits (by omega) (by simpa using hbytes))
      simp only [Nat.zero_add, List.nil_append] at hrun ⊢
      have hge := grownCap_ge w ys.length 0 et
      obtain ⟨g1, g2⟩ := grown_arr (m := grownCap w ys.length 0 et) hzs hl.1 hge
      obtain ⟨r1, e1⟩ := hr.layRow (.inl ⟨_, hv, by simp; omega⟩) (NewBlock.drew w _ et) (n := ys.length) hfs hge (by rw [g1]; exact Nat.le_refl _)
      refine ⟨_, _, _, _, _, run_append_op h (by rw [p2, hy]; exact hrun), .inl rfl, r1, e1, ?_, .inl ⟨ys.length, by simp [hidl], Nat.le_refl _, fun _ => .inr ⟨w.heap.size, _, ?_, rfl⟩⟩⟩
      · exact VE_of_laid hfs hge hrows (NewBlock.drew w _ et).new (fun k hk => .inr ⟨rfl, hk⟩) (hl.mono e1) g2
      · rw [List.getElem?_set, if_pos rfl, if_pos (by rw [hr.len]; exact hidl)]
    · obtain ⟨arr, T, fs', v1, v2, v3, v4, v5⟩ := hr.vec id et xs.length b c hv p1
      rw [hfs] at v2; injection v2 with v2; subst v2
      rw [p2] at hve
      obtain ⟨olds, o1, o2, o3⟩ := VE_laid hfs h0 hve
      have holds : ∀ (j : Nat) (u : Value), olds[j]? = some u → w.cell? ⟨b, j, none⟩ = some u := by
        intro j u hj
        have hne : xs ≠ [] := by
          rintro rfl
          have := (List.getElem?_eq_some_iff.1 hj).1
          rw [o1.1] at this
          simp at this
        obtain ⟨ad, e, h5⟩ := o3 hne
        injection e with e; subst e
        have := h5 j u hj
        rwa [add_at, Nat.zero_add] at this
      have hcat := o1.append hl
      by_cases hroom : xs.length + ys.length ≤ c
      · have hfit : xs.length * i.size + news.length ≤ arr.size := by
          rw [hl.1, hsz, ← Nat.add_mul]
          exact Nat.le_trans (Nat.mul_le_mul_right _ hroom) v4
        have hrun := run_append_room' (w := w) (ty := o.type) ht hi hs' hroom v1 hfit
        have hlen : (xs ++ ys).length = xs.length + ys.length := List.length_append
        have hal : xs.length * i.size ≤ arr.toList.length := by have hq : arr.toList.length = arr.size := Array.length_toList; omega
        have htk : (arr.toList.take (xs.length * i.size)).length = xs.length * i.size := by rw [List.length_take]; omega
        obtain ⟨r1, e1⟩ := hr.growRow hv p1 (arr' := (arr.toList.take (xs.length * i.size) ++ news ++ arr.toList.drop (xs.length * i.size + news.length)).toArray) hfs v1 (n := (xs ++ ys).length) (by omega) (by omega) v4
          (by simp; omega)
          (fun j hj => by
            rw [List.getElem?_toArray, List.append_assoc, List.getElem?_append_left (by rw [htk, hsz]; exact hj), List.getElem?_take, if_pos (by rw [hsz]; exact hj), Array.getElem?_toList])
        refine ⟨_, _, _, _, _, run_append_op h (by rw [p2, hy]; exact hrun), .inl rfl, r1, e1, ?_, .inl ⟨(xs ++ ys).length, by simp [hidl], Nat.le_refl _, fun _ => .inr ⟨b, c, p1, by rw [hlen]⟩⟩⟩
        rw [← hlen]
        refine VE_of_laid hfs (by omega) hallrows (setRow_heap w b arr _ T (0, 0) v1) (fun k hk => .inr ⟨rfl, hk⟩) (hcat.mono e1) (fun k hk => ?_)
        rw [List.getElem?_toArray]
        rw [List.length_append, o1.1] at hk
        rcases Nat.lt_or_ge k olds.length with k1 | k1
        · rw [List.getElem?_append_left k1]
          obtain ⟨u, hu⟩ : ∃ u, olds[k]? = some u := ⟨_, List.getElem?_eq_getElem k1⟩
          have hc := holds k u hu
          rw [cell_of_row w b k arr T (0, 0) v1] at hc
          rw [o1.1] at k1
          rw [List.append_assoc, List.getElem?_append_left (by rw [htk, hsz]; exact k1), List.getElem?_take, if_pos (by rw [hsz]; exact k1), Array.getElem?_toList, hc, hu]
        · rw [List.getElem?_append_right k1]
          rw [o1.1] at k1 ⊢
          rw [List.append_assoc, List.getElem?_append_right (by rw [htk, hsz]; exact k1), htk, hsz, List.getElem?_append_left (by omega)]
      · have hold : (Builtin.firstCells i.size xs.length (.slice (some ⟨b, 0, none⟩) xs.length c)).run P w.drew = .ok olds.toArray w.drew :=
          run_firstCells_some w.drew i.size xs.length ⟨b, 0, none⟩ xs.length c olds (by rw [o1.1, hsz]) (fun j u hj => by
            rw [add_at, Nat.zero_add]; exact holds j u hj)
        have hrun := run_append_grow_src w t tx o.type et i z ht hi hz (some ⟨b, 0, none⟩) xs.length c olds hold cx ys.length news hs' (by omega) h63 (growslice_fits (by omega) hbytes)
        have hge := grownCap_ge w (xs.length + ys.length) c et
        have hlen : (xs ++ ys).length = xs.length + ys.length := List.length_append
        have hc1 := hcat.1
        rw [hlen] at hc1
        obtain ⟨g1, g2⟩ := grown_arr (m := grownCap w (xs.length + ys.length) c et) hzs hc1 hge
        obtain ⟨r1, e1⟩ := hr.layRow (.inl ⟨_, hv, by omega⟩) (NewBlock.drew w _ et) (n := (xs ++ ys).length) hfs (by rw [hlen]; exact hge) (by rw [g1]; exact Nat.le_refl _)
        refine ⟨_, _, _, _, _, run_append_op h (by rw [p2, hy]; exact hrun), .inl rfl, r1, e1, ?_, .inl ⟨(xs ++ ys).length, by simp [hidl], Nat.le_refl _, fun _ => .inr ⟨w.heap.size, _, ?_, by rw [hlen]⟩⟩⟩
        · have e : Value.slice (some ⟨w.heap.size, 0, none⟩) (xs.length + ys.length) (grownCap w (xs.length + ys.length) c et) = Value.slice (some ⟨w.heap.size, 0, none⟩) (xs ++ ys).length (grownCap w (xs.length + ys.length) c et) := by rw [hlen]
          rw [e]
          exact VE_of_laid hfs (by rw [hlen]; exact hge) hallrows (NewBlock.drew w _ et).new (fun k hk => .inr ⟨rfl, hk⟩) (hcat.mono e1) g2
        · rw [List.getElem?_set, if_pos rfl, if_pos (by rw [hr.len]; exact hidl)]
end
end Go.Den
