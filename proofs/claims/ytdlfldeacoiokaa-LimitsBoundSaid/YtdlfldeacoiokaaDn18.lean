/- Regions whose operations come in their order. -/
import Derived.Test.YtdlfldeacoiokaaDn17
namespace Go.Den
open Go

section
variable {R : Type} {run : RunF} {loop : Code → Fr → Heap → Option Out} {lr : Res → Heap → Option R} {lo : Out → Option R} {r : R}
variable {C : Ctx} {D : List Deferred} {ops : List Oper} {σ : Heap} {ρ : Gr} {S : Cells} {w : World} {fr : Fr} {a : Act} {o : Oper}
theorem denOps_ok (hp : PrimOk C.P C.H) (hrun : RunOk C.P run) {arr : Array Oper} {Q : Exit → Act → World → Prop} : ∀ (n : Nat) (l : List Oper) (fr : Fr) (σ : Heap) (K : Fr → Heap → T) (Kp : E → Fr → Heap → T) (r : R),
    (denOps C arr.toList n l fr σ K Kp).go run loop lr lo = some r → ∀ (ρ : Gr) (S : Cells) (w : World) (a : Act), Rel C.P σ ρ S w → FR C.P σ ρ S w fr a.tmps → a.defers = D →
    (∀ (fr' : Fr) (σ' : Heap) (ρ' : Gr) (S' : Cells) (w' : World) (a' : Act), a'.defers = D → Rel C.P σ' ρ' S' w' → Ext σ ρ S w σ' ρ' S' w' → FR C.P σ' ρ' S' w' fr' a'.tmps → (K fr' σ').go run loop lr lo = some r → Q .normal a' w') →
    (∀ (x : E) (fr' : Fr) (σ' : Heap) (ρ' : Gr) (S' : Cells) (w' : World) (a' : Act) (cv : Value), a'.defers = D → Rel C.P σ' ρ' S' w' → Ext σ ρ S w σ' ρ' S' w' → FR C.P σ' ρ' S' w' fr' a'.tmps →
      VE C.P w' S' x cv → (Kp x fr' σ').go run loop lr lo = some r → Q (.panic [{ v := cv, recovered := false }]) a' w') →
    wpList C.P arr Q l a w := by
  intro n
  induction n with
  | zero => intro l fr σ K Kp r h; cases h
  | succ n ih =>
    intro l fr σ K Kp r h ρ S w a hr hf hd hK hKp
    cases l with
    | nil => exact hK fr σ ρ S w a hd hr (Ext.refl _ _ _ _) hf h
    | cons o rest =>
      -- what comes behind, from any state
      have hrest : ∀ (fr' : Fr) (σ' : Heap) (ρ' : Gr) (S' : Cells) (w' : World) (a' : Act) (l' : List Oper), a'.defers = D → Rel C.P σ' ρ' S' w' → Ext σ ρ S w σ' ρ' S' w' → FR C.P σ' ρ' S' w' fr' a'.tmps →
          (denOps C arr.toList n l' fr' σ' K Kp).go run loop lr lo = some r → wpList C.P arr Q l' a' w' := by
        intro fr' σ' ρ' S' w' a' l' h1 h2 h3 h4 h5
        refine ih l' fr' σ' K Kp r h5 ρ' S' w' a' h2 h4 h1 ?_ ?_
        · intro fr2 σ2 ρ2 S2 w2 a2 k1 k2 k3 k4 k5
          exact hK fr2 σ2 ρ2 S2 w2 a2 k1 k2 (h3.trans k3) k4 k5
        · intro x fr2 σ2 ρ2 S2 w2 a2 cv k1 k2 k3 k4 k5 k6
          exact hKp x fr2 σ2 ρ2 S2 w2 a2 cv k1 k2 (h3.trans k3) k4 k5 k6
      have hgo : ∀ (fr' : Fr), FR C.P σ ρ S w fr' a.tmps → (denGo C arr.toList o fr' (room C.P arr.toList o σ) σ.length (fun f s => denOps C arr.toList n rest f s K Kp) (fun x s => Kp x fr s)).go run loop lr lo = some r → o.wp C.P a w (wpList C.P arr Q rest) Q := by
        intro fr' hf' h'
        obtain ⟨r1, e1⟩ := hr.more (needs C.P arr.toList o)
        refine denGo_ok hp hrun h' r1 (hf'.mono e1) ?_ ?_
        · intro fr2 σ2 ρ2 S2 w2 a2 k1 k2 k3 k4 k5
          exact hrest fr2 σ2 ρ2 S2 w2 a2 rest (k1.trans hd) k2 (e1.trans k3) k4 k5
        · intro x σ2 ρ2 S2 w2 cv k2 k3 k5 k6
          exact hKp x fr σ2 ρ2 S2 w2 a cv hd k2 (e1.trans k3) (hf.mono (e1.trans k3)) k5 k6
      change (match o.guard with
        | none => denGo C arr.toList o fr (room C.P arr.toList o σ) σ.length (fun f s => denOps C arr.toList n rest f s K Kp) (fun x s => Kp x fr s)
        | some (j, w0) =>
          match dstOf arr.toList j with
          | none => T.fail
          | some dj =>
            match fr[dj]? with
            | some (.e (.bool b)) =>
              match fused arr.toList dj j w0 (o :: rest) with
              | some (g, x, y, d, r) =>
                match evalGroup C.P arr.toList g fr σ with
                | some fr1 =>
                  match evalO fr1 x, evalO fr1 y with
                  | some (.e (.bool bx)), some (.e (.bool by')) => denOps C arr.toList n r (put (g.foldl (fun (a : Fr) (q : Oper) => put a q.dst .undef) fr) d (.e (.bool (cond b bx by')))) σ K Kp
                  | _, _ => .fail
                | none => .fail
              | none => .br (b == w0) (denGo C arr.toList o (fr.set dj (.e (.bool w0))) (room C.P arr.toList o σ) σ.length (fun f s => denOps C arr.toList n rest f s K Kp) (fun x s => Kp x fr s)) (denOps C arr.toList n rest (put (fr.set dj (.e (.bool (!w0)))) o.dst (.tup [])) σ K Kp)
            | some (.tup []) => denOps C arr.toList n rest (put fr o.dst (.tup [])) σ K Kp
            | _ => .fail).go run loop lr lo = some r at h
      split at h
      · rename_i hg
        refine wpList_plain hg fun N hN => ?_
        exact Oper.wp_mono hN (hgo fr hf h)
      · rename_i j w0 hg
        split at h
        · cases h
        · rename_i dj hdj
          split at h
          · rename_i b hb
            have hbt := hf.bool hb
            split at h
            · -- the operations of the guard at once
              rename_i g x y d rr hfu
              obtain ⟨p, hl, hpop, hpg, hpd, hgall, has⟩ := fused_spec hfu
              rw [hl]
              split at h
              · rename_i fr1 hev
                split at h
                · rename_i bx by' hx hy
                  by_cases hbw : b = w0
                  · subst hbw
                    refine group_wanted hdj g fr fr fr1 ρ S w a (p :: rr) hev hgall hr hf hf hb hd ?_
                    intro ρ' S' w' a' k1 k2 k3 k4 k5
                    refine wpList_plain hpg fun N hN => ?_
                    have hb1 : fr1[dj]? = some (.e (.bool b)) := by rw [evalGroup_ne g fr fr1 σ dj (fun q hq => (hgall q hq).2) hev]; exact hb
                    have ho : OpOk C.P σ ρ' S' w' a' p (.e (.bool (cond b bx by'))) σ := by
                      have := op_pick k1 k3 hpop (x := x) (y := y) (b := b) (c := .tmp dj) (by exact hb1) hx hy
                      cases b <;> exact this
                    refine OpOk.wp ho fun cv w2 ρ2 S2 m1 m2 m3 => hN _ _ ?_
                    refine hrest _ σ ρ2 S2 w2 _ rr (by rw [put_defers]; exact k5) m1 (k2.trans m2) ?_ h
                    rw [← hpd]
                    exact (k4.mono m2).put p.dst m3
                  · refine group_skipped hdj hbw g fr ρ S w a (p :: rr) hgall hf hb hd ?_
                    intro a' k1 k2
                    refine wpList_plain hpg fun N hN => ?_
                    have hb1 : (g.foldl (fun a q => put a q.dst .undef) fr)[dj]? = some (.e (.bool b)) := by rw [foldl_put_ne g fr dj fun q hq => (hgall q hq).2]; exact hb
                    have hsame : evalO (g.foldl (fun a q => put a q.dst .undef) fr) (cond w0 y x) = evalO fr1 (cond w0 y x) :=
                      aside_spec has fun u hu => by rw [foldl_put_ne g fr u hu, evalGroup_ne g fr fr1 σ u hu hev]
                    have hev' : VA3 C.P σ ρ S w (.e (.bool (cond b bx by'))) (cond b (a'.eval x) (a'.eval y)) := by
                      cases b <;> cases w0 <;> first | exact absurd rfl hbw | skip
                      · rw [show (cond true y x) = y from rfl, hy] at hsame; exact evalO_ok k1 hsame
                      · rw [show (cond false y x) = x from rfl, hx] at hsame; exact evalO_ok k1 hsame
                    have ho : OpOk C.P σ ρ S w a' p (.e (.bool (cond b bx by'))) σ := by
                      refine OpOk.pure hr (run_pick hpop ?_) hev'
                      exact eval_tmp (FR.bool k1 hb1)
                    refine OpOk.wp ho fun cv w2 ρ2 S2 m1 m2 m3 => hN _ _ ?_
                    refine hrest _ σ ρ2 S2 w2 _ rr (by rw [put_defers]; exact k2) m1 m2 ?_ h
                    rw [← hpd]
                    exact (k1.mono m2).put p.dst m3
                · cases h
              · cases h
            · -- one by one
              rcases go_br h with ⟨hbw, h⟩ | ⟨hbw, h⟩
              · have hbe : b = w0 := by simpa using hbw
                have hw : Region.wanted o (yielded arr a.tmps) = true := by
                  unfold Region.wanted
                  rw [hg]
                  simp [yielded_bool hdj hbt, hbe]
                refine wpList_step fun N hN => ?_
                rw [if_pos hw]
                exact Oper.wp_mono hN (hgo _ (hf.lit hb hbe) h)
              · have hbe : b ≠ w0 := by simpa using hbw
                have hw : Region.wanted o (yielded arr a.tmps) = false := by
                  unfold Region.wanted
                  rw [hg]
                  simpa [yielded_bool hdj hbt] using hbe
                refine wpList_skip hw ?_
                refine hrest _ σ ρ S w _ rest (by rw [put_defers]; exact hd) hr (Ext.refl _ _ _ _) ?_ h
                exact (hf.lit hb (by cases b <;> cases w0 <;> simp at hbe ⊢)).put o.dst VA3_skip
          · rename_i hb
            obtain ⟨cv, h1, h2⟩ := hf.get hb
            rw [VA3_skip_inv h2] at h1
            have hw : Region.wanted o (yielded arr a.tmps) = false := by
              unfold Region.wanted
              rw [hg]
              simp [yielded_undef hdj h1]
            refine wpList_skip hw ?_
            exact hrest _ σ ρ S w _ rest (by rw [put_defers]; exact hd) hr (Ext.refl _ _ _ _) (hf.put o.dst VA3_skip) h
          · cases h
end
end Go.Den
