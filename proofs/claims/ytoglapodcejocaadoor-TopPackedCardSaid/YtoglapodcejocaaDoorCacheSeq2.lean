/- The same law where the loop's variable is laid anew each round. Conditions: each lemma's own. -/
import Derived.Test.YtoglapodcejocaaDoorCacheOrder
import Derived.Lib.Hide
import Derived.RangeFuncNested
import Derived.RangeFuncBound
import Derived.RangeFuncCalls
import Derived.RangeFuncLeaves
import Derived.Shelf.RegionOpen
import Derived.OwnWalkIn
import Derived.TacticsInMore
import Derived.LoopNIn
import Derived.LoopIn
import Derived.Sort.CutIn
namespace Go.Proofs.YtoglapodcejocaaDoor.G
open Go.RowKit Go.Proofs.YtoglapodcejocaaDoorW.PrintWords Go.Proofs.YtoglapodcejocaaDoorW.PrintLast Go.Proofs.YtoglapodcejocaaDoorW.PrintMore
set_option linter.unusedVariables false
set_option linter.unusedSimpArgs false
set_option maxRecDepth 100000
theorem rangeFunc_R2 {F : Fence} {n : Nat} {P : Program} {α : Type} {g : Operand} {ps : Array Tmp} {assign body : Code} {Q : Exit → Act → World → Prop} {a : Act} {w : World}
    (hro : F.round = none) (h1 : 1 ≤ n) {gf : Nat} {lb : Array Value} (hg : a.eval g = .func (.func gf) #[] lb) (hFg : F.fn gf) (eg : ∀ args w, (callFunc gf args).run P w = .ok (.enter gf args) w)
    {encs : α → Array Value} {R : List α → World → Prop} {X : List α → α → Prop} {S : List α → Prop} {c : Nat} {w0 : World} (hseq : SeqR F (n - 1) P gf lb encs R X S c w0) (hb0 : Below w0.heap.size w0 w) (hps : ∀ x, (encs x).size = ps.size)
    (I : List α → World → Prop) (hI : OwnFrom w.heap.size I) (hIR : ∀ pre W, I pre W → R pre W) (h0 : I [] w) 
    (hround : ∀ (l : Nat) (pre : List α) (x : α) (W : World), I pre W → X pre x → w.heap.size + 2 + c ≤ W.heap.size → assign.wpIn (F.inRound l) (n - 1 - 1) P (Exit.then (fun a' W₁ => KeepsFrom w.heap.size W W₁ ∧ (∀ k, w.heap.size + 2 ≤ k → k < w.heap.size + 2 + c → W₁.heap[k]? = W.heap[k]?) ∧
      ∀ (o o' : Obj), W₁.heap[w.heap.size + 1]? = some o' → o'.isCells = false → body.wpIn (F.inRound l) (n - 1 - 1) P (fun e _ W' => e = .normal ∧ KeepsFrom w.heap.size (W₁.putObj (w.heap.size + 1) o) W' ∧ I (pre ++ [x]) W' ∧ ∀ k, w.heap.size + 2 ≤ k → k < w.heap.size + 2 + c → W'.heap[k]? = W₁.heap[k]?) a' (W₁.putObj (w.heap.size + 1) o)) (fun _ _ _ => False))
      { tmps := (ps.zip (encs x)).foldl (fun t (p, v) => t.setIfInBounds p v) a.tmps, defers := [] } W)
    (hdone : ∀ (D : Nat) (xs : List α) (W : World), w.heap.size ≤ D → S xs → I xs W → W.heap[D]? = some (.deferred (some [])) → Q .normal { a with defers := { target := .collected D, args := #[] } :: a.defers } W) :
    (Code.rangeFunc g ps assign body).wpIn F n P Q a w := by
  obtain ⟨L, hL⟩ : ∃ L, L = w.heap.size + 1 := ⟨_, rfl⟩
  obtain ⟨D, hD⟩ : ∃ D, D = w.heap.size := ⟨_, rfl⟩
  refine wpIn_rangeFunc fun fn hfn => ?_
  rw [hro]
  obtain ⟨rc, hrc⟩ : ∃ rc : LoopState → Option Code → Loop, rc = fun st pe => { state := st, pending := pe, fn, tmps := a.tmps, params := ps, assign, body, defers := w.heap.size } := ⟨_, rfl⟩
  obtain ⟨V, hV⟩ : ∃ V, V = (w.alloc (.deferred (some []))).alloc (.loop (rc .ready none)) := ⟨_, rfl⟩
  have vl : V.heap[L]? = some (.loop (rc .ready none)) := by
    have := World.alloc_heap_new (w.alloc (.deferred (some []))) (.loop (rc .ready none))
    rw [World.size_alloc] at this
    rw [hV, hL]; exact this
  have vd : V.heap[D]? = some (.deferred (some [])) := by
    rw [hV, hD]; exact (Below.heap_alloc _ _ _ (by simp)).trans (World.alloc_heap_new w _)
  have hVb : Below w0.heap.size w0 V := by
    rw [hV]; exact hb0.trans ((((Below.refl _ w).alloc (Nat.le_refl _) _).alloc (by simp) _).mono hb0.size)
  have hVI : I [] V := by rw [hV]; exact hI.alloc _ (hI.alloc _ h0)
  have hVz : V.heap.size = w.heap.size + 2 := by rw [hV]; simp
  refine ⟨L, [{ target := .collected D, args := #[] }], V, { target := .fn (.func gf) lb, args := #[.func (.yield L) #[] #[]] }, V, gf, #[.func (.yield L) #[] #[]] ++ lb, V, ?_, ?_, ?_, ?_, fun _ => h1, ?_⟩
  · rw [hV, hrc, hL, hD]; exact run_enterLoop_outer _ _ _ _ _
  · simp only [resolve, hg]
    simp [go_sem]
  · intro f' hf'; simp [Target.leads] at hf'; subst hf'; exact hFg
  · simp [invoke, go_sem, eg]
  have stay : ∀ {A B : World} {row : Option Nat} {b : Nat} {o : Obj}, A.grownBy B row → (∀ r, row = some r → V.heap.size ≤ r ∧ ∃ o : Obj, A.heap[r]? = some o ∧ o.isCells = false) → b < V.heap.size → A.heap[b]? = some o → B.heap[b]? = some o := fun hgr hr hb ho =>
    (hgr.block _ (Array.getElem?_eq_some_iff.1 ho).1 (fun e => by have := (hr _ e.symm).1; omega)).trans ho
  refine (hseq L (fun pre W => I pre W ∧ W.heap[L]? = some (.loop (rc .ready none)) ∧ W.heap[D]? = some (.deferred (some []))) V hVb ?_ (fun pre W1 h => hIR pre W1 h.1) ?_ ⟨hVI, vl, vd⟩).mono ?_
  · rintro s A B row ⟨i1, i2, i3⟩ hgr hr
    exact ⟨hI s A B row i1 hgr (fun r e => by obtain ⟨q1, o, q2, q3⟩ := hr r e; exact ⟨by omega, o, q2, q3⟩), stay hgr hr (by omega) i2, stay hgr hr (by omega) i3⟩
  · rintro pre x W ⟨hi, hl, hk⟩ hlen hcs
    rw [hVz] at hcs
    have hlt : L < W.heap.size := (Array.getElem?_eq_some_iff.1 hl).1
    have hne : D ≠ L := by omega
    have hy := run_yield (P := P) (args := encs x) hl (by rw [hrc]; exact hps x)
    rw [hrc] at hy
    refine ⟨fn, _, assign, body, hy, roundIn_of_wpIn hfn (wpIn_mono (hround _ pre x W hi hlen hcs) ?_)⟩
    rintro e a1 W1 hq
    cases e with
    | normal =>
      obtain ⟨hk1, hc1, hbd⟩ := hq
      have hl1 := hk1.same _ _ (by omega) hl rfl
      have hd1 := hk1.same _ _ (by omega) hk rfl
      have hlt1 : L < W1.heap.size := (Array.getElem?_eq_some_iff.1 hl1).1
      refine ⟨_, run_beginRound hl1 (by rw [hrc]), ?_⟩
      have hb2 : (W1.putObj L (.loop { rc .ready none with state := .busy })).heap[L]? = some (.loop { rc .ready none with state := .busy }) := World.putObj_heap_same hlt1
      have hd2 : (W1.putObj L (.loop { rc .ready none with state := .busy })).heap[D]? = some (.deferred (some [])) := (World.putObj_heap_other hne).trans hd1
      have hbd2 := hbd (.loop { rc .ready none with state := .busy }) _ (hL ▸ hl1) rfl
      rw [← hL] at hbd2
      refine wpIn_mono hbd2 ?_
      rintro e a3 W3 ⟨rfl, hk3, hi3, hcc⟩
      have hl3 := hk3.same _ _ (by omega) hb2 rfl
      have hd3 := hk3.same _ _ (by omega) hd2 rfl
      have hrun := run_endRound (P := P) none hl3
      rw [hrc] at hrun
      have hsz := hk1.size
      have hsz3 := hk3.size
      refine ⟨_, _, hrun, rfl, ⟨hI.putObj _ hi3 (by omega) hl3 rfl, ?_, (World.putObj_heap_other hne).trans hd3⟩, ⟨by simp [World.putObj] at hsz3 ⊢; omega, fun k o q1 q2 q3 => (World.putObj_heap_other (by omega)).trans (hk3.same k o (by omega) ((World.putObj_heap_other (by omega)).trans (hk1.same k o (by omega) q2 q3)) q3)⟩, fun k q1 q2 => ?_⟩
      · rw [hrc]
        exact World.putObj_heap_same (Array.getElem?_eq_some_iff.1 hl3).1
      · rw [hVz] at q1 q2
        exact (World.putObj_heap_other (by omega)).trans ((hcc k q1 q2).trans (hc1 k q1 q2))
    | exit id => exact hq.elim
    | goto t => exact hq.elim
    | ret => exact hq.elim
    | panic ch => exact hq.elim
    | outgrown => exact hq.elim
  · rintro e W2 ⟨⟨v, rfl⟩, xs, hS, hi, hl, hk⟩
    refine ⟨none, _, by have := run_endLoop (P := P) hl (by rw [hrc]; simp); rw [hrc] at this; exact this, ?_⟩
    exact hdone D xs _ (by omega) hS (hI.putObj _ hi (by omega) hl rfl) ((World.putObj_heap_other (by omega)).trans hk)
end Go.Proofs.YtoglapodcejocaaDoor.G
