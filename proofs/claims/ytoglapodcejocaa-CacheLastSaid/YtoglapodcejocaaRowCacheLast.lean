/- CacheLast: for every input the law returns true, and the arguments read as they did: the row, out of the walk and the pure statement. No condition of ours. -/
import Derived.Test.YtoglapodcejocaaRows
import Derived.Test.YtoglapodcejocaaCacheLast
import Derived.Test.YtoglapodcejocaaPureCacheLast
import Derived.Test.YtoglapodcejocaaOpen
import Derived.WalkKit
import Derived.ProofKit
import Derived.OpenShut
import Derived.ShutString
import Derived.ChangeOld
import Derived.Below
import Derived.SizedLaws
namespace Go.Proofs.Ytoglapodcejocaa.cacheLast
open Go.ChangeShapes Go.WideShapes Go.ChangeAt Go.RowKit Go.Proofs.YtoglapodcejocaaO Go.Proofs.Ytoglapodcejocaa.G
open Go.ChangeMaps (open_string shut_string)
open Go.Proofs.YtoglapodcejocaaW.PrintWords
set_option linter.unusedVariables false
theorem own : ownKnob Try.prog.godebug = none := by kernel_rfl
theorem laidOut : laidOutB Try.prog = true := by kernel_rfl
set_option maxRecDepth 100000 in
theorem openS34 {H : Type} {enc : TypeId × Value → H} {W : World} {fuel : Nat} {cs : List Value} {y : DataW H × List MemPlace} (h : DataW.trod enc Try.prog W 0 (fun _ => true) true fuel 34 cs = some y) (hf : Fits Try.prog 34 y.1) : ∃ x : S34, k34.K W x cs ∧ ((Lit.int .i64 x.f0).wf = true ∧ (Lit.int .i64 x.f1).wf = true) := by
  obtain ⟨hl, n, hx⟩ := op_fields Try.underlying34 h hf
  rw [show Try.prog.cellsOf 34 = 2 from by kernel_rfl] at hl
  obtain ⟨c0, c1, rfl⟩ : ∃ c0 c1, cs = [c0, c1] := by
    match cs, hl with
    | [c0, c1], _ => exact ⟨c0, c1, rfl⟩
  obtain ⟨z0, h0, f0⟩ := hx 0 _ rfl
  have g0 : DataW.trod enc Try.prog W 0 (fun _ => true) true n 3 (([c0, c1].drop 0).take (Try.prog.cellsOf 3)) = some z0 := h0
  rw [show Try.prog.cellsOf 3 = 1 from by kernel_rfl] at g0
  have e0 : DataW.trod enc Try.prog W 0 (fun _ => true) true n 3 [c0] = some z0 := g0
  have u0 : Fits Try.prog 3 z0.1 := f0
  obtain ⟨x0, k0_, o0⟩ := op_int Try.underlying3 e0
  obtain ⟨z1, h1, f1⟩ := hx 1 _ rfl
  have g1 : DataW.trod enc Try.prog W 0 (fun _ => true) true n 3 (([c0, c1].drop 1).take (Try.prog.cellsOf 3)) = some z1 := h1
  rw [show Try.prog.cellsOf 3 = 1 from by kernel_rfl] at g1
  have e1 : DataW.trod enc Try.prog W 0 (fun _ => true) true n 3 [c1] = some z1 := g1
  have u1 : Fits Try.prog 3 z1.1 := f1
  obtain ⟨x1, k1_, o1⟩ := op_int Try.underlying3 e1
  have K_ : k34.K W ⟨x0, x1⟩ [c0, c1] := by
    show Kd.K _ W _ _
    exact ⟨[c0], [c1], rfl, k0_, k1_⟩
  exact ⟨⟨x0, x1⟩, K_, ⟨o0, o1⟩⟩
set_option maxRecDepth 100000 in
theorem openS36 {H : Type} {enc : TypeId × Value → H} {W : World} {fuel : Nat} {cs : List Value} {y : DataW H × List MemPlace} (h : DataW.trod enc Try.prog W 0 (fun _ => true) true fuel 36 cs = some y) (hf : Fits Try.prog 36 y.1) : ∃ x : S36, k36.K W x cs ∧ ((Lit.int .i64 x.f0).wf = true ∧ ((Lit.int .i64 x.f1.f0).wf = true ∧ (Lit.int .i64 x.f1.f1).wf = true) ∧ x.f2.size ≤ 140737488351232 ∧ (Lit.int .i64 x.f3).wf = true) := by
  obtain ⟨hl, n, hx⟩ := op_fields Try.underlying36 h hf
  rw [show Try.prog.cellsOf 36 = 5 from by kernel_rfl] at hl
  obtain ⟨c0, c1, c2, c3, c4, rfl⟩ : ∃ c0 c1 c2 c3 c4, cs = [c0, c1, c2, c3, c4] := by
    match cs, hl with
    | [c0, c1, c2, c3, c4], _ => exact ⟨c0, c1, c2, c3, c4, rfl⟩
  obtain ⟨z0, h0, f0⟩ := hx 0 _ rfl
  have g0 : DataW.trod enc Try.prog W 0 (fun _ => true) true n 3 (([c0, c1, c2, c3, c4].drop 0).take (Try.prog.cellsOf 3)) = some z0 := h0
  rw [show Try.prog.cellsOf 3 = 1 from by kernel_rfl] at g0
  have e0 : DataW.trod enc Try.prog W 0 (fun _ => true) true n 3 [c0] = some z0 := g0
  have u0 : Fits Try.prog 3 z0.1 := f0
  obtain ⟨x0, k0_, o0⟩ := op_int Try.underlying3 e0
  obtain ⟨z1, h1, f1⟩ := hx 1 _ rfl
  have g1 : DataW.trod enc Try.prog W 0 (fun _ => true) true n 34 (([c0, c1, c2, c3, c4].drop 1).take (Try.prog.cellsOf 34)) = some z1 := h1
  rw [show Try.prog.cellsOf 34 = 2 from by kernel_rfl] at g1
  have e1 : DataW.trod enc Try.prog W 0 (fun _ => true) true n 34 [c1, c2] = some z1 := g1
  have u1 : Fits Try.prog 34 z1.1 := f1
  obtain ⟨x1, k1_, o1⟩ := openS34 e1 u1
  obtain ⟨z2, h2, f2⟩ := hx 2 _ rfl
  have g2 : DataW.trod enc Try.prog W 0 (fun _ => true) true n 9 (([c0, c1, c2, c3, c4].drop 3).take (Try.prog.cellsOf 9)) = some z2 := h2
  rw [show Try.prog.cellsOf 9 = 1 from by kernel_rfl] at g2
  have e2 : DataW.trod enc Try.prog W 0 (fun _ => true) true n 9 [c3] = some z2 := g2
  have u2 : Fits Try.prog 9 z2.1 := f2
  obtain ⟨x2, k2_, o2⟩ := op_string Try.underlying9 e2 u2
  obtain ⟨z3, h3, f3⟩ := hx 3 _ rfl
  have g3 : DataW.trod enc Try.prog W 0 (fun _ => true) true n 3 (([c0, c1, c2, c3, c4].drop 4).take (Try.prog.cellsOf 3)) = some z3 := h3
  rw [show Try.prog.cellsOf 3 = 1 from by kernel_rfl] at g3
  have e3 : DataW.trod enc Try.prog W 0 (fun _ => true) true n 3 [c4] = some z3 := g3
  have u3 : Fits Try.prog 3 z3.1 := f3
  obtain ⟨x3, k3_, o3⟩ := op_int Try.underlying3 e3
  have K_ : k36.K W ⟨x0, x1, x2, x3⟩ [c0, c1, c2, c3, c4] := by
    show Kd.K _ W _ _
    exact ⟨[c0], [c1, c2, c3, c4], rfl, k0_, ⟨[c1, c2], [c3, c4], rfl, k1_, ⟨[c3], [c4], rfl, k2_, k3_⟩⟩⟩
  exact ⟨⟨x0, x1, x2, x3⟩, K_, ⟨o0, o1, o2, o3⟩⟩
set_option maxRecDepth 100000 in
theorem lifted (os : Os) (started : os.Started) (H : Type) (enc : TypeId × Value → H) :
    ReturnsInHanded {} Try.checked os 4 .any (Rows.cacheLastSpec.pre6 enc Try.prog Try.f4 Rows.cacheLastRow.domain false) (Rows.cacheLastSpec.post enc Try.prog Try.f4 false true false false) := by
  refine returnsInHanded_of_change_sized (C := Try.checked) own started (by kernel_rfl) Try.func4
    (ChangeSpec.witness6 (enc := enc) (C := Try.checked) false ⟨#[], #[.int .i64 0, .slice none 0 0], []⟩ 8 (by kernel_rfl) (by kernel_rfl) (by kernel_rfl) (by kernel_rfl)) ?_
  intro W base args ds gs before hval0 hW hcnd hsz0 _
  have hsz : (DataW.weightsEach Try.prog (Try.f4.params.toList ++ Rows.cacheLastSpec.plain.varTypes Try.prog) (ds ++ gs)).all (· ≤ reachBytes) = true := hsz0
  have hval : ∀ (j : Nat) t v, Try.f4.params[j]? = some t → args[j]? = some v → Value.okWide Try.prog W .any base t v := hval0
  have hW' := hW
  obtain ⟨p, q, hA0, hV, rfl, hfz, hnd⟩ := hW
  have hA : DataW.TrodAll enc Try.prog W 0 (fun _ => true) true Try.f4.params.toList args.toList ds p := hA0
  rw [Try.params4] at hA hval hsz
  obtain ⟨v0, vs0, d0, ds0, p0, q0, hargs, rfl, rfl, h0, r0⟩ := trodAll_cons hA
  obtain ⟨v1, vs1, d1, ds1, p1, q1, rfl, rfl, rfl, h1, r1⟩ := trodAll_cons r0
  obtain ⟨rfl, rfl, rfl⟩ := trodAll_nil r1
  obtain rfl : args = #[v0, v1] := by cases args; simp_all
  obtain ⟨rfl, rfl⟩ := trodVars_none hV
  obtain ⟨a0, rfl, rfl, rfl, w0⟩ := open_int Try.underlying3 (hval 0 3 v0 rfl rfl) h0
  have k1 := h1
  have lt1 : ∀ x ∈ p1, x.block < W.heap.size := by obtain ⟨m, hm⟩ := k1; exact DataW.trod_lt m _ _ _ hm
  have ft1 : Fits Try.prog 22 d1 := (Fits.of hsz (j := 1) rfl rfl)
  obtain ⟨A1, n1, c1, rfl⟩ := okWide_slice Try.underlying22 (hval 1 22 v1 rfl rfl)
  obtain ⟨fu1, hf1⟩ := h1
  have hf1' : DataW.trod enc Try.prog W 0 (fun _ => true) true fu1 22 [.slice A1 n1 c1] = some (d1, p1) := by simpa [Value.cells] using hf1
  obtain ⟨l1, K1, o1, e1⟩ := op_slice (d := k36) (ok := fun x0_ => ((Lit.int .i64 x0_.f0).wf = true ∧ ((Lit.int .i64 x0_.f1.f0).wf = true ∧ (Lit.int .i64 x0_.f1.f1).wf = true) ∧ x0_.f2.size ≤ 140737488351232 ∧ (Lit.int .i64 x0_.f3).wf = true)) (B := 48) Try.underlying22 (by kernel_rfl) (by kernel_rfl) (fun h_ f_ => openS36 h_ f_) hf1' ft1
  obtain ⟨B1, b1, hv1, hc1, hr1⟩ := K1
  simp only [List.cons.injEq, and_true, Value.slice.injEq] at hv1
  obtain ⟨rfl, rfl, rfl⟩ := hv1
  clear hA0 hval0 hsz0
  obtain ⟨k, hp⟩ := Pure.CacheLast a0 l1 w0 ⟨o1, e1⟩
  refine (G.caulklaw36_CacheLast.calls k a0 _ _ l1 true W hr1 hc1 hp).mono fun e W' ⟨he, bel0⟩ => ?_
  have bel : Below W.heap.size W W' := bel0
  subst he
  exact ⟨_, rfl, _, _, _, [], _, [], hW', trodAll_mk1 (shut_bool Try.underlying4 _), (trodAll_cons_mk (shut_int Try.underlying3 w0) (trodAll_cons_mk (Below.trod laidOut (by kernel_rfl) (of_decide_eq_true (by kernel_rfl)) k1 bel lt1) trodAll_mk0)), rfl, bel.frame _, fun h => by cases h⟩
theorem over : Rows.cacheLastRow.holds Try.pinned (OpenSpec.ofChange Rows.cacheLastSpec) :=
  OpenClaim.holds_of_wide 4 Try.f4 rfl rfl rfl rfl rfl rfl rfl ⟨rfl, rfl, rfl, rfl, rfl⟩ rfl rfl rfl rfl rfl (by kernel_rfl) Try.func4 (by kernel_rfl)
    (of_decide_eq_true (by kernel_rfl)) (by unfold Func.isWrapper; first | (rw [if_pos (by decide +kernel)]; kernel_rfl) | (rw [if_neg (by decide +kernel)]; exact ⟨rfl, rfl⟩))
    (fun os started H enc _ => lifted os started H enc)
theorem proved : Rows.CacheLastSaid := over
#print axioms proved
end Go.Proofs.Ytoglapodcejocaa.cacheLast
namespace Go.Proofs.Ytoglapodcejocaa
/-- The row, under a short name, for the claim. -/
theorem cacheLast_holds : Rows.CacheLastSaid := cacheLast.proved
end Go.Proofs.Ytoglapodcejocaa
