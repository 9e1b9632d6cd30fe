/- GeomBack: for every input the law returns true, and the arguments read as they did: the row, out of the walk and the pure statement. No condition of ours. -/
import Derived.Test.YtegfembmnnmnbabRows
import Derived.Test.YtegfembmnnmnbabGx7
import Derived.Test.YtegfembmnnmnbabPureGeomBack
import Derived.Test.YtegfembmnnmnbabOpen
import Derived.WalkKit
import Derived.ProofKit
import Derived.OpenShut
import Derived.ShutString
import Derived.ChangeOld
import Derived.Below
import Derived.SizedLaws
namespace Go.Proofs.Ytegfembmnnmnbab.geomBack
open Go.ChangeShapes Go.WideShapes Go.ChangeAt Go.RowKit Go.Proofs.YtegfembmnnmnbabO Go.Proofs.Ytegfembmnnmnbab.G
open Go.ChangeMaps (open_string shut_string)
open Go.Proofs.YtegfembmnnmnbabW.PrintWords
set_option linter.unusedVariables false
theorem own : ownKnob Try.prog.godebug = none := by kernel_rfl
theorem laidOut : laidOutB Try.prog = true := by kernel_rfl
theorem openS23 {H : Type} {enc : TypeId × Value → H} {W : World} {fuel : Nat} {cs : List Value} {y : DataW H × List MemPlace} (h : DataW.trod enc Try.prog W 0 (fun _ => true) true fuel 23 cs = some y) (hf : Fits Try.prog 23 y.1) : ∃ x : S23, k23.K W x cs ∧ ((Lit.int .i64 x.f0).wf = true ∧ (Lit.int .i64 x.f1).wf = true ∧ (Lit.int .i64 x.f2).wf = true ∧ (Lit.int .i64 x.f3).wf = true) := by
  obtain ⟨hl, n, hx⟩ := op_fields Try.underlying23 h hf
  rw [show Try.prog.cellsOf 23 = 4 from by kernel_rfl] at hl
  obtain ⟨c0, c1, c2, c3, rfl⟩ : ∃ c0 c1 c2 c3, cs = [c0, c1, c2, c3] := by
    match cs, hl with
    | [c0, c1, c2, c3], _ => exact ⟨c0, c1, c2, c3, rfl⟩
  obtain ⟨z0, h0, f0⟩ := hx 0 _ rfl
  have g0 : DataW.trod enc Try.prog W 0 (fun _ => true) true n 3 (([c0, c1, c2, c3].drop 0).take (Try.prog.cellsOf 3)) = some z0 := h0
  rw [show Try.prog.cellsOf 3 = 1 from by kernel_rfl] at g0
  have e0 : DataW.trod enc Try.prog W 0 (fun _ => true) true n 3 [c0] = some z0 := g0
  have u0 : Fits Try.prog 3 z0.1 := f0
  obtain ⟨x0, k0_, o0⟩ := op_int Try.underlying3 e0
  obtain ⟨z1, h1, f1⟩ := hx 1 _ rfl
  have g1 : DataW.trod enc Try.prog W 0 (fun _ => true) true n 3 (([c0, c1, c2, c3].drop 1).take (Try.prog.cellsOf 3)) = some z1 := h1
  rw [show Try.prog.cellsOf 3 = 1 from by kernel_rfl] at g1
  have e1 : DataW.trod enc Try.prog W 0 (fun _ => true) true n 3 [c1] = some z1 := g1
  have u1 : Fits Try.prog 3 z1.1 := f1
  obtain ⟨x1, k1_, o1⟩ := op_int Try.underlying3 e1
  obtain ⟨z2, h2, f2⟩ := hx 2 _ rfl
  have g2 : DataW.trod enc Try.prog W 0 (fun _ => true) true n 3 (([c0, c1, c2, c3].drop 2).take (Try.prog.cellsOf 3)) = some z2 := h2
  rw [show Try.prog.cellsOf 3 = 1 from by kernel_rfl] at g2
  have e2 : DataW.trod enc Try.prog W 0 (fun _ => true) true n 3 [c2] = some z2 := g2
  have u2 : Fits Try.prog 3 z2.1 := f2
  obtain ⟨x2, k2_, o2⟩ := op_int Try.underlying3 e2
  obtain ⟨z3, h3, f3⟩ := hx 3 _ rfl
  have g3 : DataW.trod enc Try.prog W 0 (fun _ => true) true n 3 (([c0, c1, c2, c3].drop 3).take (Try.prog.cellsOf 3)) = some z3 := h3
  rw [show Try.prog.cellsOf 3 = 1 from by kernel_rfl] at g3
  have e3 : DataW.trod enc Try.prog W 0 (fun _ => true) true n 3 [c3] = some z3 := g3
  have u3 : Fits Try.prog 3 z3.1 := f3
  obtain ⟨x3, k3_, o3⟩ := op_int Try.underlying3 e3
  have K_ : k23.K W ⟨x0, x1, x2, x3⟩ [c0, c1, c2, c3] := by
    show Kd.K _ W _ _
    exact ⟨[c0], [c1, c2, c3], rfl, k0_, ⟨[c1], [c2, c3], rfl, k1_, ⟨[c2], [c3], rfl, k2_, k3_⟩⟩⟩
  exact ⟨⟨x0, x1, x2, x3⟩, K_, ⟨o0, o1, o2, o3⟩⟩
set_option maxRecDepth 100000 in
theorem lifted (os : Os) (started : os.Started) (H : Type) (enc : TypeId × Value → H) :
    ReturnsInHanded {} Try.checked os 4 .any (Rows.geomBackSpec.pre6 enc Try.prog Try.f4 Rows.geomBackRow.domain false) (Rows.geomBackSpec.post enc Try.prog Try.f4 false true false false) := by
  refine returnsInHanded_of_change_sized (C := Try.checked) own started (by kernel_rfl) Try.func4
    (ChangeSpec.witness6 (enc := enc) (C := Try.checked) false ⟨#[], #[.agg #[.int .i64 0, .int .i64 0, .int .i64 0, .int .i64 0], .int .i64 0, .int .i64 0, .int .i64 0], []⟩ 8 (by kernel_rfl) (by kernel_rfl) (by kernel_rfl) (by kernel_rfl)) ?_
  intro W base args ds gs before hval0 hW hcnd hsz0 _
  have hsz : (DataW.weightsEach Try.prog (Try.f4.params.toList ++ Rows.geomBackSpec.plain.varTypes Try.prog) (ds ++ gs)).all (· ≤ reachBytes) = true := hsz0
  have hval : ∀ (j : Nat) t v, Try.f4.params[j]? = some t → args[j]? = some v → Value.okWide Try.prog W .any base t v := hval0
  have hW' := hW
  obtain ⟨p, q, hA0, hV, rfl, hfz, hnd⟩ := hW
  have hA : DataW.TrodAll enc Try.prog W 0 (fun _ => true) true Try.f4.params.toList args.toList ds p := hA0
  rw [Try.params4] at hA hval hsz
  obtain ⟨v0, vs0, d0, ds0, p0, q0, hargs, rfl, rfl, h0, r0⟩ := trodAll_cons hA
  obtain ⟨v1, vs1, d1, ds1, p1, q1, rfl, rfl, rfl, h1, r1⟩ := trodAll_cons r0
  obtain ⟨v2, vs2, d2, ds2, p2, q2, rfl, rfl, rfl, h2, r2⟩ := trodAll_cons r1
  obtain ⟨v3, vs3, d3, ds3, p3, q3, rfl, rfl, rfl, h3, r3⟩ := trodAll_cons r2
  obtain ⟨rfl, rfl, rfl⟩ := trodAll_nil r3
  obtain rfl : args = #[v0, v1, v2, v3] := by cases args; simp_all
  obtain ⟨rfl, rfl⟩ := trodVars_none hV
  have k0 := h0
  have lt0 : ∀ x ∈ p0, x.block < W.heap.size := by obtain ⟨m, hm⟩ := k0; exact DataW.trod_lt m _ _ _ hm
  have ft0 : Fits Try.prog 23 d0 := (Fits.of hsz (j := 0) rfl rfl)
  obtain ⟨cs0, rfl, hz0⟩ := okWide_struct Try.underlying23 (hval 0 23 v0 rfl rfl)
  obtain ⟨fu0, hf0⟩ := h0
  have hf0' : DataW.trod enc Try.prog W 0 (fun _ => true) true fu0 23 cs0.toList = some (d0, p0) := by simpa [Value.cells] using hf0
  obtain ⟨x0, K0, o0⟩ := openS23 hf0' ft0
  have hs0 := k23_open K0
  obtain rfl : cs0 = #[.int .i64 x0.f0, .int .i64 x0.f1, .int .i64 x0.f2, .int .i64 x0.f3] := by
    obtain ⟨l_⟩ := cs0
    simpa using hs0
  obtain ⟨o0_0, o0_1, o0_2, o0_3⟩ := o0
  obtain ⟨a1, rfl, rfl, rfl, w1⟩ := open_int Try.underlying3 (hval 1 3 v1 rfl rfl) h1
  obtain ⟨a2, rfl, rfl, rfl, w2⟩ := open_int Try.underlying3 (hval 2 3 v2 rfl rfl) h2
  obtain ⟨a3, rfl, rfl, rfl, w3⟩ := open_int Try.underlying2 (hval 3 2 v3 rfl rfl) h3
  clear hA0 hval0 hsz0
  obtain ⟨k, hp⟩ := Pure.GeomBack x0.f0 x0.f1 x0.f2 x0.f3 a1 a2 a3 o0_0 o0_1 o0_2 o0_3 w1 w2 w3
  refine (G.caulklaw06_GeomBack.calls k x0.f0 x0.f1 x0.f2 x0.f3 a1 a2 a3 true W hp).mono fun e W' ⟨he, bel0⟩ => ?_
  have bel : Below W.heap.size W W' := bel0
  subst he
  exact ⟨_, rfl, _, _, _, [], _, [], hW', trodAll_mk1 (shut_bool Try.underlying4 _), (trodAll_cons_mk (Below.trod laidOut (by kernel_rfl) (of_decide_eq_true (by kernel_rfl)) k0 bel lt0) (trodAll_cons_mk (shut_int Try.underlying3 w1) (trodAll_cons_mk (shut_int Try.underlying3 w2) (trodAll_cons_mk (shut_int Try.underlying2 w3) trodAll_mk0)))), rfl, bel.frame _, fun h => by cases h⟩
theorem over : Rows.geomBackRow.holds Try.pinned (OpenSpec.ofChange Rows.geomBackSpec) :=
  OpenClaim.holds_of_wide 4 Try.f4 rfl rfl rfl rfl rfl rfl rfl ⟨rfl, rfl, rfl, rfl, rfl⟩ rfl rfl rfl rfl rfl (by kernel_rfl) Try.func4 (by kernel_rfl)
    (of_decide_eq_true (by kernel_rfl)) (by unfold Func.isWrapper; first | (rw [if_pos (by decide +kernel)]; kernel_rfl) | (rw [if_neg (by decide +kernel)]; exact ⟨rfl, rfl⟩))
    (fun os started H enc _ => lifted os started H enc)
theorem proved : Rows.GeomBackSaid := over
#print axioms proved
end Go.Proofs.Ytegfembmnnmnbab.geomBack
namespace Go.Proofs.Ytegfembmnnmnbab
/-- The row, under a short name, for the claim. -/
theorem geomBack_holds : Rows.GeomBackSaid := geomBack.proved
end Go.Proofs.Ytegfembmnnmnbab
