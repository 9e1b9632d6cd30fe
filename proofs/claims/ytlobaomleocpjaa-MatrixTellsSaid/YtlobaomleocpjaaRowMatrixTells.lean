/- MatrixTells: for every input the law returns true, and the arguments read as they did: the row, out of the walk and the pure statement. No condition of ours. -/
import Derived.Test.YtlobaomleocpjaaRows
import Derived.Test.YtlobaomleocpjaaGx6
import Derived.Test.YtlobaomleocpjaaPureMatrixTells
import Derived.Test.YtlobaomleocpjaaOpen
import Derived.WalkKit
import Derived.ProofKit
import Derived.OpenShut
import Derived.ShutString
import Derived.ChangeOld
import Derived.Below
import Derived.SizedLaws
namespace Go.Proofs.Ytlobaomleocpjaa.matrixTells
open Go.ChangeShapes Go.WideShapes Go.ChangeAt Go.RowKit Go.Proofs.YtlobaomleocpjaaO Go.Proofs.Ytlobaomleocpjaa.G
open Go.ChangeMaps (open_string shut_string)
open Go.Proofs.YtlobaomleocpjaaW.PrintWords
set_option linter.unusedVariables false
theorem own : ownKnob Try.prog.godebug = none := by kernel_rfl
theorem laidOut : laidOutB Try.prog = true := by kernel_rfl
set_option maxRecDepth 100000 in
theorem lifted (os : Os) (started : os.Started) (H : Type) (enc : TypeId × Value → H) :
    ReturnsInHanded {} Try.checked os 3 .any (Rows.matrixTellsSpec.pre6 enc Try.prog Try.f3 Rows.matrixTellsRow.domain false) (Rows.matrixTellsSpec.post enc Try.prog Try.f3 false true false false) := by
  refine returnsInHanded_of_change_sized (C := Try.checked) own started (by kernel_rfl) Try.func3
    (ChangeSpec.witness6 (enc := enc) (C := Try.checked) false ⟨#[], #[.slice none 0 0, .slice none 0 0, .slice none 0 0, .int .i64 0, .int .i64 0], []⟩ 8 (by kernel_rfl) (by kernel_rfl) (by kernel_rfl) (by kernel_rfl)) ?_
  intro W base args ds gs before hval0 hW hcnd hsz0 _
  have hsz : (DataW.weightsEach Try.prog (Try.f3.params.toList ++ Rows.matrixTellsSpec.plain.varTypes Try.prog) (ds ++ gs)).all (· ≤ reachBytes) = true := hsz0
  have hval : ∀ (j : Nat) t v, Try.f3.params[j]? = some t → args[j]? = some v → Value.okWide Try.prog W .any base t v := hval0
  have hW' := hW
  obtain ⟨p, q, hA0, hV, rfl, hfz, hnd⟩ := hW
  have hA : DataW.TrodAll enc Try.prog W 0 (fun _ => true) true Try.f3.params.toList args.toList ds p := hA0
  rw [Try.params3] at hA hval hsz
  obtain ⟨v0, vs0, d0, ds0, p0, q0, hargs, rfl, rfl, h0, r0⟩ := trodAll_cons hA
  obtain ⟨v1, vs1, d1, ds1, p1, q1, rfl, rfl, rfl, h1, r1⟩ := trodAll_cons r0
  obtain ⟨v2, vs2, d2, ds2, p2, q2, rfl, rfl, rfl, h2, r2⟩ := trodAll_cons r1
  obtain ⟨v3, vs3, d3, ds3, p3, q3, rfl, rfl, rfl, h3, r3⟩ := trodAll_cons r2
  obtain ⟨v4, vs4, d4, ds4, p4, q4, rfl, rfl, rfl, h4, r4⟩ := trodAll_cons r3
  obtain ⟨rfl, rfl, rfl⟩ := trodAll_nil r4
  obtain rfl : args = #[v0, v1, v2, v3, v4] := by cases args; simp_all
  obtain ⟨rfl, rfl⟩ := trodVars_none hV
  have k0 := h0
  have lt0 : ∀ x ∈ p0, x.block < W.heap.size := by obtain ⟨m, hm⟩ := k0; exact DataW.trod_lt m _ _ _ hm
  have ft0 : Fits Try.prog 23 d0 := (Fits.of hsz (j := 0) rfl rfl)
  obtain ⟨A0, n0, c0, rfl⟩ := okWide_slice Try.underlying23 (hval 0 23 v0 rfl rfl)
  obtain ⟨fu0, hf0⟩ := h0
  have hf0' : DataW.trod enc Try.prog W 0 (fun _ => true) true fu0 23 [.slice A0 n0 c0] = some (d0, p0) := by simpa [Value.cells] using hf0
  obtain ⟨l0, K0, o0, e0⟩ := op_slice (d := (Kd.slice 5 (Kd.int .u8))) (ok := fun x0_ => (x0_.length * 1 ≤ 140737488351232 ∧ ∀ x1_ ∈ x0_, (Lit.int .u8 x1_).wf = true)) (B := 24) Try.underlying23 (by kernel_rfl) (by kernel_rfl) (fun h_ f_ => by
      obtain ⟨x_, a_, b_, c_⟩ := op_slice (d := (Kd.int .u8)) (ok := fun x0_ => (Lit.int .u8 x0_).wf = true) (B := 1) Try.underlying37 (by kernel_rfl) (by kernel_rfl) (fun h_ f_ => op_int Try.underlying5 h_) h_ f_
      exact ⟨x_, a_, b_, c_⟩) hf0' ft0
  obtain ⟨B0, b0, hv0, hc0, hr0⟩ := K0
  simp only [List.cons.injEq, and_true, Value.slice.injEq] at hv0
  obtain ⟨rfl, rfl, rfl⟩ := hv0
  have k1 := h1
  have lt1 : ∀ x ∈ p1, x.block < W.heap.size := by obtain ⟨m, hm⟩ := k1; exact DataW.trod_lt m _ _ _ hm
  have ft1 : Fits Try.prog 23 d1 := (Fits.of hsz (j := 1) rfl rfl)
  obtain ⟨A1, n1, c1, rfl⟩ := okWide_slice Try.underlying23 (hval 1 23 v1 rfl rfl)
  obtain ⟨fu1, hf1⟩ := h1
  have hf1' : DataW.trod enc Try.prog W 0 (fun _ => true) true fu1 23 [.slice A1 n1 c1] = some (d1, p1) := by simpa [Value.cells] using hf1
  obtain ⟨l1, K1, o1, e1⟩ := op_slice (d := (Kd.slice 5 (Kd.int .u8))) (ok := fun x0_ => (x0_.length * 1 ≤ 140737488351232 ∧ ∀ x1_ ∈ x0_, (Lit.int .u8 x1_).wf = true)) (B := 24) Try.underlying23 (by kernel_rfl) (by kernel_rfl) (fun h_ f_ => by
      obtain ⟨x_, a_, b_, c_⟩ := op_slice (d := (Kd.int .u8)) (ok := fun x0_ => (Lit.int .u8 x0_).wf = true) (B := 1) Try.underlying37 (by kernel_rfl) (by kernel_rfl) (fun h_ f_ => op_int Try.underlying5 h_) h_ f_
      exact ⟨x_, a_, b_, c_⟩) hf1' ft1
  obtain ⟨B1, b1, hv1, hc1, hr1⟩ := K1
  simp only [List.cons.injEq, and_true, Value.slice.injEq] at hv1
  obtain ⟨rfl, rfl, rfl⟩ := hv1
  have k2 := h2
  have lt2 : ∀ x ∈ p2, x.block < W.heap.size := by obtain ⟨m, hm⟩ := k2; exact DataW.trod_lt m _ _ _ hm
  have ft2 : Fits Try.prog 24 d2 := (Fits.of hsz (j := 2) rfl rfl)
  obtain ⟨A2, n2, c2, rfl⟩ := okWide_slice Try.underlying24 (hval 2 24 v2 rfl rfl)
  obtain ⟨fu2, hf2⟩ := h2
  have hf2' : DataW.trod enc Try.prog W 0 (fun _ => true) true fu2 24 [.slice A2 n2 c2] = some (d2, p2) := by simpa [Value.cells] using hf2
  obtain ⟨l2, K2, o2, e2⟩ := op_slice (d := (Kd.int .i64)) (ok := fun x0_ => (Lit.int .i64 x0_).wf = true) (B := 8) Try.underlying24 (by kernel_rfl) (by kernel_rfl) (fun h_ f_ => op_int Try.underlying3 h_) hf2' ft2
  obtain ⟨B2, b2, hv2, hc2, hr2⟩ := K2
  simp only [List.cons.injEq, and_true, Value.slice.injEq] at hv2
  obtain ⟨rfl, rfl, rfl⟩ := hv2
  obtain ⟨a3, rfl, rfl, rfl, w3⟩ := open_int Try.underlying3 (hval 3 3 v3 rfl rfl) h3
  obtain ⟨a4, rfl, rfl, rfl, w4⟩ := open_int Try.underlying3 (hval 4 3 v4 rfl rfl) h4
  clear hA0 hval0 hsz0
  obtain ⟨k, hp⟩ := Pure.MatrixTells l0 l1 l2 a3 a4 ⟨o0, e0⟩ ⟨o1, e1⟩ ⟨o2, e2⟩ w3 w4
  refine (G.caulklaw03_MatrixTells.calls k _ _ l0 _ _ l1 _ _ l2 a3 a4 true W hr0 hc0 hr1 hc1 hr2 hc2 hp).mono fun e W' ⟨he, bel0⟩ => ?_
  have bel : Below W.heap.size W W' := bel0
  subst he
  exact ⟨_, rfl, _, _, _, [], _, [], hW', trodAll_mk1 (shut_bool Try.underlying4 _), (trodAll_cons_mk (Below.trod laidOut (by kernel_rfl) (of_decide_eq_true (by kernel_rfl)) k0 bel lt0) (trodAll_cons_mk (Below.trod laidOut (by kernel_rfl) (of_decide_eq_true (by kernel_rfl)) k1 bel lt1) (trodAll_cons_mk (Below.trod laidOut (by kernel_rfl) (of_decide_eq_true (by kernel_rfl)) k2 bel lt2) (trodAll_cons_mk (shut_int Try.underlying3 w3) (trodAll_cons_mk (shut_int Try.underlying3 w4) trodAll_mk0))))), rfl, bel.frame _, fun h => by cases h⟩
theorem over : Rows.matrixTellsRow.holds Try.pinned (OpenSpec.ofChange Rows.matrixTellsSpec) :=
  OpenClaim.holds_of_wide 3 Try.f3 rfl rfl rfl rfl rfl rfl rfl ⟨rfl, rfl, rfl, rfl, rfl⟩ rfl rfl rfl rfl rfl (by kernel_rfl) Try.func3 (by kernel_rfl)
    (of_decide_eq_true (by kernel_rfl)) (by unfold Func.isWrapper; first | (rw [if_pos (by decide +kernel)]; kernel_rfl) | (rw [if_neg (by decide +kernel)]; exact ⟨rfl, rfl⟩))
    (fun os started H enc _ => lifted os started H enc)
theorem proved : Rows.MatrixTellsSaid := over
#print axioms proved
end Go.Proofs.Ytlobaomleocpjaa.matrixTells
namespace Go.Proofs.Ytlobaomleocpjaa
/-- The row, under a short name, for the claim. -/
theorem matrixTells_holds : Rows.MatrixTellsSaid := matrixTells.proved
end Go.Proofs.Ytlobaomleocpjaa
