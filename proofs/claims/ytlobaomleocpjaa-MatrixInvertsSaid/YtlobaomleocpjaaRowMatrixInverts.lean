/- MatrixInverts: for every input the law returns true, and the arguments read as they did: the row, out of the walk and the pure statement. No condition of ours. -/
import Derived.Test.YtlobaomleocpjaaRows
import Derived.Test.YtlobaomleocpjaaGxMI
import Derived.Test.YtlobaomleocpjaaPureMatrixInverts
import Derived.Test.YtlobaomleocpjaaOpen
import Derived.WalkKit
import Derived.ProofKit
import Derived.OpenShut
import Derived.ShutString
import Derived.ChangeOld
import Derived.Below
import Derived.SizedLaws
namespace Go.Proofs.Ytlobaomleocpjaa.matrixInverts
open Go.ChangeShapes Go.WideShapes Go.ChangeAt Go.RowKit Go.Proofs.YtlobaomleocpjaaO Go.Proofs.Ytlobaomleocpjaa.G
open Go.ChangeMaps (open_string shut_string)
open Go.Proofs.YtlobaomleocpjaaW.PrintWords
set_option linter.unusedVariables false
theorem own : ownKnob Try.prog.godebug = none := by kernel_rfl
theorem laidOut : laidOutB Try.prog = true := by kernel_rfl
set_option maxRecDepth 100000 in
theorem lifted (os : Os) (started : os.Started) (H : Type) (enc : TypeId × Value → H) :
    ReturnsInHanded {} Try.checked os 4 .any (Rows.matrixInvertsSpec.pre6 enc Try.prog Try.f4 Rows.matrixInvertsRow.domain false) (Rows.matrixInvertsSpec.post enc Try.prog Try.f4 false true false false) := by
  refine returnsInHanded_of_change_sized (C := Try.checked) own started (by kernel_rfl) Try.func4
    (ChangeSpec.witness6 (enc := enc) (C := Try.checked) false ⟨#[], #[.slice none 0 0], []⟩ 8 (by kernel_rfl) (by kernel_rfl) (by kernel_rfl) (by kernel_rfl)) ?_
  intro W base args ds gs before hval0 hW hcnd hsz0 _
  have hsz : (DataW.weightsEach Try.prog (Try.f4.params.toList ++ Rows.matrixInvertsSpec.plain.varTypes Try.prog) (ds ++ gs)).all (· ≤ reachBytes) = true := hsz0
  have hval : ∀ (j : Nat) t v, Try.f4.params[j]? = some t → args[j]? = some v → Value.okWide Try.prog W .any base t v := hval0
  have hW' := hW
  obtain ⟨p, q, hA0, hV, rfl, hfz, hnd⟩ := hW
  have hA : DataW.TrodAll enc Try.prog W 0 (fun _ => true) true Try.f4.params.toList args.toList ds p := hA0
  rw [Try.params4] at hA hval hsz
  obtain ⟨v0, vs0, d0, ds0, p0, q0, hargs, rfl, rfl, h0, r0⟩ := trodAll_cons hA
  obtain ⟨rfl, rfl, rfl⟩ := trodAll_nil r0
  obtain rfl : args = #[v0] := by cases args; simp_all
  obtain ⟨rfl, rfl⟩ := trodVars_none hV
  have k0 := h0
  have lt0 : ∀ x ∈ p0, x.block < W.heap.size := by obtain ⟨m, hm⟩ := k0; exact DataW.trod_lt m _ _ _ hm
  have ft0 : Fits Try.prog 23 d0 := (Fits.of hsz (j := 0) rfl rfl)
  obtain ⟨A0, n0, c0, rfl⟩ := okWide_slice Try.underlying23 (hval 0 23 v0 rfl rfl)
  obtain ⟨fu0, hf0⟩ := h0
  have hf0' : DataW.trod enc Try.prog W 0 (fun _ => true) true fu0 23 [.slice A0 n0 c0] = some (d0, p0) := by simpa [Value.cells] using hf0
  obtain ⟨l0, K0, o0, e0⟩ := op_slice (d := (Kd.slice 5 (Kd.int .u8))) (ok := fun x0_ => (x0_.length * 1 ≤ 140737488351232 ∧ ∀ x1_ ∈ x0_, (Lit.int .u8 x1_).wf = true)) (B := 24) Try.underlying23 (by kernel_rfl) (by kernel_rfl) (fun h_ f_ => by
      obtain ⟨x_, a_, b_, c_⟩ := op_slice (d := (Kd.int .u8)) (ok := fun x0_ => (Lit.int .u8 x0_).wf = true) (B := 1) Try.underlying37 (by kernel_rfl) (by kernel_rfl) (fun h_ f_ => op_int Try.underlying5 h_) h_ f_
      exact ⟨x_, a_, b_, c_⟩) hf0' ft0
  obtain ⟨B0, b0, hv0, hc0, hr0⟩ := K0
  simp only [List.cons.injEq, and_true, Value.slice.injEq] at hv0
  obtain ⟨rfl, rfl, rfl⟩ := hv0
  clear hA0 hval0 hsz0
  obtain ⟨k, hp⟩ := Pure.MatrixInverts l0 ⟨o0, e0⟩
  refine (G.caulklaw03_MatrixInverts.calls k _ _ l0 true W hr0 hc0 hp).mono fun e W' ⟨he, bel0⟩ => ?_
  have bel : Below W.heap.size W W' := bel0
  subst he
  exact ⟨_, rfl, _, _, _, [], _, [], hW', trodAll_mk1 (shut_bool Try.underlying4 _), (trodAll_cons_mk (Below.trod laidOut (by kernel_rfl) (of_decide_eq_true (by kernel_rfl)) k0 bel lt0) trodAll_mk0), rfl, bel.frame _, fun h => by cases h⟩
theorem over : Rows.matrixInvertsRow.holds Try.pinned (OpenSpec.ofChange Rows.matrixInvertsSpec) :=
  OpenClaim.holds_of_wide 4 Try.f4 rfl rfl rfl rfl rfl rfl rfl ⟨rfl, rfl, rfl, rfl, rfl⟩ rfl rfl rfl rfl rfl (by kernel_rfl) Try.func4 (by kernel_rfl)
    (of_decide_eq_true (by kernel_rfl)) (by unfold Func.isWrapper; first | (rw [if_pos (by decide +kernel)]; kernel_rfl) | (rw [if_neg (by decide +kernel)]; exact ⟨rfl, rfl⟩))
    (fun os started H enc _ => lifted os started H enc)
theorem proved : Rows.MatrixInvertsSaid := over
#print axioms proved
end Go.Proofs.Ytlobaomleocpjaa.matrixInverts
namespace Go.Proofs.Ytlobaomleocpjaa
/-- The row, under a short name, for the claim. -/
theorem matrixInverts_holds : Rows.MatrixInvertsSaid := matrixInverts.proved
end Go.Proofs.Ytlobaomleocpjaa
