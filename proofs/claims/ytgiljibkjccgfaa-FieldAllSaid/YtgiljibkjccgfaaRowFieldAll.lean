/- FieldAll: for every input the law returns true, and the arguments read as they did: the row, out of the walk and the pure statement. No condition of ours. -/
import Derived.Test.YtgiljibkjccgfaaRows
import Derived.Test.YtgiljibkjccgfaaGx6
import Derived.Test.YtgiljibkjccgfaaPureFieldAll
import Derived.Test.YtgiljibkjccgfaaOpen
import Derived.WalkKit
import Derived.ProofKit
import Derived.OpenShut
import Derived.ShutString
import Derived.ChangeOld
import Derived.Below
import Derived.SizedLaws
namespace Go.Proofs.Ytgiljibkjccgfaa.fieldAll
open Go.ChangeShapes Go.WideShapes Go.ChangeAt Go.RowKit Go.Proofs.YtgiljibkjccgfaaO Go.Proofs.Ytgiljibkjccgfaa.G
open Go.ChangeMaps (open_string shut_string)
open Go.Proofs.YtgiljibkjccgfaaW.PrintWords
set_option linter.unusedVariables false
theorem own : ownKnob Try.prog.godebug = none := by kernel_rfl
theorem laidOut : laidOutB Try.prog = true := by kernel_rfl
set_option maxRecDepth 100000 in
theorem lifted (os : Os) (started : os.Started) (H : Type) (enc : TypeId × Value → H) :
    ReturnsInHanded {} Try.checked os 4 .any (Rows.fieldAllSpec.pre6 enc Try.prog Try.f4 Rows.fieldAllRow.domain false) (Rows.fieldAllSpec.post enc Try.prog Try.f4 false true false false) := by
  refine returnsInHanded_of_change_sized (C := Try.checked) own started (by kernel_rfl) Try.func4
    (ChangeSpec.witness6 (enc := enc) (C := Try.checked) false ⟨#[], #[.string ByteArray.empty, .slice none 0 0, .slice none 0 0], []⟩ 8 (by kernel_rfl) (by kernel_rfl) (by kernel_rfl) (by kernel_rfl)) ?_
  intro W base args ds gs before hval0 hW hcnd hsz0 _
  have hsz : (DataW.weightsEach Try.prog (Try.f4.params.toList ++ Rows.fieldAllSpec.plain.varTypes Try.prog) (ds ++ gs)).all (· ≤ reachBytes) = true := hsz0
  have hval : ∀ (j : Nat) t v, Try.f4.params[j]? = some t → args[j]? = some v → Value.okWide Try.prog W .any base t v := hval0
  have hW' := hW
  obtain ⟨p, q, hA0, hV, rfl, hfz, hnd⟩ := hW
  have hA : DataW.TrodAll enc Try.prog W 0 (fun _ => true) true Try.f4.params.toList args.toList ds p := hA0
  rw [Try.params4] at hA hval hsz
  obtain ⟨v0, vs0, d0, ds0, p0, q0, hargs, rfl, rfl, h0, r0⟩ := trodAll_cons hA
  obtain ⟨v1, vs1, d1, ds1, p1, q1, rfl, rfl, rfl, h1, r1⟩ := trodAll_cons r0
  obtain ⟨v2, vs2, d2, ds2, p2, q2, rfl, rfl, rfl, h2, r2⟩ := trodAll_cons r1
  obtain ⟨rfl, rfl, rfl⟩ := trodAll_nil r2
  obtain rfl : args = #[v0, v1, v2] := by cases args; simp_all
  obtain ⟨rfl, rfl⟩ := trodVars_none hV
  obtain ⟨a0, rfl, rfl, rfl, y0⟩ := open_string Try.underlying9 (hval 0 9 v0 rfl rfl) h0
  have w0 : a0.size ≤ 140737488351232 := by
    have z := (Fits.of (P := Try.prog) (t := 9) hsz (j := 0) rfl rfl) _ (List.mem_singleton.2 rfl)
    simpa using z
  have k1 := h1
  have lt1 : ∀ x ∈ p1, x.block < W.heap.size := by obtain ⟨m, hm⟩ := k1; exact DataW.trod_lt m _ _ _ hm
  have ft1 : Fits Try.prog 37 d1 := (Fits.of hsz (j := 1) rfl rfl)
  obtain ⟨A1, n1, c1, rfl⟩ := okWide_slice Try.underlying37 (hval 1 37 v1 rfl rfl)
  obtain ⟨fu1, hf1⟩ := h1
  have hf1' : DataW.trod enc Try.prog W 0 (fun _ => true) true fu1 37 [.slice A1 n1 c1] = some (d1, p1) := by simpa [Value.cells] using hf1
  obtain ⟨l1, K1, o1, e1⟩ := op_slice (d := (Kd.int .i64)) (ok := fun x0_ => (Lit.int .i64 x0_).wf = true) (B := 8) Try.underlying37 (by kernel_rfl) (by kernel_rfl) (fun h_ f_ => op_int Try.underlying3 h_) hf1' ft1
  obtain ⟨B1, b1, hv1, hc1, hr1⟩ := K1
  simp only [List.cons.injEq, and_true, Value.slice.injEq] at hv1
  obtain ⟨rfl, rfl, rfl⟩ := hv1
  have k2 := h2
  have lt2 : ∀ x ∈ p2, x.block < W.heap.size := by obtain ⟨m, hm⟩ := k2; exact DataW.trod_lt m _ _ _ hm
  have ft2 : Fits Try.prog 38 d2 := (Fits.of hsz (j := 2) rfl rfl)
  obtain ⟨A2, n2, c2, rfl⟩ := okWide_slice Try.underlying38 (hval 2 38 v2 rfl rfl)
  obtain ⟨fu2, hf2⟩ := h2
  have hf2' : DataW.trod enc Try.prog W 0 (fun _ => true) true fu2 38 [.slice A2 n2 c2] = some (d2, p2) := by simpa [Value.cells] using hf2
  obtain ⟨l2, K2, o2, e2⟩ := op_slice (d := (Kd.int .u64)) (ok := fun x0_ => (Lit.int .u64 x0_).wf = true) (B := 8) Try.underlying38 (by kernel_rfl) (by kernel_rfl) (fun h_ f_ => op_int Try.underlying22 h_) hf2' ft2
  obtain ⟨B2, b2, hv2, hc2, hr2⟩ := K2
  simp only [List.cons.injEq, and_true, Value.slice.injEq] at hv2
  obtain ⟨rfl, rfl, rfl⟩ := hv2
  clear hA0 hval0 hsz0
  obtain ⟨k, hp⟩ := Pure.FieldAll a0 l1 l2 w0 ⟨o1, e1⟩ ⟨o2, e2⟩
  refine (G.caulklaw07_FieldAll.calls k a0 _ _ l1 _ _ l2 true W hr1 hc1 hr2 hc2 hp).mono fun e W' ⟨he, bel0⟩ => ?_
  have bel : Below W.heap.size W W' := bel0
  subst he
  exact ⟨_, rfl, _, _, _, [], _, [], hW', trodAll_mk1 (shut_bool Try.underlying4 _), (trodAll_cons_mk (shut_string Try.underlying9 y0) (trodAll_cons_mk (Below.trod laidOut (by kernel_rfl) (of_decide_eq_true (by kernel_rfl)) k1 bel lt1) (trodAll_cons_mk (Below.trod laidOut (by kernel_rfl) (of_decide_eq_true (by kernel_rfl)) k2 bel lt2) trodAll_mk0))), rfl, bel.frame _, fun h => by cases h⟩
theorem over : Rows.fieldAllRow.holds Try.pinned (OpenSpec.ofChange Rows.fieldAllSpec) :=
  OpenClaim.holds_of_wide 4 Try.f4 rfl rfl rfl rfl rfl rfl rfl ⟨rfl, rfl, rfl, rfl, rfl⟩ rfl rfl rfl rfl rfl (by kernel_rfl) Try.func4 (by kernel_rfl)
    (of_decide_eq_true (by kernel_rfl)) (by unfold Func.isWrapper; first | (rw [if_pos (by decide +kernel)]; kernel_rfl) | (rw [if_neg (by decide +kernel)]; exact ⟨rfl, rfl⟩))
    (fun os started H enc _ => lifted os started H enc)
theorem proved : Rows.FieldAllSaid := over
#print axioms proved
end Go.Proofs.Ytgiljibkjccgfaa.fieldAll
namespace Go.Proofs.Ytgiljibkjccgfaa
/-- The row, under a short name, for the claim. -/
theorem fieldAll_holds : Rows.FieldAllSaid := fieldAll.proved
end Go.Proofs.Ytgiljibkjccgfaa
