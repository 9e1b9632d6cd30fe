/- FieldBack: for every input the law returns true, and the arguments read as they did: the row, out of the walk and the pure statement. No condition of ours. -/
import Derived.Test.YtgiljibkjccgfaaRows
import Derived.Test.YtgiljibkjccgfaaGx7
import Derived.Test.YtgiljibkjccgfaaPureFieldBack
import Derived.Test.YtgiljibkjccgfaaOpen
import Derived.WalkKit
import Derived.ProofKit
import Derived.OpenShut
import Derived.ShutString
import Derived.ChangeOld
import Derived.Below
import Derived.SizedLaws
namespace Go.Proofs.Ytgiljibkjccgfaa.fieldBack
open Go.ChangeShapes Go.WideShapes Go.ChangeAt Go.RowKit Go.Proofs.YtgiljibkjccgfaaO Go.Proofs.Ytgiljibkjccgfaa.G
open Go.ChangeMaps (open_string shut_string)
open Go.Proofs.YtgiljibkjccgfaaW.PrintWords
set_option linter.unusedVariables false
theorem own : ownKnob Try.prog.godebug = none := by kernel_rfl
theorem laidOut : laidOutB Try.prog = true := by kernel_rfl
set_option maxRecDepth 100000 in
theorem openS25 {H : Type} {enc : TypeId × Value → H} {W : World} {fuel : Nat} {cs : List Value} {y : DataW H × List MemPlace} (h : DataW.trod enc Try.prog W 0 (fun _ => true) true fuel 25 cs = some y) (hf : Fits Try.prog 25 y.1) : ∃ x : S25, k25.K W x cs ∧ ((Lit.int .i64 x.f0).wf = true ∧ (Lit.int .i64 x.f1).wf = true ∧ (Lit.int .u32 x.f2).wf = true) := by
  obtain ⟨hl, n, hx⟩ := op_fields Try.underlying25 h hf
  rw [show Try.prog.cellsOf 25 = 3 from by kernel_rfl] at hl
  obtain ⟨c0, c1, c2, rfl⟩ : ∃ c0 c1 c2, cs = [c0, c1, c2] := by
    match cs, hl with
    | [c0, c1, c2], _ => exact ⟨c0, c1, c2, rfl⟩
  obtain ⟨z0, h0, f0⟩ := hx 0 _ rfl
  have g0 : DataW.trod enc Try.prog W 0 (fun _ => true) true n 3 (([c0, c1, c2].drop 0).take (Try.prog.cellsOf 3)) = some z0 := h0
  rw [show Try.prog.cellsOf 3 = 1 from by kernel_rfl] at g0
  have e0 : DataW.trod enc Try.prog W 0 (fun _ => true) true n 3 [c0] = some z0 := g0
  have u0 : Fits Try.prog 3 z0.1 := f0
  obtain ⟨x0, k0_, o0⟩ := op_int Try.underlying3 e0
  obtain ⟨z1, h1, f1⟩ := hx 1 _ rfl
  have g1 : DataW.trod enc Try.prog W 0 (fun _ => true) true n 3 (([c0, c1, c2].drop 1).take (Try.prog.cellsOf 3)) = some z1 := h1
  rw [show Try.prog.cellsOf 3 = 1 from by kernel_rfl] at g1
  have e1 : DataW.trod enc Try.prog W 0 (fun _ => true) true n 3 [c1] = some z1 := g1
  have u1 : Fits Try.prog 3 z1.1 := f1
  obtain ⟨x1, k1_, o1⟩ := op_int Try.underlying3 e1
  obtain ⟨z2, h2, f2⟩ := hx 2 _ rfl
  have g2 : DataW.trod enc Try.prog W 0 (fun _ => true) true n 23 (([c0, c1, c2].drop 2).take (Try.prog.cellsOf 23)) = some z2 := h2
  rw [show Try.prog.cellsOf 23 = 1 from by kernel_rfl] at g2
  have e2 : DataW.trod enc Try.prog W 0 (fun _ => true) true n 23 [c2] = some z2 := g2
  have u2 : Fits Try.prog 23 z2.1 := f2
  obtain ⟨x2, k2_, o2⟩ := op_int Try.underlying23 e2
  have K_ : k25.K W ⟨x0, x1, x2⟩ [c0, c1, c2] := by
    show Kd.K _ W _ _
    exact ⟨[c0], [c1, c2], rfl, k0_, ⟨[c1], [c2], rfl, k1_, k2_⟩⟩
  exact ⟨⟨x0, x1, x2⟩, K_, ⟨o0, o1, o2⟩⟩
set_option maxRecDepth 100000 in
theorem lifted (os : Os) (started : os.Started) (H : Type) (enc : TypeId × Value → H) :
    ReturnsInHanded {} Try.checked os 5 .any (Rows.fieldBackSpec.pre6 enc Try.prog Try.f5 Rows.fieldBackRow.domain false) (Rows.fieldBackSpec.post enc Try.prog Try.f5 false true false false) := by
  refine returnsInHanded_of_change_sized (C := Try.checked) own started (by kernel_rfl) Try.func5
    (ChangeSpec.witness6 (enc := enc) (C := Try.checked) false ⟨#[], #[.slice none 0 0, .slice none 0 0, .string ByteArray.empty, .agg #[.int .i64 0, .int .i64 0, .int .u32 0]], []⟩ 8 (by kernel_rfl) (by kernel_rfl) (by kernel_rfl) (by kernel_rfl)) ?_
  intro W base args ds gs before hval0 hW hcnd hsz0 _
  have hsz : (DataW.weightsEach Try.prog (Try.f5.params.toList ++ Rows.fieldBackSpec.plain.varTypes Try.prog) (ds ++ gs)).all (· ≤ reachBytes) = true := hsz0
  have hval : ∀ (j : Nat) t v, Try.f5.params[j]? = some t → args[j]? = some v → Value.okWide Try.prog W .any base t v := hval0
  have hW' := hW
  obtain ⟨p, q, hA0, hV, rfl, hfz, hnd⟩ := hW
  have hA : DataW.TrodAll enc Try.prog W 0 (fun _ => true) true Try.f5.params.toList args.toList ds p := hA0
  rw [Try.params5] at hA hval hsz
  obtain ⟨v0, vs0, d0, ds0, p0, q0, hargs, rfl, rfl, h0, r0⟩ := trodAll_cons hA
  obtain ⟨v1, vs1, d1, ds1, p1, q1, rfl, rfl, rfl, h1, r1⟩ := trodAll_cons r0
  obtain ⟨v2, vs2, d2, ds2, p2, q2, rfl, rfl, rfl, h2, r2⟩ := trodAll_cons r1
  obtain ⟨v3, vs3, d3, ds3, p3, q3, rfl, rfl, rfl, h3, r3⟩ := trodAll_cons r2
  obtain ⟨rfl, rfl, rfl⟩ := trodAll_nil r3
  obtain rfl : args = #[v0, v1, v2, v3] := by cases args; simp_all
  obtain ⟨rfl, rfl⟩ := trodVars_none hV
  have k0 := h0
  have lt0 : ∀ x ∈ p0, x.block < W.heap.size := by obtain ⟨m, hm⟩ := k0; exact DataW.trod_lt m _ _ _ hm
  have ft0 : Fits Try.prog 37 d0 := (Fits.of hsz (j := 0) rfl rfl)
  obtain ⟨A0, n0, c0, rfl⟩ := okWide_slice Try.underlying37 (hval 0 37 v0 rfl rfl)
  obtain ⟨fu0, hf0⟩ := h0
  have hf0' : DataW.trod enc Try.prog W 0 (fun _ => true) true fu0 37 [.slice A0 n0 c0] = some (d0, p0) := by simpa [Value.cells] using hf0
  obtain ⟨l0, K0, o0, e0⟩ := op_slice (d := (Kd.int .i64)) (ok := fun x0_ => (Lit.int .i64 x0_).wf = true) (B := 8) Try.underlying37 (by kernel_rfl) (by kernel_rfl) (fun h_ f_ => op_int Try.underlying3 h_) hf0' ft0
  obtain ⟨B0, b0, hv0, hc0, hr0⟩ := K0
  simp only [List.cons.injEq, and_true, Value.slice.injEq] at hv0
  obtain ⟨rfl, rfl, rfl⟩ := hv0
  have k1 := h1
  have lt1 : ∀ x ∈ p1, x.block < W.heap.size := by obtain ⟨m, hm⟩ := k1; exact DataW.trod_lt m _ _ _ hm
  have ft1 : Fits Try.prog 38 d1 := (Fits.of hsz (j := 1) rfl rfl)
  obtain ⟨A1, n1, c1, rfl⟩ := okWide_slice Try.underlying38 (hval 1 38 v1 rfl rfl)
  obtain ⟨fu1, hf1⟩ := h1
  have hf1' : DataW.trod enc Try.prog W 0 (fun _ => true) true fu1 38 [.slice A1 n1 c1] = some (d1, p1) := by simpa [Value.cells] using hf1
  obtain ⟨l1, K1, o1, e1⟩ := op_slice (d := (Kd.int .u64)) (ok := fun x0_ => (Lit.int .u64 x0_).wf = true) (B := 8) Try.underlying38 (by kernel_rfl) (by kernel_rfl) (fun h_ f_ => op_int Try.underlying22 h_) hf1' ft1
  obtain ⟨B1, b1, hv1, hc1, hr1⟩ := K1
  simp only [List.cons.injEq, and_true, Value.slice.injEq] at hv1
  obtain ⟨rfl, rfl, rfl⟩ := hv1
  obtain ⟨a2, rfl, rfl, rfl, y2⟩ := open_string Try.underlying9 (hval 2 9 v2 rfl rfl) h2
  have w2 : a2.size ≤ 140737488351232 := by
    have z := (Fits.of (P := Try.prog) (t := 9) hsz (j := 2) rfl rfl) _ (List.mem_singleton.2 rfl)
    simpa using z
  have k3 := h3
  have lt3 : ∀ x ∈ p3, x.block < W.heap.size := by obtain ⟨m, hm⟩ := k3; exact DataW.trod_lt m _ _ _ hm
  have ft3 : Fits Try.prog 25 d3 := (Fits.of hsz (j := 3) rfl rfl)
  obtain ⟨cs3, rfl, hz3⟩ := okWide_struct Try.underlying25 (hval 3 25 v3 rfl rfl)
  obtain ⟨fu3, hf3⟩ := h3
  have hf3' : DataW.trod enc Try.prog W 0 (fun _ => true) true fu3 25 cs3.toList = some (d3, p3) := by simpa [Value.cells] using hf3
  obtain ⟨x3, K3, o3⟩ := openS25 hf3' ft3
  have hs3 := k25_open K3
  obtain rfl : cs3 = #[.int .i64 x3.f0, .int .i64 x3.f1, .int .u32 x3.f2] := by
    obtain ⟨l_⟩ := cs3
    simpa using hs3
  obtain ⟨o3_0, o3_1, o3_2⟩ := o3
  clear hA0 hval0 hsz0
  obtain ⟨k, hp⟩ := Pure.FieldBack l0 l1 a2 x3.f0 x3.f1 x3.f2 ⟨o0, e0⟩ ⟨o1, e1⟩ w2 o3_0 o3_1 o3_2
  refine (G.caulklaw07_FieldBack.calls k _ _ l0 _ _ l1 a2 x3.f0 x3.f1 x3.f2 true W hr0 hc0 hr1 hc1 hp).mono fun e W' ⟨he, bel0⟩ => ?_
  have bel : Below W.heap.size W W' := bel0
  subst he
  exact ⟨_, rfl, _, _, _, [], _, [], hW', trodAll_mk1 (shut_bool Try.underlying4 _), (trodAll_cons_mk (Below.trod laidOut (by kernel_rfl) (of_decide_eq_true (by kernel_rfl)) k0 bel lt0) (trodAll_cons_mk (Below.trod laidOut (by kernel_rfl) (of_decide_eq_true (by kernel_rfl)) k1 bel lt1) (trodAll_cons_mk (shut_string Try.underlying9 y2) (trodAll_cons_mk (Below.trod laidOut (by kernel_rfl) (of_decide_eq_true (by kernel_rfl)) k3 bel lt3) trodAll_mk0)))), rfl, bel.frame _, fun h => by cases h⟩
theorem over : Rows.fieldBackRow.holds Try.pinned (OpenSpec.ofChange Rows.fieldBackSpec) :=
  OpenClaim.holds_of_wide 5 Try.f5 rfl rfl rfl rfl rfl rfl rfl ⟨rfl, rfl, rfl, rfl, rfl⟩ rfl rfl rfl rfl rfl (by kernel_rfl) Try.func5 (by kernel_rfl)
    (of_decide_eq_true (by kernel_rfl)) (by unfold Func.isWrapper; first | (rw [if_pos (by decide +kernel)]; kernel_rfl) | (rw [if_neg (by decide +kernel)]; exact ⟨rfl, rfl⟩))
    (fun os started H enc _ => lifted os started H enc)
theorem proved : Rows.FieldBackSaid := over
#print axioms proved
end Go.Proofs.Ytgiljibkjccgfaa.fieldBack
namespace Go.Proofs.Ytgiljibkjccgfaa
/-- The row, under a short name, for the claim. -/
theorem fieldBack_holds : Rows.FieldBackSaid := fieldBack.proved
end Go.Proofs.Ytgiljibkjccgfaa
