/- RsDecodes: for every input the law returns true, and the arguments read as they did: the row, out of the walk and the pure statement. No condition of ours. -/
import Derived.Test.YtlobaomleocpjaaRows
import Derived.Test.YtlobaomleocpjaaGx10
import Derived.Test.YtlobaomleocpjaaPureRsDecodes
import Derived.Test.YtlobaomleocpjaaOpen
import Derived.WalkKit
import Derived.ProofKit
import Derived.OpenShut
import Derived.ShutString
import Derived.ChangeOld
import Derived.Below
import Derived.SizedLaws
namespace Go.Proofs.Ytlobaomleocpjaa.rsDecodes
open Go.ChangeShapes Go.WideShapes Go.ChangeAt Go.RowKit Go.Proofs.YtlobaomleocpjaaO Go.Proofs.Ytlobaomleocpjaa.G
open Go.ChangeMaps (open_string shut_string)
open Go.Proofs.YtlobaomleocpjaaW.PrintWords
set_option linter.unusedVariables false
theorem own : ownKnob Try.prog.godebug = none := by kernel_rfl
theorem laidOut : laidOutB Try.prog = true := by kernel_rfl
set_option maxRecDepth 100000 in
theorem openS48 {H : Type} {enc : TypeId × Value → H} {W : World} {fuel : Nat} {cs : List Value} {y : DataW H × List MemPlace} (h : DataW.trod enc Try.prog W 0 (fun _ => true) true fuel 48 cs = some y) (hf : Fits Try.prog 48 y.1) : ∃ x : S48, k48.K W x cs ∧ x.f1.size ≤ 140737488351232 := by
  obtain ⟨hl, n, hx⟩ := op_fields Try.underlying48 h hf
  rw [show Try.prog.cellsOf 48 = 2 from by kernel_rfl] at hl
  obtain ⟨c0, c1, rfl⟩ : ∃ c0 c1, cs = [c0, c1] := by
    match cs, hl with
    | [c0, c1], _ => exact ⟨c0, c1, rfl⟩
  obtain ⟨z0, h0, f0⟩ := hx 0 _ rfl
  have g0 : DataW.trod enc Try.prog W 0 (fun _ => true) true n 4 (([c0, c1].drop 0).take (Try.prog.cellsOf 4)) = some z0 := h0
  rw [show Try.prog.cellsOf 4 = 1 from by kernel_rfl] at g0
  have e0 : DataW.trod enc Try.prog W 0 (fun _ => true) true n 4 [c0] = some z0 := g0
  have u0 : Fits Try.prog 4 z0.1 := f0
  obtain ⟨x0, k0_⟩ := op_bool Try.underlying4 e0
  obtain ⟨z1, h1, f1⟩ := hx 1 _ rfl
  have g1 : DataW.trod enc Try.prog W 0 (fun _ => true) true n 9 (([c0, c1].drop 1).take (Try.prog.cellsOf 9)) = some z1 := h1
  rw [show Try.prog.cellsOf 9 = 1 from by kernel_rfl] at g1
  have e1 : DataW.trod enc Try.prog W 0 (fun _ => true) true n 9 [c1] = some z1 := g1
  have u1 : Fits Try.prog 9 z1.1 := f1
  obtain ⟨x1, k1_, o1⟩ := op_string Try.underlying9 e1 u1
  have K_ : k48.K W ⟨x0, x1⟩ [c0, c1] := by
    show Kd.K _ W _ _
    exact ⟨[c0], [c1], rfl, k0_, k1_⟩
  exact ⟨⟨x0, x1⟩, K_, o1⟩
set_option maxRecDepth 100000 in
theorem lifted (os : Os) (started : os.Started) (H : Type) (enc : TypeId × Value → H) :
    ReturnsInHanded {} Try.checked os 8 .any (Rows.rsDecodesSpec.pre6 enc Try.prog Try.f8 Rows.rsDecodesRow.domain false) (Rows.rsDecodesSpec.post enc Try.prog Try.f8 false true false false) := by
  refine returnsInHanded_of_change_sized (C := Try.checked) own started (by kernel_rfl) Try.func8
    (ChangeSpec.witness6 (enc := enc) (C := Try.checked) false ⟨#[], #[.int .i64 0, .int .i64 0, .slice none 0 0], []⟩ 8 (by kernel_rfl) (by kernel_rfl) (by kernel_rfl) (by kernel_rfl)) ?_
  intro W base args ds gs before hval0 hW hcnd hsz0 _
  have hsz : (DataW.weightsEach Try.prog (Try.f8.params.toList ++ Rows.rsDecodesSpec.plain.varTypes Try.prog) (ds ++ gs)).all (· ≤ reachBytes) = true := hsz0
  have hval : ∀ (j : Nat) t v, Try.f8.params[j]? = some t → args[j]? = some v → Value.okWide Try.prog W .any base t v := hval0
  have hW' := hW
  obtain ⟨p, q, hA0, hV, rfl, hfz, hnd⟩ := hW
  have hA : DataW.TrodAll enc Try.prog W 0 (fun _ => true) true Try.f8.params.toList args.toList ds p := hA0
  rw [Try.params8] at hA hval hsz
  obtain ⟨v0, vs0, d0, ds0, p0, q0, hargs, rfl, rfl, h0, r0⟩ := trodAll_cons hA
  obtain ⟨v1, vs1, d1, ds1, p1, q1, rfl, rfl, rfl, h1, r1⟩ := trodAll_cons r0
  obtain ⟨v2, vs2, d2, ds2, p2, q2, rfl, rfl, rfl, h2, r2⟩ := trodAll_cons r1
  obtain ⟨rfl, rfl, rfl⟩ := trodAll_nil r2
  obtain rfl : args = #[v0, v1, v2] := by cases args; simp_all
  obtain ⟨rfl, rfl⟩ := trodVars_none hV
  obtain ⟨a0, rfl, rfl, rfl, w0⟩ := open_int Try.underlying3 (hval 0 3 v0 rfl rfl) h0
  obtain ⟨a1, rfl, rfl, rfl, w1⟩ := open_int Try.underlying3 (hval 1 3 v1 rfl rfl) h1
  have k2 := h2
  have lt2 : ∀ x ∈ p2, x.block < W.heap.size := by obtain ⟨m, hm⟩ := k2; exact DataW.trod_lt m _ _ _ hm
  have ft2 : Fits Try.prog 46 d2 := (Fits.of hsz (j := 2) rfl rfl)
  obtain ⟨A2, n2, c2, rfl⟩ := okWide_slice Try.underlying46 (hval 2 46 v2 rfl rfl)
  obtain ⟨fu2, hf2⟩ := h2
  have hf2' : DataW.trod enc Try.prog W 0 (fun _ => true) true fu2 46 [.slice A2 n2 c2] = some (d2, p2) := by simpa [Value.cells] using hf2
  obtain ⟨l2, K2, o2, e2⟩ := op_slice (d := k48) (ok := fun x0_ => x0_.f1.size ≤ 140737488351232) (B := 24) Try.underlying46 (by kernel_rfl) (by kernel_rfl) (fun h_ f_ => openS48 h_ f_) hf2' ft2
  obtain ⟨B2, b2, hv2, hc2, hr2⟩ := K2
  simp only [List.cons.injEq, and_true, Value.slice.injEq] at hv2
  obtain ⟨rfl, rfl, rfl⟩ := hv2
  clear hA0 hval0 hsz0
  obtain ⟨k, hp⟩ := Pure.RsDecodes a0 a1 l2 w0 w1 ⟨o2, e2⟩
  refine (G.caulklaw04_RsDecodes.calls k a0 a1 _ _ l2 true W hr2 hc2 hp).mono fun e W' ⟨he, bel0⟩ => ?_
  have bel : Below W.heap.size W W' := bel0
  subst he
  exact ⟨_, rfl, _, _, _, [], _, [], hW', trodAll_mk1 (shut_bool Try.underlying4 _), (trodAll_cons_mk (shut_int Try.underlying3 w0) (trodAll_cons_mk (shut_int Try.underlying3 w1) (trodAll_cons_mk (Below.trod laidOut (by kernel_rfl) (of_decide_eq_true (by kernel_rfl)) k2 bel lt2) trodAll_mk0))), rfl, bel.frame _, fun h => by cases h⟩
theorem over : Rows.rsDecodesRow.holds Try.pinned (OpenSpec.ofChange Rows.rsDecodesSpec) :=
  OpenClaim.holds_of_wide 8 Try.f8 rfl rfl rfl rfl rfl rfl rfl ⟨rfl, rfl, rfl, rfl, rfl⟩ rfl rfl rfl rfl rfl (by kernel_rfl) Try.func8 (by kernel_rfl)
    (of_decide_eq_true (by kernel_rfl)) (by unfold Func.isWrapper; first | (rw [if_pos (by decide +kernel)]; kernel_rfl) | (rw [if_neg (by decide +kernel)]; exact ⟨rfl, rfl⟩))
    (fun os started H enc _ => lifted os started H enc)
theorem proved : Rows.RsDecodesSaid := over
#print axioms proved
end Go.Proofs.Ytlobaomleocpjaa.rsDecodes
namespace Go.Proofs.Ytlobaomleocpjaa
/-- The row, under a short name, for the claim. -/
theorem rsDecodes_holds : Rows.RsDecodesSaid := rsDecodes.proved
end Go.Proofs.Ytlobaomleocpjaa
