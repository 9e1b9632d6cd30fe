/- EntryBack: for every input the law returns true, and the arguments read as they did: the row, out of the walk and the pure statement. No condition of ours. -/
import Derived.Test.YtgiljibkjccgfabRows
import Derived.Test.YtgiljibkjccgfabGx11
import Derived.Test.YtgiljibkjccgfabPureEntryBack
import Derived.Test.YtgiljibkjccgfabOpen
import Derived.WalkKit
import Derived.ProofKit
import Derived.OpenShut
import Derived.ShutString
import Derived.ChangeOld
import Derived.Below
import Derived.SizedLaws
namespace Go.Proofs.Ytgiljibkjccgfab.entryBack
open Go.ChangeShapes Go.WideShapes Go.ChangeAt Go.RowKit Go.Proofs.YtgiljibkjccgfabO Go.Proofs.Ytgiljibkjccgfab.G
open Go.ChangeMaps (open_string shut_string)
open Go.Proofs.YtgiljibkjccgfabW.PrintWords
set_option linter.unusedVariables false
theorem own : ownKnob Try.prog.godebug = none := by kernel_rfl
theorem laidOut : laidOutB Try.prog = true := by kernel_rfl
set_option maxRecDepth 100000 in
theorem openS40 {H : Type} {enc : TypeId × Value → H} {W : World} {fuel : Nat} {cs : List Value} {y : DataW H × List MemPlace} (h : DataW.trod enc Try.prog W 0 (fun _ => true) true fuel 40 cs = some y) (hf : Fits Try.prog 40 y.1) : ∃ x : S40, k40.K W x cs ∧ ((Lit.int .i64 x.f0).wf = true ∧ (Lit.int .i64 x.f1).wf = true) := by
  obtain ⟨hl, n, hx⟩ := op_fields Try.underlying40 h hf
  rw [show Try.prog.cellsOf 40 = 2 from by kernel_rfl] at hl
  obtain ⟨c0, c1, rfl⟩ : ∃ c0 c1, cs = [c0, c1] := by
    match cs, hl with
    | [c0, c1], _ => exact ⟨c0, c1, rfl⟩
  obtain ⟨z0, h0, f0⟩ := hx 0 _ rfl
  have g0 : DataW.trod enc Try.prog W 0 (fun _ => true) true n 3 (([c0, c1].drop 0).take (Try.prog.cellsOf 3)) = some z0 := h0
  rw [show Try.prog.cellsOf 3 = 1 from by kernel_rfl] at g0
  have e0 : DataW.trod enc Try.prog W 0 (fun _ => true) true n 3 [c0] = some z0 := g0
  have u0 : Fits Try.prog 3 z0.1 := f0
  obtain ⟨x0, k0_, o0⟩ := op_int Try.underlying3 e0
  obtain ⟨z1, h1, f1⟩ := hx 1 _ rfl
  have g1 : DataW.trod enc Try.prog W 0 (fun _ => true) true n 3 (([c0, c1].drop 1).take (Try.prog.cellsOf 3)) = some z1 := h1
  rw [show Try.prog.cellsOf 3 = 1 from by kernel_rfl] at g1
  have e1 : DataW.trod enc Try.prog W 0 (fun _ => true) true n 3 [c1] = some z1 := g1
  have u1 : Fits Try.prog 3 z1.1 := f1
  obtain ⟨x1, k1_, o1⟩ := op_int Try.underlying3 e1
  have K_ : k40.K W ⟨x0, x1⟩ [c0, c1] := by
    show Kd.K _ W _ _
    exact ⟨[c0], [c1], rfl, k0_, k1_⟩
  exact ⟨⟨x0, x1⟩, K_, ⟨o0, o1⟩⟩
set_option maxRecDepth 100000 in
theorem openS42 {H : Type} {enc : TypeId × Value → H} {W : World} {fuel : Nat} {cs : List Value} {y : DataW H × List MemPlace} (h : DataW.trod enc Try.prog W 0 (fun _ => true) true fuel 42 cs = some y) (hf : Fits Try.prog 42 y.1) : ∃ x : S42, k42.K W x cs ∧ ((Lit.int .u8 x.f0).wf = true ∧ ((Lit.int .i64 x.f1.f0).wf = true ∧ (Lit.int .i64 x.f1.f1).wf = true) ∧ (Lit.int .i64 x.f2).wf = true) := by
  obtain ⟨hl, n, hx⟩ := op_fields Try.underlying42 h hf
  rw [show Try.prog.cellsOf 42 = 4 from by kernel_rfl] at hl
  obtain ⟨c0, c1, c2, c3, rfl⟩ : ∃ c0 c1 c2 c3, cs = [c0, c1, c2, c3] := by
    match cs, hl with
    | [c0, c1, c2, c3], _ => exact ⟨c0, c1, c2, c3, rfl⟩
  obtain ⟨z0, h0, f0⟩ := hx 0 _ rfl
  have g0 : DataW.trod enc Try.prog W 0 (fun _ => true) true n 38 (([c0, c1, c2, c3].drop 0).take (Try.prog.cellsOf 38)) = some z0 := h0
  rw [show Try.prog.cellsOf 38 = 1 from by kernel_rfl] at g0
  have e0 : DataW.trod enc Try.prog W 0 (fun _ => true) true n 38 [c0] = some z0 := g0
  have u0 : Fits Try.prog 38 z0.1 := f0
  obtain ⟨x0, k0_, o0⟩ := op_int Try.underlying38 e0
  obtain ⟨z1, h1, f1⟩ := hx 1 _ rfl
  have g1 : DataW.trod enc Try.prog W 0 (fun _ => true) true n 40 (([c0, c1, c2, c3].drop 1).take (Try.prog.cellsOf 40)) = some z1 := h1
  rw [show Try.prog.cellsOf 40 = 2 from by kernel_rfl] at g1
  have e1 : DataW.trod enc Try.prog W 0 (fun _ => true) true n 40 [c1, c2] = some z1 := g1
  have u1 : Fits Try.prog 40 z1.1 := f1
  obtain ⟨x1, k1_, o1⟩ := openS40 e1 u1
  obtain ⟨z2, h2, f2⟩ := hx 2 _ rfl
  have g2 : DataW.trod enc Try.prog W 0 (fun _ => true) true n 3 (([c0, c1, c2, c3].drop 3).take (Try.prog.cellsOf 3)) = some z2 := h2
  rw [show Try.prog.cellsOf 3 = 1 from by kernel_rfl] at g2
  have e2 : DataW.trod enc Try.prog W 0 (fun _ => true) true n 3 [c3] = some z2 := g2
  have u2 : Fits Try.prog 3 z2.1 := f2
  obtain ⟨x2, k2_, o2⟩ := op_int Try.underlying3 e2
  have K_ : k42.K W ⟨x0, x1, x2⟩ [c0, c1, c2, c3] := by
    show Kd.K _ W _ _
    exact ⟨[c0], [c1, c2, c3], rfl, k0_, ⟨[c1, c2], [c3], rfl, k1_, k2_⟩⟩
  exact ⟨⟨x0, x1, x2⟩, K_, ⟨o0, o1, o2⟩⟩
set_option maxRecDepth 100000 in
theorem lifted (os : Os) (started : os.Started) (H : Type) (enc : TypeId × Value → H) :
    ReturnsInHanded {} Try.checked os 9 .any (Rows.entryBackSpec.pre6 enc Try.prog Try.f9 Rows.entryBackRow.domain false) (Rows.entryBackSpec.post enc Try.prog Try.f9 false true false false) := by
  refine returnsInHanded_of_change_sized (C := Try.checked) own started (by kernel_rfl) Try.func9
    (ChangeSpec.witness6 (enc := enc) (C := Try.checked) false ⟨#[], #[.slice none 0 0, .string ByteArray.empty], []⟩ 8 (by kernel_rfl) (by kernel_rfl) (by kernel_rfl) (by kernel_rfl)) ?_
  intro W base args ds gs before hval0 hW hcnd hsz0 _
  have hsz : (DataW.weightsEach Try.prog (Try.f9.params.toList ++ Rows.entryBackSpec.plain.varTypes Try.prog) (ds ++ gs)).all (· ≤ reachBytes) = true := hsz0
  have hval : ∀ (j : Nat) t v, Try.f9.params[j]? = some t → args[j]? = some v → Value.okWide Try.prog W .any base t v := hval0
  have hW' := hW
  obtain ⟨p, q, hA0, hV, rfl, hfz, hnd⟩ := hW
  have hA : DataW.TrodAll enc Try.prog W 0 (fun _ => true) true Try.f9.params.toList args.toList ds p := hA0
  rw [Try.params9] at hA hval hsz
  obtain ⟨v0, vs0, d0, ds0, p0, q0, hargs, rfl, rfl, h0, r0⟩ := trodAll_cons hA
  obtain ⟨v1, vs1, d1, ds1, p1, q1, rfl, rfl, rfl, h1, r1⟩ := trodAll_cons r0
  obtain ⟨rfl, rfl, rfl⟩ := trodAll_nil r1
  obtain rfl : args = #[v0, v1] := by cases args; simp_all
  obtain ⟨rfl, rfl⟩ := trodVars_none hV
  have k0 := h0
  have lt0 : ∀ x ∈ p0, x.block < W.heap.size := by obtain ⟨m, hm⟩ := k0; exact DataW.trod_lt m _ _ _ hm
  have ft0 : Fits Try.prog 50 d0 := (Fits.of hsz (j := 0) rfl rfl)
  obtain ⟨A0, n0, c0, rfl⟩ := okWide_slice Try.underlying50 (hval 0 50 v0 rfl rfl)
  obtain ⟨fu0, hf0⟩ := h0
  have hf0' : DataW.trod enc Try.prog W 0 (fun _ => true) true fu0 50 [.slice A0 n0 c0] = some (d0, p0) := by simpa [Value.cells] using hf0
  obtain ⟨l0, K0, o0, e0⟩ := op_slice (d := k42) (ok := fun x0_ => ((Lit.int .u8 x0_.f0).wf = true ∧ ((Lit.int .i64 x0_.f1.f0).wf = true ∧ (Lit.int .i64 x0_.f1.f1).wf = true) ∧ (Lit.int .i64 x0_.f2).wf = true)) (B := 32) Try.underlying50 (by kernel_rfl) (by kernel_rfl) (fun h_ f_ => openS42 h_ f_) hf0' ft0
  obtain ⟨B0, b0, hv0, hc0, hr0⟩ := K0
  simp only [List.cons.injEq, and_true, Value.slice.injEq] at hv0
  obtain ⟨rfl, rfl, rfl⟩ := hv0
  obtain ⟨a1, rfl, rfl, rfl, y1⟩ := open_string Try.underlying9 (hval 1 9 v1 rfl rfl) h1
  have w1 : a1.size ≤ 140737488351232 := by
    have z := (Fits.of (P := Try.prog) (t := 9) hsz (j := 1) rfl rfl) _ (List.mem_singleton.2 rfl)
    simpa using z
  clear hA0 hval0 hsz0
  obtain ⟨k, hp⟩ := Pure.EntryBack l0 a1 ⟨o0, e0⟩ w1
  refine (G.caulklaw13_EntryBack.calls k _ _ l0 a1 true W hr0 hc0 hp).mono fun e W' ⟨he, bel0⟩ => ?_
  have bel : Below W.heap.size W W' := bel0
  subst he
  exact ⟨_, rfl, _, _, _, [], _, [], hW', trodAll_mk1 (shut_bool Try.underlying4 _), (trodAll_cons_mk (Below.trod laidOut (by kernel_rfl) (of_decide_eq_true (by kernel_rfl)) k0 bel lt0) (trodAll_cons_mk (shut_string Try.underlying9 y1) trodAll_mk0)), rfl, bel.frame _, fun h => by cases h⟩
theorem over : Rows.entryBackRow.holds Try.pinned (OpenSpec.ofChange Rows.entryBackSpec) :=
  OpenClaim.holds_of_wide 9 Try.f9 rfl rfl rfl rfl rfl rfl rfl ⟨rfl, rfl, rfl, rfl, rfl⟩ rfl rfl rfl rfl rfl (by kernel_rfl) Try.func9 (by kernel_rfl)
    (of_decide_eq_true (by kernel_rfl)) (by unfold Func.isWrapper; first | (rw [if_pos (by decide +kernel)]; kernel_rfl) | (rw [if_neg (by decide +kernel)]; exact ⟨rfl, rfl⟩))
    (fun os started H enc _ => lifted os started H enc)
theorem proved : Rows.EntryBackSaid := over
#print axioms proved
end Go.Proofs.Ytgiljibkjccgfab.entryBack
namespace Go.Proofs.Ytgiljibkjccgfab
/-- The row, under a short name, for the claim. -/
theorem entryBack_holds : Rows.EntryBackSaid := entryBack.proved
end Go.Proofs.Ytgiljibkjccgfab
