/- A device fails over this seat's program: Crash, at one sector that waits and is not kept. Conditions: each lemma's own. -/
import Derived.Test.YtnhigoffkmfccaaDoorDevWait
namespace Go.Proofs.YtnhigoffkmfccaaDoor.G
open Go.RowKit Go.Shelf Go.ChangeMaps Go.MapKept Go.Proofs.YtnhigoffkmfccaaDoorW.PrintWords Go.Proofs.YtnhigoffkmfccaaDoorW.PrintLast Go.Proofs.YtnhigoffkmfccaaDoorW.PrintMore
set_option linter.unusedVariables false
set_option linter.unusedSimpArgs false
set_option maxRecDepth 100000 in
set_option maxHeartbeats 4000000 in
theorem crash_calls {P : Nat → Prop} {w : World} {g n c i m ck : Nat} {S : Nat → ByteArray} {s : ByteArray} {ak : Addr} (h : DevF P w g n c S (fput (fun _ => none) i (some s))) (hi : i < n) (hm : 1 ≤ m) (hk : w.cell? ak = some (.bool false)) (hm2 : m ≤ 281474976710656) :
    Calls Tryd.prog 24 #[.pointer (some ⟨g, 0, none⟩), .slice (some ak) m ck] w fun e w' => e = .returned (.tuple #[]) ∧ DevF P w' g n c S (fun _ => none) ∧ KeptBut P w w' := by
  have hW := waiting_calls h hi
  have hn := h.dev.n_le
  have hkl : ak.block < w.heap.size := by
    exact World.block_lt_of_cell? w _ hk
  have H := Aside0.mk h
  have HW := Aside0.mk hW
  have HK := Aside0.mk hk
  have HKL := Aside0.mk hkl
  have b1 : (0 : Int) < (m : Int) := by omega
  have b2 : (m : Int) ≤ 281474976710656 := by omega
  clear h hW hk hkl hm hm2
  go_enter Tryd.func24, Tryd.ntmps24
  go_wp2_with (go_at_call 41; refine HW.out.mono ?_; rintro e W1 ⟨gw, cw, rfl, hc, hb⟩; have HB := Aside0.mk hb; have HD := Aside0.mk H.out; have HC := Aside0.mk hc; clear hb hc)
  go_loop [9] (fun v => ∃ q : Nat, q ≤ 1 ∧ v = .int .i64 q) (fun v => 1 - (intOf v).toNat)
  case atStart => exact ⟨0, by omega, rfl⟩
  case round =>
    obtain ⟨q, hq, rfl⟩ := hrel
    rcases (show q = 0 ∨ q = 1 by omega) with rfl | rfl
    · have k1 := HC.out
      have k2 := (HB.out.cell (p := ak) HKL.out).trans HK.out
      go_wp2
      go_round
      case rel => exact ⟨1, by omega, by first | rfl | go_num⟩
      case measure => simp [intOf]
    · have hD := HD.out
      obtain ⟨gs, cap, gm, gb, cur, wr, hX, hq⟩ := hD
      have hX1 := hX.grown HB.out.block
      obtain ⟨c0, c1, c2, c3, c4, c5, z5, cS⟩ := hX1.cells
      obtain ⟨D, ⟨es, cl, hgmB, -⟩, -⟩ := id hX1.2.2.2.1
      have hrc := run_clear (P := Tryd.prog) hgmB 73 0 3 9 Tryd.underlying73
      have HX := Aside0.mk hX1
      have HQ := Aside0.mk hq
      have HGM := Aside0.mk hgmB
      have hne : g ≠ gm := fun e => by have := hX1.1; rw [e, hgmB] at this; cases this
      have b0 : (setBlock W1 gm (.map #[] cl)).heap[g]? = some (.cells #[.slice (some ⟨gs, 0, none⟩) n cap, .map (some gm), .map (some gb), .bool false, .int .i64 (-1), .int .i64 wr] 76 (0, 0)) := (heap_setBlock_other hgmB _ hne).trans hX1.1
      have b3 : ((setBlock W1 gm (.map #[] cl)).setCell ⟨g, 3, none⟩ (.bool false)).heap[g]? = some (.cells #[.slice (some ⟨gs, 0, none⟩) n cap, .map (some gm), .map (some gb), .bool false, .int .i64 (-1), .int .i64 wr] 76 (0, 0)) := (blk_set b0 3 (.bool false)).trans (by rfl)
      have b4 : (((setBlock W1 gm (.map #[] cl)).setCell ⟨g, 3, none⟩ (.bool false)).setCell ⟨g, 4, none⟩ (.int .i64 (-1))).heap[g]? = some (.cells #[.slice (some ⟨gs, 0, none⟩) n cap, .map (some gm), .map (some gb), .bool false, .int .i64 (-1), .int .i64 wr] 76 (0, 0)) := (blk_set b3 4 (.int .i64 (-1))).trans (by rfl)
      have x3 : (setBlock W1 gm (.map #[] cl)).cell? ⟨g, 3, none⟩ = some (.bool false) := by rw [blk_cell b0]; rfl
      have x3f := blk_frozen b0 3
      have x4 : ((setBlock W1 gm (.map #[] cl)).setCell ⟨g, 3, none⟩ (.bool false)).cell? ⟨g, 4, none⟩ = some (.int .i64 (-1)) := by rw [blk_cell b3]; rfl
      have x4f := blk_frozen b3 4
      have B4 := Aside0.mk b4
      have HNE := Aside0.mk hne
      clear hX hX1 hq cS c0 c2 c3 c4 c5 z5 hgmB b0 b3 b4 hne
      go_wp2
      go_end0
      have hX := HX.out
      have keep : ∀ k, k ≠ gm → k ≠ g → (((setBlock W1 gm (.map #[] cl)).setCell ⟨g, 3, none⟩ (.bool false)).setCell ⟨g, 4, none⟩ (.int .i64 (-1))).heap[k]? = W1.heap[k]? := fun k h1 h2 => by
        rw [Below.heap_setCell _ _ _ _ (show k ≠ g from h2), Below.heap_setCell _ _ _ _ (show k ≠ g from h2), heap_setBlock_other HGM.out _ h1]
      obtain ⟨h1, h2, h3, h4, h5, h6, h7, h8, h9, h10⟩ := hX
      have ngs : gs ≠ g := fun e => by rw [← e, h2] at h1; cases h1
      have ngsm : gs ≠ gm := fun e => by rw [e, HGM.out] at h2; cases h2
      have ngb : gb ≠ g := fun e => by obtain ⟨es, cl, q, -⟩ := id h5; rw [e, h1] at q; cases q
      refine ⟨rfl, ⟨gs, cap, gm, gb, cur, wr, ⟨B4.out, (keep gs ngsm ngs).trans h2, h3, ?_, h5.same (keep gb (fun e => h7 e.symm) ngb), fun i hi => rfl, h7, h8, h9, fun i hi => by cases hi⟩, HQ.out⟩, (KeptBut.of_below HB.out).trans ⟨rfl, rfl, rfl, by simp [setBlock, World.setCell], fun k hk hn => keep k (fun e => hn (e ▸ HQ.out.2.1)) (fun e => hn (e ▸ HQ.out.1))⟩⟩
      refine ⟨.map [], ⟨#[], cl, ?_, ⟨Nat.zero_le _, (stamped_iff _ _).2 ⟨by simp, by simp, by simp⟩, by simp⟩, Nat.zero_le _, rfl⟩, Go.Maps.isMap_empty, fun i hi => ⟨rfl, fun s h => by cases h⟩, fun kl hk => by cases hk⟩
      rw [Below.heap_setCell _ _ _ _ (show gm ≠ g from fun e => HNE.out e.symm), Below.heap_setCell _ _ _ _ (show gm ≠ g from fun e => HNE.out e.symm)]
      exact heap_setBlock_same HGM.out _
end Go.Proofs.YtnhigoffkmfccaaDoor.G
