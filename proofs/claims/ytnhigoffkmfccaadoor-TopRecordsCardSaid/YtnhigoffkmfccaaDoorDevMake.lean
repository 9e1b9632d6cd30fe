/- dev.New over this seat's program. Conditions: each lemma's own. -/
import Derived.Test.YtnhigoffkmfccaaDoorDevRep
namespace Go.Proofs.YtnhigoffkmfccaaDoor.G
open Go.RowKit Go.ChangeMaps Go.MapKept Go.Proofs.YtnhigoffkmfccaaDoorW.PrintWords Go.Proofs.YtnhigoffkmfccaaDoorW.PrintLast Go.Proofs.YtnhigoffkmfccaaDoorW.PrintMore
set_option linter.unusedVariables false
set_option linter.unusedSimpArgs false

/-- A sector of noughts. -/
def blank512 : ByteArray := strOfNums (List.replicate 512 0)
theorem zero59 : Tryd.zeroCells59 = (List.replicate 512 (Value.int .u8 0)).toArray := by kernel_rfl
theorem rep512 (i : Nat) (hi : i < 512) : (List.replicate 512 (Value.int .u8 0)).toArray[i]? = some (.int .u8 ((List.replicate 512 (0 : Int)).getD i 0)) := by
  generalize 512 = n at *
  rw [List.getElem?_toArray, List.getElem?_replicate, if_pos hi, List.getD_eq_getElem?_getD, List.getElem?_replicate, if_pos hi]
  rfl
theorem blank_conv {W : World} {g : Nat} (h : W.heap[g]? = some (.cells Tryd.zeroCells59 59 (0, 0))) : (convert 53 9 (.slice (some ⟨g, 0, none⟩) 512 512)).run Tryd.prog W = .ok (.string blank512) W := by
  refine run_convert_bytes_arg W 53 5 Tryd.underlying53 Tryd.underlying5 g 0 512 512 (List.replicate 512 0) List.length_replicate (fun i hi => ?_) 9 Tryd.underlying9
  rw [blk_cell h, zero59, Nat.zero_add]
  exact rep512 i hi
theorem strOfNums_size (l : List Int) : (strOfNums l).size = l.length := by
  unfold strOfNums
  simp [ByteArray.size]
theorem blank512_size : blank512.size = 512 := by
  unfold blank512
  rw [strOfNums_size, List.length_replicate]
theorem new_dev {B : Nat} {w2 : World} {gs n : Nat} (hb : w2.heap[gs]? = some (.cells (repC blank512 n n) 9 (0, 0))) (hgs : B ≤ gs) (hB : B ≤ w2.heap.size) (h2 : n ≤ 32768) :
    Dev (fun k => B ≤ k) (((w2.alloc (.map #[] 0)).alloc (.map #[] 0)).alloc (.cells #[.slice (some ⟨gs, 0, none⟩) n n, .map (some w2.heap.size), .map (some (w2.heap.size + 1)), .bool false, .int .i64 (-1), .int .i64 0] 76)) (w2.heap.size + 2) n 0 (fun _ => blank512) := by
  have hg := blk_lt hb
  have m1 : (w2.alloc (.map #[] 0)).heap[w2.heap.size]? = some (.map #[] 0) := blk_new w2 _
  have m2 : ((w2.alloc (.map #[] 0)).alloc (.map #[] 0)).heap[w2.heap.size + 1]? = some (.map #[] 0) := by
    have := blk_new (w2.alloc (.map #[] 0)) (.map #[] 0)
    rwa [World.size_alloc] at this
  have m3 : (((w2.alloc (.map #[] 0)).alloc (.map #[] 0)).alloc (.cells #[.slice (some ⟨gs, 0, none⟩) n n, .map (some w2.heap.size), .map (some (w2.heap.size + 1)), .bool false, .int .i64 (-1), .int .i64 0] 76)).heap[w2.heap.size + 2]? = some (.cells #[.slice (some ⟨gs, 0, none⟩) n n, .map (some w2.heap.size), .map (some (w2.heap.size + 1)), .bool false, .int .i64 (-1), .int .i64 0] 76 (0, 0)) := by
    have := blk_new ((w2.alloc (.map #[] 0)).alloc (.map #[] 0)) (.cells #[.slice (some ⟨gs, 0, none⟩) n n, .map (some w2.heap.size), .map (some (w2.heap.size + 1)), .bool false, .int .i64 (-1), .int .i64 0] 76)
    rwa [World.size_alloc, World.size_alloc] at this
  have o1 : MapS (w2.alloc (.map #[] 0)) w2.heap.size 0 (fun _ => none) := ⟨.map [], World.ownsMap_made w2 _ _ _, Go.Maps.isMap_empty, fun i hi => ⟨rfl, fun s h => by cases h⟩, fun kl hk => by cases hk⟩
  have o2 : MapB ((w2.alloc (.map #[] 0)).alloc (.map #[] 0)) (w2.heap.size + 1) := by
    have := World.ownsMap_made (H := Unit) (w2.alloc (.map #[] 0)) Tryd.prog 3 (plainElem Tryd.prog 4)
    rwa [World.size_alloc] at this
  refine ⟨gs, n, w2.heap.size, w2.heap.size + 1, repC blank512 n n, fun _ => blank512, fun _ => none, 0, ⟨m3, blk_alloc (blk_alloc (blk_alloc hb _) _) _, fun i hi => repC_get _ hi, ?_, ?_, fun i hi => rfl, by omega, Nat.le_refl _, h2, fun i hi => by cases hi⟩, by omega, hB, hgs, by omega⟩
  · exact o1.same ((blk_alloc (blk_alloc m1 _) _).trans m1.symm)
  · exact o2.same ((blk_alloc m2 _).trans m2.symm)
set_option maxRecDepth 100000 in
set_option maxHeartbeats 4000000 in
theorem new_calls {w : World} {n : Nat} (h1 : 1 ≤ n) (h2 : n ≤ 32768) :
    Calls Tryd.prog 8 #[.int .i64 n] w fun e w' => ∃ g, e = .returned (.tuple #[.pointer (some ⟨g, 0, none⟩), .int .i64 0]) ∧ Dev (fun k => w.heap.size ≤ k) w' g n 0 (fun _ => blank512) ∧ Below w.heap.size w w' := by
  have b1 : ¬ ((n : Int) < 1) := by omega
  have b2 : ¬ ((n : Int) > 32768) := by omega
  have hcv := fun W : World => blank_conv (blk_new W (.cells Tryd.zeroCells59 59))
  have hx : ∀ W : World, ((W.alloc (.cells #[.string blank512] 9)).cell? ⟨W.heap.size, 0, none⟩ = some (.string blank512)) := fun W => by
    rw [blk_cell (blk_new W (.cells #[.string blank512] 9))]; rfl
  have HO := Aside0.mk of_calls
  obtain ⟨bl, hbl⟩ : ∃ b, b = blank512 := ⟨_, rfl⟩
  have HBL := Aside0.mk hbl
  have HB1 := Aside0.mk (below_alloc (below_alloc (Below.refl w.heap.size w) (.cells Tryd.zeroCells59 59)) (.cells #[.string bl] 9))
  have H2 := Aside0.mk h2
  have hr0 := repeat_calls (cx := 1) (hx (w.alloc (.cells Tryd.zeroCells59 59))) h1 h2
  rw [World.size_alloc w, ← hbl] at hr0
  have HR := Aside0.mk hr0
  rw [← hbl] at hcv
  clear hx h1 h2 hbl hr0
  go_enter Tryd.func8, Tryd.ntmps8
  go_wp2_with (first
    | (go_at_call 28; (with_reducible refine HR.out.mono ?_); rintro e w2 ⟨gs, hgs, rfl, hb, hB⟩; have HB2 := Aside0.mk hb; have HG2 := Aside0.mk hgs; have HW2 := Aside0.mk (HB1.out.trans (hB.mono (by simp; omega))); clear hb hB hgs)
    | (go_at_call 27; refine (HO.out _ _ _ _).mono ?_; rintro e w3 ⟨rfl, rfl⟩))
  go_ret2
  exact ⟨_, rfl, new_dev (HBL.out ▸ HB2.out) (Nat.le_trans HB1.out.size HG2.out) HW2.out.size H2.out, ((HW2.out.alloc HW2.out.size _).alloc (by have := HW2.out.size; simp; omega) _).alloc (by have := HW2.out.size; simp; omega) _⟩
end Go.Proofs.YtnhigoffkmfccaaDoor.G
