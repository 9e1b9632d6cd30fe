/- The walk of caulklaw01.CrcTogether over this seat's program. Conditions: the sizes; the table's cells. -/
import Derived.Test.YtgiljibkjccgfacDoorCrcBytes
import Derived.Test.YtgiljibkjccgfacDoorGx1
import Derived.Lib.ConvBytes
import Derived.StillTailTactics
import Derived.Laws.MakeOwn
import Derived.Deep.RegionHeld3
namespace Go.Proofs.YtgiljibkjccgfacDoor.G
open Go.RowKit Go.Proofs.YtgiljibkjccgfacDoorW.PrintWords Go.Proofs.YtgiljibkjccgfacDoorW.PrintLast Go.Proofs.YtgiljibkjccgfacDoorW.PrintMore
set_option linter.unusedVariables false
set_option linter.unusedSimpArgs false

theorem min3_run {P : Program} (ts : Array TypeId) (t : TypeId) (x y z : Int) (W : World) : (Builtin.min_ ts t #[.int .i64 x, .int .i64 y, .int .i64 z]).run P W = .ok (.int .i64 (min (min x y) z)) W := by
  have e1 : (if y < x then y else x) = min x y := by omega
  have e2 : (if z < min x y then z else min x y) = min (min x y) z := by omega
  simp [Builtin.min_, Builtin.min2, List.foldlM, go_sem, e1, e2]
def tN (a b : ByteArray) : Nat := min (min a.size b.size) 16384
def Row8 (g : Nat) (xs : List Int) (w : World) : Prop := ∀ j, j < xs.length → w.cell? ⟨g, j, none⟩ = some (.int .u8 (xs.getD j 0)) ∧ w.frozen? ⟨g, j, none⟩ = false
theorem Row8.drew {g : Nat} {xs : List Int} {w : World} (h : Row8 g xs w) : Row8 g xs w.drew := h
def byteAt (s : ByteArray) (i : Nat) : Int := (bytesOf s).getD i 0
theorem byteAt_get (s : ByteArray) (k : Nat) (h : k < s.size) : ((s[k].toNat : Nat) : Int) = byteAt s k := by
  have h' : k < s.data.toList.length := by rw [data_length]; exact h
  simp [byteAt, bytesOf, List.getD_eq_getElem?_getD, List.getElem?_eq_getElem h']
  rfl
def bothL (a b : ByteArray) (k : Nat) : List Int := (List.range (tN a b)).map fun j => if j < k then Go.bits .xor .u8 (byteAt a j) (byteAt b j) else 0
theorem bothL_length (a b : ByteArray) (k : Nat) : (bothL a b k).length = tN a b := by simp [bothL]
theorem Row8.step {a b : ByteArray} {g k : Nat} {w : World} (h : Row8 g (bothL a b k) w) (hk : k < tN a b) {v : Int} (hv : v = Go.bits .xor .u8 (byteAt a k) (byteAt b k)) : Row8 g (bothL a b (k + 1)) (w.setCell ⟨g, k, none⟩ (.int .u8 v)) := by
  intro j hj
  rw [bothL_length] at hj
  obtain ⟨c, f⟩ := h j (by rw [bothL_length]; exact hj)
  refine ⟨?_, by rw [World.frozen?_setCell]; exact f⟩
  by_cases e : j = k
  · subst e
    rw [World.cell?_setCell_same _ _ _ c, hv]
    simp [bothL, List.getD_eq_getElem?_getD, hj]
  · rw [World.cell?_setCell_other _ _ _ _ (by intro h'; injection h' with _ h''; exact e h''.symm), c]
    simp only [bothL, List.getD_eq_getElem?_getD, List.getElem?_map, List.getElem?_range hj, Option.map_some, Option.getD_some]
    by_cases h1 : j < k
    · rw [if_pos h1, if_pos (by omega)]
    · rw [if_neg h1, if_neg (by omega)]

def togV (a b : ByteArray) : Bool :=
  (Go.bits .xor .u32 (Go.bits .xor .u32 (Go.bits .xor .u32 (crcSum (a.extract 0 (tN a b))) (crcSum (b.extract 0 (tN a b)))) (crcSum (strOfNums (bothL a b (tN a b))))) (crcSum (strOfNums (List.replicate (tN a b) 0))) == 0)
/-- What stays so through the last region. -/
structure TS (w : World) (g : Nat) (xs : List Int) (W : World) : Prop where
  gt : GT W
  row : Row8 g xs W
  bel : Below w.heap.size w W
  gl : g < W.heap.size
  wl : w.heap.size ≤ W.heap.size
theorem TS.drew {w : World} {g : Nat} {xs : List Int} {W : World} (h : TS w g xs W) : TS w g xs W.drew := ⟨h.gt.drew, h.row.drew, h.bel.drew, h.gl, h.wl⟩
theorem TS.drewN {w : World} {g : Nat} {xs : List Int} {W : World} (h : TS w g xs W) (m : Nat) : TS w g xs (W.drewN m) := ⟨h.gt.drewN, h.row, pw_below_drewN h.bel m, h.gl, h.wl⟩
theorem TS.alloc {w : World} {g : Nat} {xs : List Int} {W : World} (h : TS w g xs W) (o : Obj) : TS w g xs (W.alloc o) := by
  refine ⟨h.gt.below (below_alloc (Below.refl _ _) o), fun j hj => ?_, below_alloc h.bel o, by simp; have := h.gl; omega, by simp; have := h.wl; omega⟩
  obtain ⟨c, f⟩ := h.row j hj
  have hb : (W.alloc o).heap[g]? = W.heap[g]? := Below.heap_alloc W o g h.gl
  exact ⟨(World.cell?_of_block (a := ⟨g, j, none⟩) hb).trans c, (World.frozen?_of_block (a := ⟨g, j, none⟩) hb).trans f⟩
theorem TS.conv {w : World} {g : Nat} {xs : List Int} {W : World} (h : TS w g xs W) (n : Nat) (hn : xs.length = n) : (convert 23 9 (.slice (some ⟨g, 0, none⟩) n n)).run Tryd.prog W = .ok (.string (strOfNums xs)) W := by
  refine run_convert_bytes_arg W 23 5 Tryd.underlying23 Tryd.underlying5 g 0 n n xs hn (fun i hi => ?_) 9 Tryd.underlying9
  rw [Nat.zero_add]
  exact (h.row i (by omega)).1
theorem zeros_conv {W : World} {g n : Nat} (h : W.heap[g]? = some (.cells (madeCells #[.int .u8 0] n) 5 (0, 0))) : (convert 23 9 (.slice (some ⟨g, 0, none⟩) n n)).run Tryd.prog W = .ok (.string (strOfNums (List.replicate n 0))) W := by
  refine run_convert_bytes_arg W 23 5 Tryd.underlying23 Tryd.underlying5 g 0 n n (List.replicate n 0) (by simp) (fun i hi => ?_) 9 Tryd.underlying9
  rw [Nat.zero_add]
  simp [World.cell?, h, madeCells, hi, List.getD_eq_getElem?_getD, Nat.mod_one]

set_option maxHeartbeats 4000000 in
set_option maxRecDepth 100000 in
theorem together_walk (a b : ByteArray) (ha : a.size ≤ 140737488355328) (hb : b.size ≤ 140737488355328) (hl : caulklaw01_lives.f = some true) (w : World) (hG : GT w) :
    Calls Tryd.prog 3 #[.string a, .string b] w fun e w' => e = .returned (.bool (togV a b)) ∧ Below w.heap.size w w' := by
  have HG := Aside0.mk hG
  have LV := Aside0.mk hl
  clear hG hl
  obtain ⟨n, hn⟩ : ∃ n, n = tN a b := ⟨_, rfl⟩
  have hn1 : n ≤ 16384 := by unfold tN at hn; omega
  have hna : n ≤ a.size := by unfold tN at hn; omega
  have hnb : n ≤ b.size := by unfold tN at hn; omega
  have mn : ∀ W : World, (Builtin.min_ #[3, 3, 3] 3 #[.int .i64 (a.size : Int), .int .i64 (b.size : Int), .int .i64 16384]).run Tryd.prog W = .ok (.int .i64 (n : Int)) W := fun W => by
    rw [min3_run]
    have : min (min (a.size : Int) (b.size : Int)) 16384 = (n : Int) := by rw [hn]; unfold tN; omega
    rw [this]
  have mk := print_make_of (P := Tryd.prog) 23 5 (.int .u8 0) 1 Tryd.underlying23 (by kernel_rfl) rfl (by decide) n (by omega)
  have HN := Aside0.mk hn
  clear hn
  go_enter Tryd.func3, Tryd.ntmps3
  go_wp2_with (go_at_call 5; (with_reducible refine (caulklaw01_lives.calls true _ ?side1 LV.out).mono ?_); (case side1 => repeat (first | exact HG.out | apply GT.drewN | apply GT.drew)); rintro e w1 ⟨rfl, hb1⟩)
  have start : Row8 w1.heap.size (bothL a b 0) (w1.alloc (.cells (madeCells #[.int .u8 0] n) 5)) := by
    intro j hj
    rw [bothL_length, ← HN.out] at hj
    have own := own_made_of (d := (0 : Int)) (enc := Value.int .u8) w1 w1.heap.size 5 n (Nat.le_refl _) (by omega)
    have h2 := own_at_of (d := (0 : Int)) own (j : Int) (by omega) (by omega)
    simp only [Int.toNat_natCast] at h2
    refine ⟨h2.1.trans ?_, h2.2⟩
    have hj' : j < tN a b := by rw [← HN.out]; exact hj
    have e1 : (bothL a b 0).getD j 0 = 0 := by simp [bothL, List.getD_eq_getElem?_getD, hj']
    rw [e1]
    unfold rdOf
    simp [List.getD_eq_getElem?_getD, hj]
  have hbw : Below w.heap.size w (w1.alloc (.cells (madeCells #[.int .u8 0] n) 5)) := below_alloc hb1 _
  have START := Aside0.mk start
  have HBW := Aside0.mk hbw
  have hgw : w.heap.size ≤ w1.heap.size := hb1.size
  clear start hbw mk mn
  go_loopw [19] (fun i wr => ∃ k : Nat, k ≤ n ∧ i = .int .i64 k ∧ Row8 w1.heap.size (bothL a b k) wr ∧ Below w.heap.size w wr ∧ w1.heap.size < wr.heap.size) (fun i _ => n - (intOf i).toNat)
  case atStart => exact ⟨0, by omega, rfl, START.out, HBW.out, by simp⟩
  case round =>
    obtain ⟨k, hk, rfl, hrow, hbel, hgl⟩ := hrel
    have HGL := Aside0.mk hgl
    clear hgl
    have HR := Aside0.mk hrow
    have HB := Aside0.mk hbel
    clear hrow hbel
    by_cases hlt : k < n
    · have c1 : decide ((k : Int) < (n : Int)) = true := decide_eq_true (by omega)
      have c3 : k < a.size := by omega
      have c4 : k < b.size := by omega
      have c5 : (k : Int) < a.size := by omega
      have c6 : (k : Int) < b.size := by omega
      have hcell := HR.out k (by rw [bothL_length, ← HN.out]; exact hlt)
      have d9 : wr.drew.cell? ⟨w1.heap.size, k, none⟩ = some (.int .u8 ((bothL a b k).getD k 0)) := hcell.1
      have d10 : wr.drew.frozen? ⟨w1.heap.size, k, none⟩ = false := hcell.2
      clear hcell
      go_wp2
      go_still_tail 10, (by kernel_rfl)
      change wpList _ _ _ _ _ wr.drew
      go_wp2
      refine ⟨⟨k + 1, by omega, by go_num, ?_, (Below.setCell HB.out (p := ⟨w1.heap.size, k, none⟩) (by omega) _).drew, by have := HGL.out; simpa [World.setCell, World.drew] using this⟩, by simp [intOf]; omega⟩
      exact (Row8.step HR.out (by rw [← HN.out]; exact hlt) (by rw [byteAt_get a k c3, byteAt_get b k c4])).drew
    · have c1 : decide ((k : Int) < (n : Int)) = false := decide_eq_false (by omega)
      obtain rfl : k = n := by omega
      have ts0 : TS w w1.heap.size (bothL a b k) wr := ⟨HG.out.below HB.out, HR.out, HB.out, HGL.out, HB.out.size⟩
      have mk := print_make_of (P := Tryd.prog) 23 5 (.int .u8 0) 1 Tryd.underlying23 (by kernel_rfl) rfl (by decide) k (by omega)
      have hcv := fun W (h : TS w w1.heap.size (bothL a b k) W) => h.conv k (by rw [bothL_length]; exact HN.out.symm)
      have c5 : (k : Int) ≤ a.size := by omega
      have c6 : (k : Int) ≤ b.size := by omega
      have blk0 : ∀ m : Nat, ((wr.drewN m).alloc (.cells (madeCells #[.int .u8 0] k) 5)).heap[wr.heap.size]? = some (.cells (madeCells #[.int .u8 0] k) 5 (0, 0)) := fun m => World.alloc_heap_new (wr.drewN m) _
      have cv2 : ∀ m : Nat, (convert 23 9 (.slice (some ⟨wr.heap.size, 0, none⟩) k k)).run Tryd.prog ((wr.drewN m).alloc (.cells (madeCells #[.int .u8 0] k) 5)) = .ok (.string (strOfNums (List.replicate k 0))) ((wr.drewN m).alloc (.cells (madeCells #[.int .u8 0] k) 5)) := fun m => zeros_conv (blk0 m)
      have cv3 : ∀ m m' : Nat, (convert 23 9 (.slice (some ⟨wr.heap.size, 0, none⟩) k k)).run Tryd.prog (((wr.drewN m).alloc (.cells (madeCells #[.int .u8 0] k) 5)).drewN m') = .ok (.string (strOfNums (List.replicate k 0))) (((wr.drewN m).alloc (.cells (madeCells #[.int .u8 0] k) 5)).drewN m') := fun m m' => zeros_conv (blk0 m)
      have cv4 : ∀ m : Nat, (convert 23 9 (.slice (some ⟨wr.heap.size, 0, none⟩) k k)).run Tryd.prog ((wr.alloc (.cells (madeCells #[.int .u8 0] k) 5)).drewN m) = .ok (.string (strOfNums (List.replicate k 0))) ((wr.alloc (.cells (madeCells #[.int .u8 0] k) 5)).drewN m) := fun m => zeros_conv (World.alloc_heap_new wr _)
      have cv5 : (convert 23 9 (.slice (some ⟨wr.heap.size, 0, none⟩) k k)).run Tryd.prog ((wr.alloc (.cells (madeCells #[.int .u8 0] k) 5)).drew) = .ok (.string (strOfNums (List.replicate k 0))) ((wr.alloc (.cells (madeCells #[.int .u8 0] k) 5)).drew) := zeros_conv (World.alloc_heap_new wr _)
      clear blk0
      have hsA : (a.extract 0 k).size ≤ 140737488355328 := by simp [ByteArray.size_extract]; omega
      have hsB : (b.extract 0 k).size ≤ 140737488355328 := by simp [ByteArray.size_extract]; omega
      have hsC : (strOfNums (bothL a b k)).size ≤ 140737488355328 := by rw [strOfNums_size, bothL_length, ← HN.out]; omega
      have hsD : (strOfNums (List.replicate k 0)).size ≤ 140737488355328 := by rw [strOfNums_size, List.length_replicate]; omega
      go_wp2
      go_region_held (fun w' => TS w w1.heap.size (bothL a b k) w' ∧ (convert 23 9 (.slice (some ⟨w1.heap.size, 0, none⟩) k k)).run Tryd.prog w' = .ok (.string (strOfNums (bothL a b k))) w')
        ((refine ⟨?_, hcv _ ?_⟩ <;> (repeat (first | assumption | apply TS.drewN | apply TS.drew | apply TS.alloc))))
        (first | (go_at_call 6; refine (crcSum_calls _ ?hs _ ?hG).mono ?_; (case hs => assumption); (case hG => exact TS.gt (by repeat (first | assumption | apply TS.drewN | apply TS.drew | apply TS.alloc))); rintro e w' ⟨rfl, ⟨nd, rfl⟩⟩))
      all_goals go_wp2
      all_goals go_ret
      all_goals (refine ⟨?_, (by repeat (first | exact ts0.bel | apply pw_below_drewN | apply below_drew1 | apply below_alloc))⟩; unfold togV; rw [← HN.out]; rfl)
def caulklaw01_CrcTogether.f (a b : ByteArray) : Option Bool := if a.size ≤ 140737488355328 ∧ b.size ≤ 140737488355328 ∧ caulklaw01_lives.f = some true then some (togV a b) else none
theorem caulklaw01_CrcTogether.calls (a b : ByteArray) (r : Bool) (w : World) (hG : GT w) (h : caulklaw01_CrcTogether.f a b = some r) :
    Calls Tryd.prog 3 #[.string a, .string b] w fun e w' => e = .returned (.bool r) ∧ Below w.heap.size w w' := by
  unfold caulklaw01_CrcTogether.f at h
  by_cases hc : a.size ≤ 140737488355328 ∧ b.size ≤ 140737488355328 ∧ caulklaw01_lives.f = some true
  · rw [if_pos hc] at h
    obtain rfl := Option.some.inj h
    exact together_walk a b hc.1 hc.2.1 hc.2.2 w hG
  · rw [if_neg hc] at h; cases h
def caulklaw01_CrcTogether.Pure : Prop := ∀ (a0 : ByteArray) (a1 : ByteArray), a0.size ≤ 140737488351232 → a1.size ≤ 140737488351232 → caulklaw01_CrcTogether.f a0 a1 = some true
end Go.Proofs.YtgiljibkjccgfacDoor.G
