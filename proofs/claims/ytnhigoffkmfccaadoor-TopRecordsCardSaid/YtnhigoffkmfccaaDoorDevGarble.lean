/- A device's sector is garbled, over this seat's program. Conditions: each lemma's own. -/
import Derived.Test.YtnhigoffkmfccaaDoorDevFlush
import Derived.Lib.ConvBytes
import Derived.Laws.MakeOwn
namespace Go.Proofs.YtnhigoffkmfccaaDoor.G
open Go.RowKit Go.Shelf Go.ChangeMaps Go.MapKept Go.Proofs.YtnhigoffkmfccaaDoorW.PrintWords Go.Proofs.YtnhigoffkmfccaaDoorW.PrintLast Go.Proofs.YtnhigoffkmfccaaDoorW.PrintMore
set_option linter.unusedVariables false
set_option linter.unusedSimpArgs false
def Row8 (g : Nat) (xs : List Int) (w : World) : Prop := ∀ j, j < xs.length → w.cell? ⟨g, j, none⟩ = some (.int .u8 (xs.getD j 0)) ∧ w.frozen? ⟨g, j, none⟩ = false
theorem Row8.drew {g : Nat} {xs : List Int} {w : World} (h : Row8 g xs w) : Row8 g xs w.drew := h
theorem Row8.drewN {g : Nat} {xs : List Int} {w : World} (h : Row8 g xs w) (m : Nat) : Row8 g xs (w.drewN m) := h
theorem Row8.alloc {g : Nat} {xs : List Int} {w : World} (h : Row8 g xs w) (hg : g < w.heap.size) (o : Obj) : Row8 g xs (w.alloc o) := by
  intro j hj
  obtain ⟨c, f⟩ := h j hj
  have hb : (w.alloc o).heap[g]? = w.heap[g]? := Below.heap_alloc w o g hg
  exact ⟨(World.cell?_of_block (a := ⟨g, j, none⟩) hb).trans c, (World.frozen?_of_block (a := ⟨g, j, none⟩) hb).trans f⟩
theorem Row8.below {g : Nat} {xs : List Int} {w w1 : World} (h : Row8 g xs w) (hg : g < w.heap.size) (hb : Below w.heap.size w w1) : Row8 g xs w1 := by
  intro j hj
  obtain ⟨c, f⟩ := h j hj
  exact ⟨(hb.cell (p := ⟨g, j, none⟩) hg).trans c, (hb.frozen (p := ⟨g, j, none⟩) hg).trans f⟩
theorem Row8.far {g g2 : Nat} {xs : List Int} {w : World} (h : Row8 g xs w) (hg : g ≠ g2) (i : Nat) (v : Value) : Row8 g xs (w.setCell ⟨g2, i, none⟩ v) := by
  intro j hj
  obtain ⟨c, f⟩ := h j hj
  exact ⟨by rw [World.cell?_setCell_other _ _ _ _ (by intro h'; injection h' with h''; exact hg h''.symm)]; exact c, by rw [World.frozen?_setCell]; exact f⟩
theorem Row8.conv {g : Nat} {xs : List Int} {W : World} (h : Row8 g xs W) (n c : Nat) (hn : xs.length = n) : (convert 53 9 (.slice (some ⟨g, 0, none⟩) n c)).run Tryd.prog W = .ok (.string (strOfNums xs)) W := by
  refine run_convert_bytes_arg W 53 5 Tryd.underlying53 Tryd.underlying5 g 0 n c xs hn (fun i hi => ?_) 9 Tryd.underlying9
  rw [Nat.zero_add]
  exact (h i (by omega)).1
theorem Row8.bytes (W : World) (s : ByteArray) : Row8 W.heap.size (bytesOf s) (Lib.bytesWorld W 5 s) := by
  intro j hj
  rw [bytesOf_length] at hj
  refine ⟨?_, ?_⟩
  · rw [Lib.bytesWorld_cell W 5 s j hj]
    have h' : j < s.data.toList.length := by rw [data_length]; exact hj
    simp [bytesOf, List.getD_eq_getElem?_getD, List.getElem?_eq_getElem h']
  · have hn := Lib.bytesWorld_at_new W 5 s
    have hsz : s.size ≤ (Lib.bytesCells W 5 s).size := by simp [Lib.bytesCells]
    simp [World.frozen?, hn]
    omega
theorem Row8.put {g : Nat} {xs : List Int} {w : World} (h : Row8 g xs w) (i : Nat) (hi : i < xs.length) (v : Int) : Row8 g (xs.set i v) (w.setCell ⟨g, i, none⟩ (.int .u8 v)) := by
  intro j hj
  rw [List.length_set] at hj
  obtain ⟨c, f⟩ := h j hj
  refine ⟨?_, by rw [World.frozen?_setCell]; exact f⟩
  by_cases e : j = i
  · subst e
    rw [World.cell?_setCell_same _ _ _ c]
    simp [List.getD_eq_getElem?_getD, hj]
  · rw [World.cell?_setCell_other _ _ _ _ (by intro h'; injection h' with _ h''; exact e h''.symm), c]
    simp only [List.getD_eq_getElem?_getD]
    rw [List.getElem?_set_ne (by omega)]
/-- The bytes, q of which were turned. -/
def garL (xs : List Int) (off : Nat) (y : Int) : Nat → List Int
  | 0 => xs
  | q + 1 => (garL xs off y q).set (off + q) (Go.bits .xor .u8 ((garL xs off y q).getD (off + q) 0) (IntKind.u8.wrap (y / 2 ^ (8 * (q : Int)).toNat)))
theorem garL_len (xs : List Int) (off : Nat) (y : Int) (q : Nat) : (garL xs off y q).length = xs.length := by
  induction q with
  | zero => rfl
  | succ q ih => rw [garL, List.length_set, ih]
def garS (s : ByteArray) (off : Nat) (y : Int) : ByteArray := strOfNums (garL (bytesOf s) off y 4)
set_option maxRecDepth 100000 in
set_option maxHeartbeats 4000000 in
theorem garble_out {P : Nat → Prop} {w : World} {g n c i : Nat} {f : Nat → ByteArray} (h : Dev P w g n c f) (hi : i < n) (off y : Int) (ho : off < 0 ∨ 508 < off) :
    Calls Tryd.prog 21 #[.pointer (some ⟨g, 0, none⟩), .int .i64 i, .int .i64 off, .int .u32 y] w fun e w' => e = .returned (.int .i64 1) ∧ w' = w := by
  obtain ⟨gs, cap, gm, gb, cur, S, F, wr, hX, hq⟩ := h
  obtain ⟨c0, c1, c2, c3, c4, c5, z5, cS⟩ := hX.cells
  have HH := Aside0.mk (has_calls c0 hi)
  clear hX cS hi c0 c1 c2 c3 c4 c5 z5 hq
  by_cases h1 : off < 0
  all_goals
    (first | (have h2 : off > 508 := by omega) | skip)
    clear ho
    go_enter Tryd.func21, Tryd.ntmps21
    go_wp2_with (go_at_call 40; (with_reducible refine HH.out.mono ?_); rintro e w1 ⟨rfl, hww⟩; obtain rfl := hww)
    go_ret
    exact ⟨rfl, rfl⟩
set_option maxRecDepth 100000 in
set_option maxHeartbeats 4000000 in
theorem garble_calls {P : Nat → Prop} {w : World} {g n c i off : Nat} {S : Nat → ByteArray} (h : DevF P w g n c S (fun _ => none)) (hi : i < n) (y : Int) (ho : off ≤ 508) (hs : (S i).size = 512) (hy : 0 ≤ y ∧ y < 4294967296) :
    Calls Tryd.prog 21 #[.pointer (some ⟨g, 0, none⟩), .int .i64 i, .int .i64 off, .int .u32 y] w fun e w' => e = .returned (.int .i64 0) ∧ DevF P w' g n c (fput S i (garS (S i) off y)) (fun _ => none) ∧ KeptBut P w w' := by
  obtain ⟨gs, cap, gm, gb, cur, wr', hX, hq⟩ := h
  obtain ⟨c0, c1, c2, c3, c4, c5, z5, cS⟩ := hX.cells
  have HH := Aside0.mk (has_calls c0 hi)
  obtain ⟨s, hsn⟩ : ∃ s, s = S i := ⟨_, rfl⟩
  have cI := cS i hi
  rw [← hsn] at cI hs
  have HSN := Aside0.mk hsn
  have hn : n ≤ 32768 := hX.2.2.2.2.2.2.2.2.1
  have kb := print_bytes (P := Tryd.prog) 9 53 5 Tryd.underlying9 Tryd.underlying53 Tryd.underlying5 s w
  have hrow := Row8.bytes w s
  have hbel := bytes_below (Below.refl w.heap.size w) (Nat.le_refl _) 5 s
  have hsz : (Lib.bytesWorld w 5 s).heap.size = w.heap.size + 1 := Lib.bytesWorld_size _ _ _
  have b1 : (i : Int) < (n : Int) := by omega
  have b2 : ¬ ((i : Int) < 0) := by omega
  have b3 : ¬ ((off : Int) < 0) := by omega
  have b4 : ¬ ((off : Int) > 508) := by omega
  have HX := Aside0.mk hX
  have HQ := Aside0.mk hq
  have HROW := Aside0.mk (show Row8 w.heap.size (garL (bytesOf s) off y 0) (Lib.bytesWorld w 5 s) from hrow)
  have HBL := Aside0.mk hbel
  have HSZ := Aside0.mk hsz
  have HS := Aside0.mk hs
  have HO := Aside0.mk ho
  have HY := Aside0.mk hy
  have HI := Aside0.mk hi
  have HN := Aside0.mk hn
  clear hX cS hi c1 c2 c3 c4 c5 z5 hq hrow hbel hsz hs ho hn hy hsn
  go_enter Tryd.func21, Tryd.ntmps21
  go_wp2_with (go_at_call 40; (with_reducible refine HH.out.mono ?_); rintro e w1 ⟨rfl, hww⟩; obtain rfl := hww)
  clear kb cI c0 b2
  go_loopw [31] (fun v wr => ∃ q : Nat, q ≤ 4 ∧ v = .int .i64 q ∧ Aside0 (Row8 w1.heap.size (garL (bytesOf s) off y q) wr) ∧ Aside0 (Below w1.heap.size w1 wr) ∧ Aside0 (w1.heap.size + 1 ≤ wr.heap.size)) (fun v _ => 4 - (intOf v).toNat)
  case atStart => exact ⟨0, by omega, rfl, HROW, HBL, ⟨Nat.le_of_eq HSZ.out.symm⟩⟩
  case round =>
    obtain ⟨q, hq, rfl, HR, HB, HZ⟩ := hrel
    have ho := HO.out
    have hsz := HS.out
    by_cases hlt : q < 4
    · obtain ⟨l1, f1⟩ := HR.out (off + q) (by rw [garL_len, bytesOf_length]; omega)
      obtain ⟨xv, hxv⟩ : ∃ xv : Int, xv = (garL (bytesOf s) off y q).getD (off + q) 0 := ⟨_, rfl⟩
      rw [← hxv] at l1
      have l2 : wr.drew.cell? ⟨w1.heap.size, off + q, none⟩ = some (.int .u8 xv) := l1
      have f2 : wr.drew.frozen? ⟨w1.heap.size, off + q, none⟩ = false := f1
      have HXV := Aside0.mk hxv
      have d1 : (off : Int) ≤ 508 := by omega
      have d2 : (q : Int) < 4 := by omega
      have d3 : (0 : Int) ≤ (q : Int) := by omega
      have d4 : (off : Int) + (q : Int) < (s.size : Int) := by omega
      have HQ2 := Aside0.mk hlt
      have e1 : IntKind.i64.wrap ((off : Int) + (q : Int)) = (off : Int) + (q : Int) := by rw [IntKind.wrap_i64]; omega
      have e2 : ((off : Int) + (q : Int)).toNat = off + q := by omega
      have e3 : (0 : Int) ≤ (off : Int) + (q : Int) := by omega
      have e4 : IntKind.i64.wrap (8 * (q : Int)) = 8 * (q : Int) := by rw [IntKind.wrap_i64]; omega
      have e5 : (0 : Int) ≤ 8 * (q : Int) := by omega
      clear hxv ho hsz hlt hq
      go_wp2
      go_still_tail 13, (by kernel_rfl)
      have hput := (show Row8 w1.heap.size (garL (bytesOf s) off y q) wr.drew from HR.out).put (off + q) (by rw [garL_len, bytesOf_length]; have := HO.out; have := HS.out; have := HQ2.out; omega) (Go.bits .xor .u8 xv (IntKind.u8.wrap (y / 2 ^ (8 * (q : Int)).toNat)))
      have hput2 : Row8 w1.heap.size (garL (bytesOf s) off y (q + 1)) (wr.drew.setCell ⟨w1.heap.size, off + q, none⟩ (.int .u8 (Go.bits .xor .u8 xv (IntKind.u8.wrap (y / 2 ^ (8 * (q : Int)).toNat))))) := by
        rw [garL, ← HXV.out]; exact hput
      have HP := Aside0.mk hput2
      have HB2 := Aside0.mk (HB.out.drew.setCell (p := ⟨w1.heap.size, off + q, none⟩) (Nat.le_refl _) (.int .u8 (Go.bits .xor .u8 xv (IntKind.u8.wrap (y / 2 ^ (8 * (q : Int)).toNat)))))
      have W1 := Aside0.mk (wrap_inc q 4 (Nat.le_of_lt HQ2.out) (by decide))
      clear hput hput2
      change wpList Tryd.prog _ _ _ _ wr.drew
      go_wp2
      go_roundw
      case rel => exact ⟨q + 1, HQ2.out, by first | go_num | (rw [W1.out]; rfl), HP, HB2, ⟨by have := HZ.out; simp [World.setCell, World.drew]; omega⟩⟩
      case measure =>
        have h := HQ2.out
        first
          | (show 4 - ((q : Int) + 1).toNat < 4 - ((q : Int)).toNat; omega)
          | exact meas_inc HQ2.out W1.out
    · have hq4 : q = 4 := by omega
      subst hq4
      have hbl := HB.out.block
      have hX := HX.out
      have c0 : wr.cell? ⟨g, 0, none⟩ = some (.slice (some ⟨gs, 0, none⟩) n cap) := (World.cell?_of_block (a := ⟨g, 0, none⟩) (hbl g (blk_lt hX.1))).trans (by rw [blk_cell hX.1]; rfl)
      have gsb : wr.heap[gs]? = some (.cells cur 9 (0, 0)) := (hbl gs (blk_lt hX.2.1)).trans hX.2.1
      have c1 : wr.drew.cell? ⟨g, 0, none⟩ = some (.slice (some ⟨gs, 0, none⟩) n cap) := c0
      have c2 : wr.drew.cell? ⟨gs, i, none⟩ = some (.string (S i)) := by
        have : wr.cell? ⟨gs, i, none⟩ = some (.string (S i)) := by rw [blk_cell gsb]; exact hX.2.2.1 i HI.out
        exact this
      have c3 : wr.drew.frozen? ⟨gs, i, none⟩ = false := blk_frozen gsb i
      have hcv := (show Row8 w1.heap.size (garL (bytesOf s) off y 4) wr.drew from HR.out).conv s.size (grownCap w1 s.size 0 5) (by rw [garL_len, bytesOf_length])
      obtain ⟨t, ht⟩ : ∃ t, t = strOfNums (garL (bytesOf s) off y 4) := ⟨_, rfl⟩
      rw [← ht] at hcv
      have HT := Aside0.mk ht
      have GSB := Aside0.mk gsb
      have b2 : (0 : Int) ≤ (i : Int) := by omega
      clear hX hbl c0 gsb ht hq hlt ho hsz
      go_wp2
      go_still_tail 7, (by kernel_rfl)
      change wpList Tryd.prog _ _ _ _ wr.drew
      go_wp2
      go_ret
      have hX := HX.out.grown (w' := wr) (fun k hk => HB.out.block k hk)
      obtain ⟨h1, h2, h3, h4, h5, h6, h7, h8, h9, h10⟩ := hX
      have ngs : g ≠ gs := fun e => by rw [e, h2] at h1; cases h1
      have ngm : gm ≠ gs := fun e => by
        obtain ⟨D, ⟨es, cl, m1, -⟩, -⟩ := id h4
        rw [e, h2] at m1; cases m1
      have ngb : gb ≠ gs := fun e => by
        obtain ⟨es, cl, m1, -⟩ := id h5
        rw [e, h2] at m1; cases m1
      have keep : ∀ k, k ≠ gs → (wr.drew.setCell ⟨gs, i, none⟩ (.string t)).heap[k]? = wr.heap[k]? := fun k hk => Below.heap_setCell wr.drew ⟨gs, i, none⟩ _ _ hk
      refine ⟨rfl, ⟨gs, cap, gm, gb, cur.setIfInBounds i (.string t), wr', ⟨(keep g ngs).trans h1, blk_set (w := wr.drew) h2 i (.string t), fun j hj => ?_, h4.same (keep gm ngm), h5.same (keep gb ngb), fun j hj => rfl, h7, h8, h9, fun j hj => by cases hj⟩, HQ.out⟩, (KeptBut.of_below HB.out).trans ⟨rfl, rfl, rfl, by simp [World.setCell, World.drew], fun k hk hn => keep k (fun e => hn (e ▸ HQ.out.2.2.1))⟩⟩
      unfold fput
      by_cases e : j = i
      · rw [if_pos e, e, Array.getElem?_setIfInBounds_self_of_lt (by have := h3 i HI.out; exact (Array.getElem?_eq_some_iff.1 this).1), HT.out, HSN.out]
        rfl
      · rw [if_neg e, Array.getElem?_setIfInBounds_ne (fun e' => e e'.symm)]
        exact h3 j hj
end Go.Proofs.YtnhigoffkmfccaaDoor.G
