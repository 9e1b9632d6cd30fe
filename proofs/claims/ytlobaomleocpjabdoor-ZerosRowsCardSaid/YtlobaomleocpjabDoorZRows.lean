/- The walk of caulklaw35.ZerosRows over this seat's program: it answers as the plain function below. Conditions: those of the plain function; a package-level variable holds some number. -/
import Derived.Test.YtlobaomleocpjabDoorGx3
import Derived.Test.YtlobaomleocpjabDoorZstr
import Derived.Lib.ConvBytes
import Derived.Laws.MakeOwn
import Derived.Deep.RegionHeld3
import Derived.Deep.WholeRow
namespace Go.Proofs.YtlobaomleocpjabDoor.G
open Go.RowKit Go.Proofs.YtlobaomleocpjabDoorW.PrintWords Go.Proofs.YtlobaomleocpjabDoorW.PrintLast Go.Proofs.YtlobaomleocpjabDoorW.PrintMore
set_option linter.unusedVariables false
set_option linter.unusedSimpArgs false
def Row8 (g : Nat) (xs : List Int) (w : World) : Prop := ∀ j, j < xs.length → w.cell? ⟨g, j, none⟩ = some (.int .u8 (xs.getD j 0)) ∧ w.frozen? ⟨g, j, none⟩ = false
theorem Row8.drew {g : Nat} {xs : List Int} {w : World} (h : Row8 g xs w) : Row8 g xs w.drew := h
theorem Row8.drewN {g : Nat} {xs : List Int} {w : World} (h : Row8 g xs w) (m : Nat) : Row8 g xs (w.drewN m) := h
theorem Row8.alloc {g : Nat} {xs : List Int} {w : World} (h : Row8 g xs w) (hg : g < w.heap.size) (o : Obj) : Row8 g xs (w.alloc o) := by
  intro j hj
  obtain ⟨c, f⟩ := h j hj
  have hb : (w.alloc o).heap[g]? = w.heap[g]? := Below.heap_alloc w o g hg
  exact ⟨(World.cell?_of_block (a := ⟨g, j, none⟩) hb).trans c, (World.frozen?_of_block (a := ⟨g, j, none⟩) hb).trans f⟩
theorem Row8.below {g : Nat} {xs : List Int} {w w1 : World} (h : Row8 g xs w) (hg : g < w.heap.size) (hb : Below w.heap.size w w1) : Row8 g xs w1 := by
  intro j hj
  obtain ⟨c, f⟩ := h j hj
  exact ⟨(hb.cell (p := ⟨g, j, none⟩) hg).trans c, (hb.frozen (p := ⟨g, j, none⟩) hg).trans f⟩
theorem Row8.far {g g2 : Nat} {xs : List Int} {w : World} (h : Row8 g xs w) (hg : g ≠ g2) (i : Nat) (v : Value) : Row8 g xs (w.setCell ⟨g2, i, none⟩ v) := by
  intro j hj
  obtain ⟨c, f⟩ := h j hj
  exact ⟨by rw [World.cell?_setCell_other _ _ _ _ (by intro h'; injection h' with h''; exact hg h''.symm)]; exact c, by rw [World.frozen?_setCell]; exact f⟩
theorem Row8.conv {g : Nat} {xs : List Int} {W : World} (h : Row8 g xs W) (n c : Nat) (hn : xs.length = n) : (convert 40 9 (.slice (some ⟨g, 0, none⟩) n c)).run Tryd.prog W = .ok (.string (strOfNums xs)) W := by
  refine run_convert_bytes_arg W 40 5 Tryd.underlying40 Tryd.underlying5 g 0 n c xs hn (fun i hi => ?_) 9 Tryd.underlying9
  rw [Nat.zero_add]
  exact (h i (by omega)).1
theorem Row8.bytes (W : World) (s : ByteArray) : Row8 W.heap.size (bytesOf s) (Lib.bytesWorld W 5 s) := by
  intro j hj
  rw [bytesOf_length] at hj
  refine ⟨?_, ?_⟩
  · rw [Lib.bytesWorld_cell W 5 s j hj]
    have h' : j < s.data.toList.length := by rw [data_length]; exact hj
    simp [bytesOf, List.getD_eq_getElem?_getD, List.getElem?_eq_getElem h']
  · have hn := Lib.bytesWorld_at_new W 5 s
    have hsz : s.size ≤ (Lib.bytesCells W 5 s).size := by simp [Lib.bytesCells]
    simp [World.frozen?, hn]
    omega
/-- The first k bytes, each with its lowest bit. -/
def orU (l : List Int) (k : Nat) : List Int := (List.range l.length).map fun j => if j < k then Go.bits .or .u8 (l.getD j 0) 1 else l.getD j 0
theorem orU_length (l : List Int) (k : Nat) : (orU l k).length = l.length := by simp [orU]
theorem orU_zero (l : List Int) : orU l 0 = l := by
  apply List.ext_getElem?
  intro i
  by_cases h : i < l.length
  · simp [orU, h, List.getD_eq_getElem?_getD]
  · rw [List.getElem?_eq_none (by rw [orU_length]; omega), List.getElem?_eq_none (by omega)]
theorem orU_at (l : List Int) (k : Nat) : (orU l k).getD k 0 = l.getD k 0 := by
  by_cases h : k < l.length
  · simp [orU, h, List.getD_eq_getElem?_getD]
  · rw [List.getD_eq_getElem?_getD, List.getD_eq_getElem?_getD, List.getElem?_eq_none (by rw [orU_length]; omega), List.getElem?_eq_none (by omega)]
theorem Row8.ored {l : List Int} {g k : Nat} {w : World} (h : Row8 g (orU l k) w) {v : Int} (hv : v = Go.bits .or .u8 (l.getD k 0) 1) : Row8 g (orU l (k + 1)) (w.setCell ⟨g, k, none⟩ (.int .u8 v)) := by
  intro j hj
  rw [orU_length] at hj
  obtain ⟨c, f⟩ := h j (by rw [orU_length]; exact hj)
  refine ⟨?_, by rw [World.frozen?_setCell]; exact f⟩
  by_cases e : j = k
  · subst e
    rw [World.cell?_setCell_same _ _ _ c, hv]
    simp [orU, List.getD_eq_getElem?_getD, hj]
  · rw [World.cell?_setCell_other _ _ _ _ (by intro h'; injection h' with _ h''; exact e h''.symm), c]
    simp only [orU, List.getD_eq_getElem?_getD, List.getElem?_map, List.getElem?_range hj, Option.map_some, Option.getD_some]
    by_cases h1 : j < k
    · rw [if_pos h1, if_pos (by omega)]
    · rw [if_neg h1, if_neg (by omega)]
def zrS (a b : ByteArray) (n : Nat) : ByteArray := (strOfNums (orU (bytesOf a) a.size) ++ strOfNums (List.replicate n 0)) ++ strOfNums (orU (bytesOf b) b.size)
def caulklaw35_ZerosRows.f (k : Nat) (a b : ByteArray) (n : Int) : Option Bool :=
  if 0 ≤ n ∧ n ≤ 65535 then (caulklaw35_lives.f k).bind fun l => if l = true then (if a.size > 1024 ∨ b.size > 1024 then some true else (zeros_Pack.f k (zrS a b n.toNat)).bind fun p => (zeros_Unpack.f k p.1).bind fun u =>
    if p.2 = 0 ∧ u.2 = 0 ∧ u.1 = zrS a b n.toNat ∧ (p.1.size : Int) ≤ (a.size : Int) + (b.size : Int) + 8 + min n 3 then some true else none) else none else none
def caulklaw35_ZerosRows.Pure : Prop := ∀ (a0 a1 : ByteArray) (a2 : Int), a0.size ≤ 140737488351232 → a1.size ≤ 140737488351232 → (Lit.int .u16 a2).wf = true → ∃ k, caulklaw35_ZerosRows.f k a0 a1 a2 = some true
/-- What stays so through the region that puts the three together. -/
structure ZS (w : World) (g1 g2 : Nat) (xs ys : List Int) (W : World) : Prop where
  x : Row8 g1 xs W
  y : Row8 g2 ys W
  bel : Below w.heap.size w W
  g12 : g1 < W.heap.size ∧ g2 < W.heap.size ∧ w.heap.size ≤ g1 ∧ g1 < g2
theorem ZS.drew {w : World} {g1 g2 : Nat} {xs ys : List Int} {W : World} (h : ZS w g1 g2 xs ys W) : ZS w g1 g2 xs ys W.drew := ⟨h.x, h.y, h.bel.drew, h.g12⟩
theorem ZS.drewN {w : World} {g1 g2 : Nat} {xs ys : List Int} {W : World} (h : ZS w g1 g2 xs ys W) (m : Nat) : ZS w g1 g2 xs ys (W.drewN m) := ⟨h.x, h.y, pw_below_drewN h.bel m, h.g12⟩
theorem ZS.alloc {w : World} {g1 g2 : Nat} {xs ys : List Int} {W : World} (h : ZS w g1 g2 xs ys W) (o : Obj) : ZS w g1 g2 xs ys (W.alloc o) :=
  ⟨h.x.alloc h.g12.1 o, h.y.alloc h.g12.2.1 o, below_alloc h.bel o, by simp; have := h.g12; omega, by simp; have := h.g12; omega, h.g12.2.2⟩
theorem ZS.setX {w : World} {g1 g2 k : Nat} {l ys : List Int} {W : World} (h : ZS w g1 g2 (orU l k) ys W) {v : Int} (hv : v = Go.bits .or .u8 (l.getD k 0) 1) : ZS w g1 g2 (orU l (k + 1)) ys (W.setCell ⟨g1, k, none⟩ (.int .u8 v)) :=
  ⟨h.x.ored hv, h.y.far (by have := h.g12; omega) _ _, h.bel.setCell (p := ⟨g1, k, none⟩) (by have := h.g12; show w.heap.size ≤ g1; omega) _, by have := h.g12; simpa [World.setCell] using this⟩
theorem ZS.setY {w : World} {g1 g2 k : Nat} {xs l : List Int} {W : World} (h : ZS w g1 g2 xs (orU l k) W) {v : Int} (hv : v = Go.bits .or .u8 (l.getD k 0) 1) : ZS w g1 g2 xs (orU l (k + 1)) (W.setCell ⟨g2, k, none⟩ (.int .u8 v)) :=
  ⟨h.x.far (by have := h.g12; omega) _ _, h.y.ored hv, h.bel.setCell (p := ⟨g2, k, none⟩) (by have := h.g12; show w.heap.size ≤ g2; omega) _, by have := h.g12; simpa [World.setCell] using this⟩
theorem zeros_conv {W : World} {g n : Nat} (h : W.heap[g]? = some (.cells (madeCells #[.int .u8 0] n) 5 (0, 0))) : (convert 40 9 (.slice (some ⟨g, 0, none⟩) n n)).run Tryd.prog W = .ok (.string (strOfNums (List.replicate n 0))) W := by
  refine run_convert_bytes_arg W 40 5 Tryd.underlying40 Tryd.underlying5 g 0 n n (List.replicate n 0) (by simp) (fun i hi => ?_) 9 Tryd.underlying9
  rw [Nat.zero_add]
  simp [World.cell?, h, madeCells, hi, List.getD_eq_getElem?_getD, Nat.mod_one]
set_option maxHeartbeats 8000000 in
set_option maxRecDepth 100000 in
theorem zrows_walk (k : Nat) (a b : ByteArray) (n : Nat) (hn : n ≤ 65535) (P : ByteArray) (w : World) (hG : GT w) (hl : caulklaw35_lives.f k = some true) (ha : a.size ≤ 1024) (hb : b.size ≤ 1024)
    (hp : zeros_Pack.f k (zrS a b n) = some (P, 0)) (hu : zeros_Unpack.f k P = some (zrS a b n, 0)) (hs : (P.size : Int) ≤ (a.size : Int) + (b.size : Int) + 8 + min (n : Int) 3) :
    Calls Tryd.prog 5 #[.string a, .string b, .int .u16 (n : Int)] w fun e w' => e = .returned (.bool true) ∧ Below w.heap.size w w' := by
  have HG := Aside0.mk hG
  have LV := Aside0.mk hl
  have HP := Aside0.mk hp
  have HU := Aside0.mk hu
  have HSZ := Aside0.mk hs
  clear hG hl hp hu hs
  have kb1 := fun W => print_bytes (P := Tryd.prog) 9 40 5 Tryd.underlying9 Tryd.underlying40 Tryd.underlying5 a W
  have kb2 := fun W => print_bytes (P := Tryd.prog) 9 40 5 Tryd.underlying9 Tryd.underlying40 Tryd.underlying5 b W
  have c1 : decide ((1024 : Int) < (a.size : Int)) = false := decide_eq_false (by omega)
  have c2 : decide ((1024 : Int) < (b.size : Int)) = false := decide_eq_false (by omega)
  go_enter Tryd.func5, Tryd.ntmps5
  go_wp2_with (go_at_call 18; (with_reducible refine (caulklaw35_lives.calls k true _ ?side1 LV.out).mono ?_); (case side1 => exact HG.out); rintro e w1 ⟨rfl, hb1⟩; have HB1 := Aside0.mk hb1; clear hb1)
  obtain ⟨g2, hg2⟩ : ∃ g, g = (Lib.bytesWorld w1 5 a).heap.size := ⟨_, rfl⟩
  have hs1 : (Lib.bytesWorld w1 5 a).heap.size = w1.heap.size + 1 := Lib.bytesWorld_size _ _ _
  have hs2 : (Lib.bytesWorld (Lib.bytesWorld w1 5 a) 5 b).heap.size = w1.heap.size + 2 := by rw [Lib.bytesWorld_size, hs1]
  have be1 := bytes_below (Below.refl w1.heap.size w1) (Nat.le_refl _) 5 a
  have be2 := bytes_below (Below.refl (Lib.bytesWorld w1 5 a).heap.size (Lib.bytesWorld w1 5 a)) (Nat.le_refl _) 5 b
  have s1 : ZS w w1.heap.size g2 (orU (bytesOf a) 0) (bytesOf b) (Lib.bytesWorld (Lib.bytesWorld w1 5 a) 5 b) :=
    ⟨by rw [orU_zero]; exact (Row8.bytes w1 a).below (by omega) be2, by rw [hg2]; exact Row8.bytes _ b, (HB1.out.trans (be1.mono HB1.out.size)).trans (be2.mono (by have := HB1.out.size; omega)), by have := HB1.out.size; omega⟩
  have HW1 := Aside0.mk HB1.out.size
  have S1 := Aside0.mk s1
  rw [← hg2]
  obtain ⟨g1, hg1⟩ : ∃ g, g = w1.heap.size := ⟨_, rfl⟩
  rw [← hg1] at S1 ⊢
  generalize grownCap w1 a.size 0 5 = ca
  generalize grownCap (Lib.bytesWorld w1 5 a) b.size 0 5 = cb
  clear kb1 kb2 hs1 hs2 be1 be2 s1 HB1 hg1 hg2 c1 c2
  go_loopw [32] (fun i wr => ∃ q : Nat, q ≤ a.size ∧ i = .int .i64 q ∧ Aside0 (ZS w g1 g2 (orU (bytesOf a) q) (bytesOf b) wr)) (fun i _ => a.size - (intOf i).toNat)
  case atStart => exact ⟨0, Nat.zero_le _, by simp, S1⟩
  case round =>
    obtain ⟨q, hq, rfl, HZ⟩ := hrel
    clear S1
    by_cases hlt : q < a.size
    · have c1 : decide ((q : Int) < (a.size : Int)) = true := decide_eq_true (by omega)
      have c3 : (q : Int) < (a.size : Int) := by omega
      have l1 := (HZ.out.x q (by rw [orU_length, bytesOf_length]; exact hlt)).1
      have f1 := (HZ.out.x q (by rw [orU_length, bytesOf_length]; exact hlt)).2
      obtain ⟨xv, hxv⟩ : ∃ xv : Int, xv = (orU (bytesOf a) q).getD q 0 := ⟨_, rfl⟩
      rw [← hxv] at l1
      have HX := Aside0.mk hxv
      clear hxv
      go_wp2
      go_roundw
      case rel => exact ⟨q + 1, by omega, by go_num, ⟨HZ.out.setX (by rw [HX.out, orU_at])⟩⟩
      case measure => simp [intOf]; omega
    · obtain rfl : q = a.size := by omega
      have c1 : decide ((a.size : Int) < (a.size : Int)) = false := decide_eq_false (by omega)
      go_wp2
      go_loopw [44] (fun i wr => ∃ q : Nat, q ≤ b.size ∧ i = .int .i64 q ∧ Aside0 (ZS w g1 g2 (orU (bytesOf a) a.size) (orU (bytesOf b) q) wr)) (fun i _ => b.size - (intOf i).toNat)
      case atStart => exact ⟨0, Nat.zero_le _, by simp, ⟨by rw [orU_zero]; exact HZ.out⟩⟩
      case round =>
        clear HZ
        obtain ⟨q, hq, rfl, HZ⟩ := hrel
        by_cases hlt : q < b.size
        · have c1 : decide ((q : Int) < (b.size : Int)) = true := decide_eq_true (by omega)
          have c3 : (q : Int) < (b.size : Int) := by omega
          have l1 := (HZ.out.y q (by rw [orU_length, bytesOf_length]; exact hlt)).1
          have f1 := (HZ.out.y q (by rw [orU_length, bytesOf_length]; exact hlt)).2
          obtain ⟨xv, hxv⟩ : ∃ xv : Int, xv = (orU (bytesOf b) q).getD q 0 := ⟨_, rfl⟩
          rw [← hxv] at l1
          have HX := Aside0.mk hxv
          clear hxv
          go_wp2
          go_roundw
          case rel => exact ⟨q + 1, by omega, by go_num, ⟨HZ.out.setY (by rw [HX.out, orU_at])⟩⟩
          case measure => simp [intOf]; omega
        · obtain rfl : q = b.size := by omega
          have c1 : decide ((b.size : Int) < (b.size : Int)) = false := decide_eq_false (by omega)
          go_upto_region 16 with (fail)
          have mk : ∀ W : World, (Instr.makeSlice 40 (.int .u16 (n : Int)) (.int .u16 (n : Int))).run Tryd.prog W = .ok (.slice (some ⟨W.heap.size, 0, none⟩) n n) (W.alloc (.cells (madeCells #[.int .u8 0] n) 5)) := fun W => run_make_row' 40 5 (.int .u8 0) 1 Tryd.underlying40 (by kernel_rfl) rfl .u16 .u16 n (by omega) (by omega) W
          have zs0 := HZ.out
          have hcx := fun W (h : ZS w g1 g2 (orU (bytesOf a) a.size) (orU (bytesOf b) b.size) W) => h.x.conv a.size ca (by rw [orU_length, bytesOf_length])
          have hcy := fun W (h : ZS w g1 g2 (orU (bytesOf a) a.size) (orU (bytesOf b) b.size) W) => h.y.conv b.size cb (by rw [orU_length, bytesOf_length])
          have blk0 : ∀ m : Nat, ((wr.drewN m).alloc (.cells (madeCells #[.int .u8 0] n) 5)).heap[wr.heap.size]? = some (.cells (madeCells #[.int .u8 0] n) 5 (0, 0)) := fun m => heap_alloc_last (wr.drewN m) _
          have cv2 : ∀ m : Nat, (convert 40 9 (.slice (some ⟨wr.heap.size, 0, none⟩) n n)).run Tryd.prog ((wr.drewN m).alloc (.cells (madeCells #[.int .u8 0] n) 5)) = .ok (.string (strOfNums (List.replicate n 0))) ((wr.drewN m).alloc (.cells (madeCells #[.int .u8 0] n) 5)) := fun m => zeros_conv (blk0 m)
          have cv3 : ∀ m m' : Nat, (convert 40 9 (.slice (some ⟨wr.heap.size, 0, none⟩) n n)).run Tryd.prog (((wr.drewN m).alloc (.cells (madeCells #[.int .u8 0] n) 5)).drewN m') = .ok (.string (strOfNums (List.replicate n 0))) (((wr.drewN m).alloc (.cells (madeCells #[.int .u8 0] n) 5)).drewN m') := fun m m' => zeros_conv (blk0 m)
          have cv4 : ∀ m : Nat, (convert 40 9 (.slice (some ⟨wr.heap.size, 0, none⟩) n n)).run Tryd.prog ((wr.alloc (.cells (madeCells #[.int .u8 0] n) 5)).drewN m) = .ok (.string (strOfNums (List.replicate n 0))) ((wr.alloc (.cells (madeCells #[.int .u8 0] n) 5)).drewN m) := fun m => zeros_conv (heap_alloc_last wr _)
          have cv5 : (convert 40 9 (.slice (some ⟨wr.heap.size, 0, none⟩) n n)).run Tryd.prog ((wr.alloc (.cells (madeCells #[.int .u8 0] n) 5)).drew) = .ok (.string (strOfNums (List.replicate n 0))) ((wr.alloc (.cells (madeCells #[.int .u8 0] n) 5)).drew) := zeros_conv (heap_alloc_last wr _)
          have HPP := HP.out
          have HUU := HU.out
          unfold zrS at HPP HUU
          obtain ⟨sx, hsx⟩ : ∃ s, s = strOfNums (orU (bytesOf a) a.size) := ⟨_, rfl⟩
          obtain ⟨sy, hsy⟩ : ∃ s, s = strOfNums (orU (bytesOf b) b.size) := ⟨_, rfl⟩
          obtain ⟨sz, hsz⟩ : ∃ s, s = strOfNums (List.replicate n 0) := ⟨_, rfl⟩
          have zx : sx.size ≤ 1024 := by rw [hsx, strOfNums_size, orU_length, bytesOf_length]; exact ha
          have zy : sy.size ≤ 1024 := by rw [hsy, strOfNums_size, orU_length, bytesOf_length]; exact hb
          have zz : sz.size ≤ 65535 := by rw [hsz, strOfNums_size, List.length_replicate]; exact hn
          rw [← hsx, ← hsy, ← hsz] at HPP HUU
          rw [← hsx] at hcx
          rw [← hsy] at hcy
          rw [← hsz] at cv2 cv3 cv4 cv5
          have n1 : ¬ (9223372036854775807 : Int) < (sx.size : Int) + (sz.size : Int) := by omega
          have n2 : ¬ (9223372036854775807 : Int) < (sx.size : Int) + (sz.size : Int) + (sy.size : Int) := by omega
          have n3 : ¬ (9223372036854775807 : Int) < ((sx ++ sz).size : Int) + (sy.size : Int) := by rw [ByteArray.size_append]; omega
          have HPQ := Aside0.mk HPP
          have HUQ := Aside0.mk HUU
          clear hsx hsy hsz HPP HUU zx zy zz
          clear blk0 HP HU c1 HZ
          go_region_held (fun w' => ZS w g1 g2 (orU (bytesOf a) a.size) (orU (bytesOf b) b.size) w' ∧ (convert 40 9 (.slice (some ⟨g1, 0, none⟩) a.size ca)).run Tryd.prog w' = .ok (.string sx) w' ∧ (convert 40 9 (.slice (some ⟨g2, 0, none⟩) b.size cb)).run Tryd.prog w' = .ok (.string sy) w')
            ((refine ⟨?_, hcx _ ?_, hcy _ ?_⟩ <;> (repeat (first | assumption | apply ZS.drewN | apply ZS.drew | apply ZS.alloc))))
            (fail)
          have zsE := (zs0.alloc (.cells (madeCells #[.int .u8 0] n) 5)).drew
          have HBE := Aside0.mk zsE.bel
          have HGE := Aside0.mk (HG.out.below zsE.bel)
          clear hcx hcy cv2 cv3 cv4 cv5 n1 n2 n3 mk zs0 zsE HG HW1
          generalize (wr.alloc (.cells (madeCells #[.int .u8 0] n) 5)).drew = we at *
          go_wp2_with (first
            | (go_at_call 19; (with_reducible refine (zeros_Pack.calls k _ P 0 _ ?side1 HPQ.out).mono ?_); (case side1 => exact HGE.out); rintro e w4 ⟨rfl, hb4⟩; have HB4 := Aside0.mk (HBE.out.trans (hb4.mono HBE.out.size)); clear hb4)
            | (go_at_call 20; (with_reducible refine (zeros_Unpack.calls k P _ 0 _ HUQ.out).mono ?_); rintro e w5 ⟨rfl, hb5⟩; have HB5 := Aside0.mk (HB4.out.trans (hb5.mono HB4.out.size)); clear hb5))
          rw [decide_eq_true HSZ.out]
          go_ret
          exact ⟨rfl, HB5.out⟩
set_option maxHeartbeats 4000000 in
set_option maxRecDepth 100000 in
theorem zrows_long (k : Nat) (a b : ByteArray) (n : Int) (w : World) (hG : GT w) (hl : caulklaw35_lives.f k = some true) (hab : a.size > 1024 ∨ b.size > 1024) :
    Calls Tryd.prog 5 #[.string a, .string b, .int .u16 n] w fun e w' => e = .returned (.bool true) ∧ Below w.heap.size w w' := by
  have HG := Aside0.mk hG
  have LV := Aside0.mk hl
  clear hG hl
  by_cases ha : a.size > 1024
  · have c1 : decide ((1024 : Int) < (a.size : Int)) = true := decide_eq_true (by omega)
    clear hab
    go_enter Tryd.func5, Tryd.ntmps5
    go_wp2_with (go_at_call 18; (with_reducible refine (caulklaw35_lives.calls k true _ ?side1 LV.out).mono ?_); (case side1 => exact HG.out); rintro e w1 ⟨rfl, hb1⟩; have HB1 := Aside0.mk hb1; clear hb1)
    go_ret
    exact ⟨rfl, HB1.out⟩
  · have hb : b.size > 1024 := by omega
    have c1 : decide ((1024 : Int) < (a.size : Int)) = false := decide_eq_false (by omega)
    have c2 : decide ((1024 : Int) < (b.size : Int)) = true := decide_eq_true (by omega)
    clear hab
    go_enter Tryd.func5, Tryd.ntmps5
    go_wp2_with (go_at_call 18; (with_reducible refine (caulklaw35_lives.calls k true _ ?side1 LV.out).mono ?_); (case side1 => exact HG.out); rintro e w1 ⟨rfl, hb1⟩; have HB1 := Aside0.mk hb1; clear hb1)
    go_ret
    exact ⟨rfl, HB1.out⟩
theorem caulklaw35_ZerosRows.calls (k : Nat) (a0 a1 : ByteArray) (a2 : Int) (r : Bool) (w : World) (hG : GT w) (h : caulklaw35_ZerosRows.f k a0 a1 a2 = some r) :
    Calls Tryd.prog 5 #[.string a0, .string a1, .int .u16 a2] w fun e w' => e = .returned (.bool r) ∧ Below w.heap.size w w' := by
  unfold caulklaw35_ZerosRows.f at h
  by_cases hn : 0 ≤ a2 ∧ a2 ≤ 65535
  · rw [if_pos hn] at h
    obtain ⟨l, hl, h⟩ := Option.bind_eq_some_iff.mp h
    by_cases e : l = true
    · subst e
      rw [if_pos rfl] at h
      by_cases hs : a0.size > 1024 ∨ a1.size > 1024
      · rw [if_pos hs] at h
        obtain rfl := Option.some.inj h
        exact zrows_long k a0 a1 a2 w hG hl hs
      · rw [if_neg hs] at h
        obtain ⟨⟨p1, p2⟩, hp, h⟩ := Option.bind_eq_some_iff.mp h
        obtain ⟨⟨u1, u2⟩, hu, h⟩ := Option.bind_eq_some_iff.mp h
        dsimp only at h hu
        by_cases hc : p2 = 0 ∧ u2 = 0 ∧ u1 = zrS a0 a1 a2.toNat ∧ (p1.size : Int) ≤ (a0.size : Int) + (a1.size : Int) + 8 + min a2 3
        · rw [if_pos hc] at h
          obtain rfl := Option.some.inj h
          obtain ⟨rfl, rfl, rfl, hsz⟩ := hc
          obtain ⟨n, rfl⟩ := Int.eq_ofNat_of_zero_le hn.1
          exact zrows_walk k a0 a1 n (by omega) p1 w hG hl (by omega) (by omega) hp hu hsz
        · rw [if_neg hc] at h; cases h
    · rw [if_neg e] at h; cases h
  · rw [if_neg hn] at h; cases h
end Go.Proofs.YtlobaomleocpjabDoor.G
