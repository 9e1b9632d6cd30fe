/- The contracts of matrix's functions over this seat's program. Conditions: each one's own. -/
import Derived.Test.YteiiaonpdamkhaaDoorMatCheck
import Derived.Laws.CopyRow
import Derived.Lib.BufferWrite
import Derived.Lib.SlBuf
namespace Go.Proofs.YteiiaonpdamkhaaDoor.G
open Go.RowKit Go.Proofs.YteiiaonpdamkhaaDoorW.PrintWords Go.Proofs.YteiiaonpdamkhaaDoorW.PrintLast Go.Proofs.YteiiaonpdamkhaaDoorW.PrintMore
set_option linter.unusedVariables false
set_option linter.unusedSimpArgs false

/-- The rows of a new grid, as far as k rounds have come. -/
def gridC (b r c k : Nat) : Array Value := ((List.range r).map fun i => if i < k then Value.slice (some ⟨b, i * c, none⟩) c c else Value.slice none 0 0).toArray
theorem gridC_size (b r c k : Nat) : (gridC b r c k).size = r := by simp [gridC]
theorem gridC_get (b r c k i : Nat) (h : i < r) : (gridC b r c k)[i]? = some (if i < k then Value.slice (some ⟨b, i * c, none⟩) c c else Value.slice none 0 0) := by simp [gridC, h]
theorem gridC_step (b r c k : Nat) (h : k < r) : (gridC b r c k).setIfInBounds k (.slice (some ⟨b, k * c, none⟩) c c) = gridC b r c (k + 1) := by
  apply Array.ext_getElem?
  intro i
  by_cases hi : i < r
  · rw [Array.getElem?_setIfInBounds, gridC_size, gridC_get _ _ _ _ _ hi, gridC_get _ _ _ _ _ hi]
    by_cases e : k = i
    · subst e; rw [if_pos rfl, if_pos hi, if_pos (by omega)]
    · rw [if_neg e]
      have : (i < k + 1) = (i < k) := by apply propext; omega
      simp only [this]
  · rw [Array.getElem?_eq_none (by simp [gridC_size]; omega), Array.getElem?_eq_none (by rw [gridC_size]; omega)]
theorem gridC_zero (b r c : Nat) : madeCells #[.slice none 0 0] r = gridC b r c 0 := by
  apply Array.ext_getElem?
  intro i
  by_cases hi : i < r
  · rw [gridC_get _ _ _ _ _ hi]; simp [madeCells, hi, Nat.mod_one]
  · rw [Array.getElem?_eq_none (by simp [size_madeCells]; omega), Array.getElem?_eq_none (by rw [gridC_size]; omega)]
theorem grid_arith {r c k m : Nat} (h2 : r ≤ 255) (h4 : c ≤ 255) (hm : m = r * c) (hlt : k < r) : ∃ q, q = k * c ∧ q + c ≤ m ∧ wrap64 ((k : Int) * (c : Int)) = (q : Int) ∧ wrap64 (((k : Int) + 1) * (c : Int)) = ((q + c : Nat) : Int) := by
  obtain ⟨q, hq⟩ : ∃ q, q = k * c := ⟨_, rfl⟩
  have h1 : (k + 1) * c ≤ r * c := Nat.mul_le_mul_right _ hlt
  have hm1 : r * c ≤ 255 * 255 := Nat.mul_le_mul h2 h4
  rw [Nat.succ_mul, ← hq, ← hm] at h1
  rw [← hm] at hm1
  have e1 : (k : Int) * (c : Int) = (q : Int) := by rw [hq]; simp
  have e2 : ((k : Int) + 1) * (c : Int) = ((q + c : Nat) : Int) := by rw [Int.add_mul, e1, Int.one_mul]; simp
  rw [e1, e2]
  refine ⟨q, hq, h1, ?_, ?_⟩
  · clear hq e1 e2 hm
    unfold wrap64
    omega
  · clear hq e1 e2 hm
    unfold wrap64
    omega
set_option maxRecDepth 100000 in
set_option maxHeartbeats 4000000 in
theorem grid_calls (r c : Nat) (w : World) (h1 : 1 ≤ r) (h2 : r ≤ 255) (h3 : 1 ≤ c) (h4 : c ≤ 255) :
    Calls Tryd.prog 63 #[.int .i64 r, .int .i64 c] w fun e w' => e = .returned (.slice (some ⟨w.heap.size + 1, 0, none⟩) r r) ∧ Mat w.heap.size w' (w.heap.size + 1) r r c (fun _ => w.heap.size) (fun i => i * c) (fun _ => c) (fun _ _ => 0#8) ∧ Below w.heap.size w w' := by
  obtain ⟨m, hm⟩ : ∃ m : Nat, m = r * c := ⟨_, rfl⟩
  have hm1 : m ≤ 65025 := by
    have hm1 : r * c ≤ 255 * 255 := Nat.mul_le_mul h2 h4
    rw [← hm] at hm1
    clear hm
    omega
  have hmul : (r : Int) * (c : Int) = (m : Int) := by rw [hm]; simp
  have hw : wrap64 (m : Int) = (m : Int) := by unfold wrap64; omega
  have k1 := print_make (P := Tryd.prog) 76 5 .u8 1 Tryd.underlying76 (by kernel_rfl) (by decide) m (by omega)
  have k2 := print_make_of (P := Tryd.prog) 65 76 (.slice none 0 0) 24 Tryd.underlying65 (by kernel_rfl) rfl (by decide) r (by omega)
  have HM := Aside0.mk hm
  clear hm
  go_enter Tryd.func63, Tryd.ntmps63
  go_wp2
  go_loopw [16] (fun i wr => ∃ k : Nat, k ≤ r ∧ i = .int .i64 k ∧ Aside0 (wr.heap[w.heap.size + 1]? = some (.cells (gridC w.heap.size r c k) 76 (0, 0))) ∧ Aside0 (wr.heap[w.heap.size]? = some (.cells (madeCells #[.int .u8 0] m) 5 (0, 0))) ∧ Aside0 (Below w.heap.size w wr)) (fun i _ => r - (intOf i).toNat)
  case atStart => exact ⟨0, Nat.zero_le _, rfl, ⟨by rw [← gridC_zero, show w.heap.size + 1 = (w.alloc (.cells _ 5)).heap.size from (World.size_alloc _ _).symm]; exact blk_new _ _⟩, ⟨blk_alloc (blk_new _ _) _⟩, ⟨((Below.refl _ w).alloc (Nat.le_refl _) _).alloc (by simp) _⟩⟩
  case round =>
    obtain ⟨k, hk, rfl, HC, HA, HB⟩ := hrel
    by_cases hlt : k < r
    · obtain ⟨q, hq, hq1, w3, w4⟩ := grid_arith h2 h4 HM.out hlt
      have w0 : wrap64 ((k : Int) + 1) = (k : Int) + 1 := by unfold wrap64; omega
      have cN : wr.cell? ⟨w.heap.size + 1, k, none⟩ = some (.slice none 0 0) := by rw [blk_cell HC.out, gridC_get _ _ _ _ _ hlt, if_neg (by omega)]
      have fN : wr.frozen? ⟨w.heap.size + 1, k, none⟩ = false := blk_frozen HC.out _
      have HQ := Aside0.mk hq
      clear hq
      go_wp2
      go_roundw
      case rel =>
        exact ⟨k + 1, by omega, by go_num, ⟨by have := blk_set HC.out k (.slice (some ⟨w.heap.size, q, none⟩) c c); rwa [HQ.out, gridC_step _ _ _ _ hlt, ← HQ.out] at this⟩, ⟨blk_far HA.out (by simp) _⟩, ⟨HB.out.setCell (p := ⟨w.heap.size + 1, k, none⟩) (by simp) _⟩⟩
      case measure => simp [intOf]; omega
    · have hke : k = r := by omega
      subst hke
      go_wp2
      go_ret
      refine ⟨rfl, ⟨⟨_, HC.out, gridC_size _ _ _ _, fun i hi => by rw [gridC_get _ _ _ _ _ hi, if_pos hi]⟩, fun i hi => ⟨_, HA.out, fun j hj => ?_⟩, fun i _ j _ hne _ => ?_, fun i _ => by omega, fun _ _ => Nat.le_refl _, fun _ _ => Nat.le_refl _, by omega⟩, HB.out⟩
      · have : i * c + j < m := by
          have h5 : (i + 1) * c ≤ k * c := Nat.mul_le_mul_right _ (by omega)
          rw [Nat.succ_mul, ← HM.out] at h5
          omega
        simp [madeCells, this, Nat.mod_one]
      · rcases Nat.lt_or_ge i j with h5 | h5
        · have h6 : (i + 1) * c ≤ j * c := Nat.mul_le_mul_right _ (by omega)
          rw [Nat.succ_mul] at h6
          exact .inl h6
        · have h6 : (j + 1) * c ≤ i * c := Nat.mul_le_mul_right _ (by omega)
          rw [Nat.succ_mul] at h6
          exact .inr h6

theorem side_true {a : Int} (h : 1 ≤ a ∧ a ≤ 255) : matrix_side.f a = some true := by rw [side_eq, decide_eq_true h]
theorem side_false {a : Int} (h : ¬ (1 ≤ a ∧ a ≤ 255)) : matrix_side.f a = some false := by rw [side_eq, decide_eq_false h]
theorem N_nil (w : World) (B : Nat) : Kd.N (Kd.slice 5 (Kd.int .u8)) 76 w B (fun k_ => B ≤ k_) (.slice none 0 0) [] := Kd.N_nil _ _ _ _ _
/-- A row of a matrix that is read: where it lies, its cells, and its text. -/
theorem lent_row {w : World} {ad : Addr} {l : List (List Int)} (h : Kd.C (Kd.slice 5 (Kd.int .u8)) w (some ad) l.length l) (hb : BytesM l) (ho : OkM l) {i : Nat} (hi : i < l.length) :
    ∃ a d, colsM l ≤ d ∧ ∀ W, Below w.heap.size w W → W.cell? (ad.add i) = some (.slice (some a) (colsM l) d) ∧ (∀ j, j < colsM l → W.cell? (a.add j) = some (.int .u8 ((toMx l i j).toNat : Int))) ∧ (convert 76 9 (.slice (some a) (colsM l) d)).run Tryd.prog W = .ok (.string (strX (colsM l) (toMx l i))) W := by
  obtain ⟨ad', A0, d, e, hc, hl, hr⟩ := at_L2 h (i : Int) (by omega) (by omega)
  injection e with e
  subst e
  rw [rd_L2_nat, rowL_toMx hb (ho.row hi)] at hr hc hl
  rw [rowL_length] at hc hl
  rw [Int.toNat_natCast] at hc
  have hr2 := Kd.reads_of_C (enc := Value.int .u8) (d := (0 : Int)) hr
  obtain ⟨a, rfl, ha⟩ := hr2.2.2 (by rw [rowL_length]; exact ho.2.2.1)
  refine ⟨a, d, hl, fun W hW => ⟨(hW.cell (World.block_lt_of_cell? w _ hc)).trans hc, fun j hj => ?_, ?_⟩⟩
  · have := ha j (by rw [rowL_length]; exact hj)
    rw [rowL_get _ _ j hj] at this
    exact (hW.cell (World.block_lt_of_cell? w _ this)).trans this
  · have := Kd.C_string (P := Tryd.prog) (A := some a) (c := d) Tryd.underlying76 Tryd.underlying5 Tryd.underlying9 (Kd.C_below hr hW)
    rw [rowL_length] at this
    exact this
end Go.Proofs.YteiiaonpdamkhaaDoor.G
