/- The contracts of gf.of, times.mul, gf.Scale and gf.Put over this seat's program. Conditions: each one's own. -/
import Derived.Test.YteiiaonpdamkhaaDoorGfMul
import Derived.LoopTactic
import Derived.RegionTactic
import Derived.Deep.QuietTactic
import Derived.BigQuiet
import Derived.StillTailTactics
import Derived.Laws.CopyOwn
import Derived.Deep.RegionWith
import Derived.Deep.WholeRow
import Derived.Lib.SlBytesRow
import Derived.Great.Walk
import Derived.Lib.ConvBytes
namespace Go.Proofs.YteiiaonpdamkhaaDoor.G
open Go.RowKit Go.Proofs.YteiiaonpdamkhaaDoorW.PrintWords Go.Proofs.YteiiaonpdamkhaaDoorW.PrintLast Go.Proofs.YteiiaonpdamkhaaDoorW.PrintMore
set_option linter.unusedVariables false
set_option linter.unusedSimpArgs false

set_option maxHeartbeats 2000000 in
/-- A product, the world staying as it is. -/
theorem mul_same (a b : BitVec 8) (w : World) : Calls Tryd.prog 78 #[.int .u8 (a.toNat : Int), .int .u8 (b.toNat : Int)] w fun e w' => e = .returned (.int .u8 ((GfM.mul a b).toNat : Int)) ∧ w = w' := by
  go_enter Tryd.func78, Tryd.ntmps78
  go_wp2
  go_loop [0, 1, 5] (fun x y p => ∃ (j : Nat) (a1 b1 p1 : BitVec 8), x = .int .u8 (a1.toNat : Int) ∧ y = .int .u8 (b1.toNat : Int) ∧ p = .int .u8 (p1.toNat : Int) ∧ b1.toNat < 2 ^ j ∧ Aside0 (p1 ^^^ GfM.mulk j a1 b1 = GfM.mul a b)) (fun _ y _ => (intOf y).toNat)
  case atStart => exact ⟨8, a, b, 0#8, rfl, rfl, rfl, b.isLt, ⟨by simp [GfM.mul]⟩⟩
  case round =>
    obtain ⟨j, a1, b1, p1, rfl, rfl, rfl, hj, HE⟩ := hrel
    have HJ := Aside0.mk hj
    clear hj
    by_cases h0 : b1.toNat = 0
    · have hb1 : b1 = 0#8 := BitVec.eq_of_toNat_eq (by simpa using h0)
      have c0 : ((b1.toNat : Int) == 0) = true := by simp [h0]
      have c1 : ((b1.toNat : Int) != 0) = false := by simp [h0]
      have HB := Aside0.mk hb1
      clear h0 hb1
      go_wp2
      go_ret
      refine ⟨?_, rfl⟩
      have := HE.out
      rw [HB.out, mulk_zero_right] at this
      rw [← this]; simp
    · have c0 : ((b1.toNat : Int) == 0) = false := by simp; omega
      have c1 : ((b1.toNat : Int) != 0) = true := by simp; omega
      have hpos : 0 < b1.toNat := by omega
      have H0 := Aside0.mk hpos
      clear h0 hpos
      have hp := gfi_pick a1 b1
      have HP := Aside0.mk hp
      clear hp
      go_wp2_with (go_at_call 84; refine (double_same _ _).mono ?_; rintro e w' ⟨rfl, rfl⟩)
      go_round
      case measure => have := H0.out; simp [intOf]; omega
      case rel =>
        have hj := HJ.out
        obtain ⟨j', rfl⟩ : ∃ j', j = j' + 1 := by
          cases j with
          | zero => have := H0.out; simp at hj; omega
          | succ j' => exact ⟨j', rfl⟩
        refine ⟨j', GfM.dbl a1, b1 >>> 1, p1 ^^^ (if b1.getLsbD 0 then a1 else 0#8), rfl, ?_, ?_, ?_, ⟨?_⟩⟩
        · rw [BitVec.toNat_ushiftRight, Nat.shiftRight_eq_div_pow]; rfl
        · rw [← g_xor8, ← HP.out]
        · rw [BitVec.toNat_ushiftRight, Nat.shiftRight_eq_div_pow]; rw [Nat.pow_succ] at hj; omega
        · rw [← HE.out]; simp only [GfM.mulk]; rw [BitVec.xor_assoc]

theorem mul_any (a b : Int) (w : World) (ha0 : 0 ≤ a) (ha1 : a ≤ 255) (hb0 : 0 ≤ b) (hb1 : b ≤ 255) : Calls Tryd.prog 78 #[.int .u8 a, .int .u8 b] w fun e w' => e = .returned (.int .u8 (mulI a b)) ∧ w = w' := by
  have := mul_same (el a) (el b) w
  rwa [el_back ha0 ha1, el_back hb0 hb1] at this
/-- The products of c with the first k halves of a byte, low and high: what the table's cells hold when k rounds are over. -/
def tabV (c : Int) (k : Nat) : Array Value := ((List.range 32).map fun i => Value.int .u8 (if i % 16 < k then mulI c (if i < 16 then (i : Int) else ((i - 16 : Nat) : Int) * 16) else 0)).toArray
theorem tabV_size (c : Int) (k : Nat) : (tabV c k).size = 32 := by simp [tabV]
theorem tabV_get (c : Int) (k i : Nat) (h : i < 32) : (tabV c k)[i]? = some (.int .u8 (if i % 16 < k then mulI c (if i < 16 then (i : Int) else ((i - 16 : Nat) : Int) * 16) else 0)) := by
  simp [tabV, h]
theorem tabV_step (c : Int) (k : Nat) (h : k < 16) : ((tabV c k).setIfInBounds k (.int .u8 (mulI c k))).setIfInBounds (16 + k) (.int .u8 (mulI c ((k : Int) * 16))) = tabV c (k + 1) := by
  apply Array.ext_getElem?
  intro i
  by_cases hi : i < 32
  · have hm : i % 16 = if i < 16 then i else i - 16 := by split <;> omega
    rw [tabV_get _ _ _ hi, Array.getElem?_setIfInBounds, Array.getElem?_setIfInBounds]
    simp only [Array.size_setIfInBounds, tabV_size]
    by_cases h1 : 16 + k = i
    · subst h1
      rw [if_pos rfl, if_pos hi, if_pos (by omega), if_neg (by omega)]
      congr 5
      omega
    · rw [if_neg h1]
      by_cases h2 : k = i
      · subst h2
        rw [if_pos rfl, if_pos hi, if_pos (by omega), if_pos h]
      · rw [if_neg h2, tabV_get _ _ _ hi]
        have h4 : (i % 16 < k + 1) = (i % 16 < k) := by
          apply propext
          rw [hm]; split <;> omega
        simp only [h4]
  · rw [Array.getElem?_eq_none (by simp [tabV_size]; omega), Array.getElem?_eq_none (by rw [tabV_size]; omega)]
set_option maxRecDepth 100000 in
set_option maxHeartbeats 4000000 in
theorem of_calls (c : Int) (w : World) (h0 : 0 ≤ c) (h1 : c ≤ 255) : Calls Tryd.prog 60 #[.int .u8 c] w fun e w' => e = .returned (.agg (tabV c 16)) ∧ Below w.heap.size w w' := by
  go_enter Tryd.func60, Tryd.ntmps60
  go_wp2
  go_loopw [5] (fun i wr => ∃ k : Nat, k ≤ 16 ∧ i = .int .i64 k ∧ Aside0 (wr.heap[w.heap.size + 1]? = some (.cells (tabV c k) 93 (0, 0))) ∧ Aside0 (∃ Z, Z.size = 32 ∧ Z.all (·.oneCell') = true ∧ wr.heap[w.heap.size]? = some (.cells Z 93 (0, 0))) ∧ Aside0 (Below w.heap.size w wr)) (fun i _ => 16 - (intOf i).toNat)
  case atStart => exact ⟨0, by decide, rfl, ⟨by rw [show w.heap.size + 1 = (w.alloc (.cells _ 93)).heap.size from (World.size_alloc _ _).symm]; exact blk_new _ _⟩, ⟨⟨_, by rfl, by simp [Value.oneCell'], blk_alloc (blk_new _ _) _⟩⟩, ⟨((Below.refl _ w).alloc (Nat.le_refl _) _).alloc (by simp) _⟩⟩
  case round =>
    obtain ⟨k, hk, rfl, HT, HZ, HB⟩ := hrel
    by_cases hlt : k < 16
    · have c1 : wr.cell? ⟨w.heap.size + 1, k, none⟩ = some (.int .u8 0) := by rw [blk_cell HT.out, tabV_get _ _ _ (by omega), if_neg (by omega)]
      have c2 : wr.cell? ⟨w.heap.size + 1, 16 + k, none⟩ = some (.int .u8 0) := by rw [blk_cell HT.out, tabV_get _ _ _ (by omega), if_neg (by omega)]
      have f1 : wr.frozen? ⟨w.heap.size + 1, k, none⟩ = false := blk_frozen HT.out _
      have f2 : wr.frozen? ⟨w.heap.size + 1, 16 + k, none⟩ = false := blk_frozen HT.out _
      go_wp2_with (go_at_call 78; refine (mul_any _ _ _ (by omega) (by omega) (by omega) (by omega)).mono ?_; rintro e w' ⟨rfl, rfl⟩)
      go_roundw
      case rel => exact ⟨k + 1, by omega, by go_num, ⟨by have := blk_set (blk_set HT.out k (.int .u8 (mulI c k))) (16 + k) (.int .u8 (mulI c ((k : Int) * 16))); rwa [tabV_step c k hlt] at this⟩, ⟨by obtain ⟨Z, hz1, hz2, hz3⟩ := HZ.out; exact ⟨Z, hz1, hz2, blk_far (blk_far hz3 (by simp) _) (by simp) _⟩⟩, ⟨(HB.out.setCell (p := ⟨w.heap.size + 1, k, none⟩) (by simp) _).setCell (p := ⟨w.heap.size + 1, 16 + k, none⟩) (by simp) _⟩⟩
      case measure => simp [intOf]; omega
    · obtain ⟨Z, hz1, hz2, hz3⟩ := HZ.out
      have HZ1 := Aside0.mk hz1
      have HZ2 := Aside0.mk hz2
      have HZ3 := Aside0.mk hz3
      clear hz1 hz2 hz3
      have HT2 : Aside0 (wr.heap[w.heap.size + 1]? = some (.cells (tabV c 16) 93 (0, 0))) := ⟨by have := HT.out; rwa [show k = 16 from by omega] at this⟩
      go_wp2_with (first | (refine wpList_load_row rfl 93 (.tmp 3) rfl (w.heap.size + 1) rfl 93 (tabV c 16) (0, 0) _ HT2.out Tryd.underlying93 rfl (by rw [tabV_size]; kernel_rfl) ?_) | (refine wpList_store_row rfl 93 (.tmp 2) (.tmp 24) rfl w.heap.size (tabV c 16) rfl rfl 93 _ HZ3.out (by rw [tabV_size]; kernel_rfl) (by rw [HZ1.out, tabV_size]) (by simp [tabV, Value.oneCell']) ?_))
      refine bodyPost_ret (v := .agg (tabV c 16)) (results_cell_row rfl _ _ w.heap.size 93 (tabV c 16) (0, 0) _ rfl ?_ Tryd.underlying93 rfl (by rw [tabV_size]; kernel_rfl)) rfl ⟨rfl, ?_⟩
      · exact setRow_heap _ _ _ _ _ _ HZ3.out
      · exact below_setRow HB.out (Nat.le_refl _) _

/-- A table in memory: block g holds c's products. -/
def TabAt (w : World) (g : Nat) (c : Int) : Prop := w.heap[g]? = some (.cells (tabV c 16) 93 (0, 0))
theorem TabAt.cell {w : World} {g : Nat} {c : Int} (h : TabAt w g c) (i : Nat) (hi : i < 32) : w.cell? ⟨g, i, none⟩ = some (.int .u8 (mulI c (if i < 16 then (i : Int) else ((i - 16 : Nat) : Int) * 16))) := by
  rw [blk_cell h, tabV_get _ _ _ hi, if_pos (by omega)]
theorem mulI_split (c b : Int) (lo hi : Nat) (hlo : lo < 16) (h : b = (lo : Int) + 16 * (hi : Int)) (hh : hi < 16) : Go.bits .xor .u8 (mulI c lo) (mulI c ((hi : Int) * 16)) = mulI c b := by
  unfold mulI
  rw [g_xor8, ← GfM.mul_xor_right]
  have := GfM.ofNat_split 4 lo hi hlo
  have e1 : el b = BitVec.ofNat 8 (lo + 2 ^ 4 * hi) := by
    rw [h]; apply BitVec.eq_of_toNat_eq; unfold el; rw [BitVec.toNat_ofInt, BitVec.toNat_ofNat]; omega
  have e2 : el ((lo : Nat) : Int) = BitVec.ofNat 8 lo := by
    apply BitVec.eq_of_toNat_eq; unfold el; rw [BitVec.toNat_ofInt, BitVec.toNat_ofNat]; omega
  have e3 : el ((hi : Int) * 16) = BitVec.ofNat 8 (2 ^ 4 * hi) := by
    apply BitVec.eq_of_toNat_eq; unfold el; rw [BitVec.toNat_ofInt, BitVec.toNat_ofNat]; omega
  rw [e1, e2, e3, this]
set_option maxHeartbeats 2000000 in
theorem tmul_calls (g : Nat) (c b : Int) (w : World) (hT : Aside0 (TabAt w g c)) (h0 : 0 ≤ b) (h1 : b ≤ 255) :
    Calls Tryd.prog 61 #[.pointer (some ⟨g, 0, none⟩), .int .u8 b] w fun e w' => e = .returned (.int .u8 (mulI c b)) ∧ Drawn0 w w' := by
  have hm : Go.bits .and .u8 b 15 = b % 16 := Go.bits_mask .u8 8 (by decide) (fun n h0 h1 => by rw [IntKind.wrap_u8]; omega) 4 (by decide) b h0 (by omega)
  obtain ⟨lo, hlo⟩ : ∃ lo : Nat, b % 16 = (lo : Int) := Int.eq_ofNat_of_zero_le (by omega)
  obtain ⟨hi, hhi⟩ : ∃ hi : Nat, b / 16 = (hi : Int) := Int.eq_ofNat_of_zero_le (by omega)
  have d1 := hT.out.cell lo (by omega)
  have d2 := hT.out.cell (16 + hi) (by omega)
  rw [if_pos (by omega)] at d1
  rw [if_neg (by omega), show 16 + hi - 16 = hi from by omega] at d2
  have hlt1 : lo < 16 := by omega
  have hlt2 : hi < 16 := by omega
  have HS := Aside0.mk (mulI_split c b lo hi hlt1 (by omega) hlt2)
  rw [hlo] at hm
  go_enter Tryd.func61, Tryd.ntmps61
  go_wp2
  go_region
  go_wp2
  go_ret
  exact ⟨by rw [← HS.out]; rfl, ⟨⟨1, rfl⟩⟩⟩

theorem gf_store_new {P : Program} {ops : Array Oper} {rest : List Oper} {o : Oper} {a : Act} {W : World} {Q : Exit → Act → World → Prop} (hgd : o.guard = none) (ty : TypeId) (x y : Operand) (ho : o.op = .store ty x y)
    (g : Nat) (hgs : g = W.heap.size) (old cells : Array Value) (hx : a.eval x = .pointer (some ⟨g, 0, none⟩)) (hy : a.eval y = .agg cells) (t : TypeId) (hi : (P.info? ty).map (·.size) = some cells.size)
    (hold : old.size = cells.size) (h1 : cells.all (·.oneCell') = true) (h : wpList P ops Q rest (a.put o.dst undef) (W.alloc (.cells cells t))) : wpList P ops Q (o :: rest) a (W.alloc (.cells old t)) := by
  subst hgs
  refine wpList_store_row hgd ty x y ho W.heap.size cells hx hy t old (heap_alloc_last W _) hi hold h1 ?_
  rw [World.setRow_alloc_new]
  exact h
/-- What a round keeps: the row's cells, none of them marked. -/
def RowB (g off : Nat) (xs : List Int) (w : World) : Prop := ∀ j, j < xs.length → w.cell? ⟨g, off + j, none⟩ = some (.int .u8 (xs.getD j 0)) ∧ w.frozen? ⟨g, off + j, none⟩ = false
theorem RowB.set_ {g off : Nat} {xs : List Int} {w : World} (h : RowB g off xs w) (k : Nat) (hk : k < xs.length) (v : Int) : RowB g off (xs.set k v) (w.setCell ⟨g, off + k, none⟩ (.int .u8 v)) := by
  intro j hj
  have hj' : j < xs.length := by simpa using hj
  obtain ⟨a, b⟩ := h j hj'
  refine ⟨?_, by rw [World.frozen?_setCell]; exact b⟩
  by_cases e : j = k
  · subst e
    rw [World.cell?_setCell_same _ _ _ a]
    simp [List.getD_eq_getElem?_getD, List.getElem?_set, hk]
  · rw [World.cell?_setCell_other _ _ _ _ (by intro h'; injection h' with _ h''; omega), a]
    simp [List.getD_eq_getElem?_getD, List.getElem?_set, Ne.symm e]
/-- Each byte, times c, as far as k rounds have come. -/
def scaled (c : Int) (l : List Int) (k : Nat) : List Int := (l.take k).map (mulI c) ++ l.drop k
theorem scaled_length (c : Int) (l : List Int) (k : Nat) : (scaled c l k).length = l.length := by simp [scaled]; omega
theorem scaled_get (c : Int) (l : List Int) (k : Nat) (h : k < l.length) : (scaled c l k).getD k 0 = l.getD k 0 := by
  unfold scaled
  rw [List.getD_eq_getElem?_getD, List.getElem?_append_right (by simp; omega), List.getElem?_drop]
  simp [List.getD_eq_getElem?_getD, Nat.min_eq_left (Nat.le_of_lt h)]
theorem scaled_step (c : Int) (l : List Int) (k : Nat) (h : k < l.length) : (scaled c l k).set k (mulI c (l.getD k 0)) = scaled c l (k + 1) := by
  unfold scaled
  have hk : ((l.take k).map (mulI c)).length = k := by simp; omega
  rw [List.set_append_right _ _ (by omega), hk, Nat.sub_self, List.drop_eq_getElem_cons h, List.set_cons_zero, List.take_succ_eq_append_getElem h]
  simp only [List.map_append, List.map_cons, List.map_nil, List.append_assoc, List.cons_append, List.nil_append, List.getD_eq_getElem?_getD, List.getElem?_eq_getElem h, Option.getD_some]
def gf_Scale.f (a0 : Int) (a1 : ByteArray) : Option ByteArray := if isB a0 ∧ a1.size ≤ 1099511627776 then some (strOfNums ((bytesOf a1).map (mulI a0))) else none

theorem bytes_row (W : World) (s : ByteArray) : RowB W.heap.size 0 (bytesOf s) (Lib.bytesWorld W 5 s) := by
  intro j hj
  rw [bytesOf_length] at hj
  rw [Nat.zero_add]
  refine ⟨?_, ?_⟩
  · rw [Lib.bytesWorld_cell W 5 s j hj]
    have h' : j < s.data.toList.length := by rw [data_length]; exact hj
    simp [bytesOf, List.getD_eq_getElem?_getD, List.getElem?_eq_getElem h']
  · have hn := Lib.bytesWorld_at_new W 5 s
    have hsz : s.size ≤ (Lib.bytesCells W 5 s).size := by simp [Lib.bytesCells]
    simp [World.frozen?, hn]
    omega
set_option maxHeartbeats 4000000 in
set_option maxRecDepth 100000 in
theorem gf_Scale.calls (a0 : Int) (a1 : ByteArray) (r : ByteArray) (w : World) (h : gf_Scale.f a0 a1 = some r) :
    Calls Tryd.prog 74 #[.int .u8 a0, .string a1] w fun e w' => e = .returned (.string r) ∧ Below w.heap.size w w' := by
  unfold gf_Scale.f at h
  by_cases hc : isB a0 ∧ a1.size ≤ 1099511627776
  · rw [if_pos hc] at h
    obtain rfl := Option.some.inj h
    clear h
    obtain ⟨⟨h0, h1⟩, hs⟩ := hc
    have H0 := Aside0.mk h0
    have H1 := Aside0.mk h1
    have HS := Aside0.mk hs
    clear h0 h1 hs
    have kb := fun W => print_bytes (P := Tryd.prog) 9 76 5 Tryd.underlying9 Tryd.underlying76 Tryd.underlying5 a1 W
    obtain ⟨l, hl⟩ : ∃ l, l = bytesOf a1 := ⟨_, rfl⟩
    have hlen : l.length = a1.size := by rw [hl]; exact bytesOf_length a1
    have hrng : ∀ k, k < l.length → 0 ≤ l.getD k 0 ∧ l.getD k 0 ≤ 255 := by
      intro k hk
      have := bt_range a1 k
      rw [← rd_bytesOf] at this
      unfold rd at this
      rwa [Int.toNat_natCast, ← hl] at this
    rw [← hl]
    have HL := Aside0.mk hl
    have HLEN := Aside0.mk hlen
    have HRNG := Aside0.mk hrng
    clear hl hlen hrng
    go_enter Tryd.func74, Tryd.ntmps74
    go_wp2_with (first | (go_at_call 60; refine (of_calls a0 _ H0.out H1.out).mono ?_; rintro e w1 ⟨rfl, hb⟩; have HB1 := Aside0.mk hb; clear hb) | (refine gf_store_new rfl 93 (.tmp 5) (.tmp 10) rfl _ rfl _ (tabV a0 16) rfl rfl 93 (by rw [tabV_size]; kernel_rfl) (by rw [tabV_size]; rfl) (by simp [tabV, Value.oneCell']) ?_))
    clear kb
    have start := bytes_row (w1.alloc (.cells (tabV a0 16) 93)) a1
    have hb : Below w.heap.size w (Lib.bytesWorld (w1.alloc (.cells (tabV a0 16) 93)) 5 a1) := bytes_below (below_alloc HB1.out _) (below_alloc HB1.out _).size 5 a1
    have ht : TabAt (Lib.bytesWorld (w1.alloc (.cells (tabV a0 16) 93)) 5 a1) w1.heap.size a0 := blk_below (blk_new w1 _) (bytes_below (Below.refl _ _) (Nat.le_refl _) 5 a1)
    rw [World.size_alloc, ← HL.out] at start
    have START := Aside0.mk start
    have HB2 := Aside0.mk hb
    have HT2 := Aside0.mk ht
    have HW := Aside0.mk HB1.out.size
    clear start hb ht
    go_loopw [15] (fun i wr => ∃ k : Nat, k ≤ a1.size ∧ i = .int .i64 k ∧ Aside0 (RowB (w1.heap.size + 1) 0 (scaled a0 l k) wr) ∧ Aside0 (TabAt wr w1.heap.size a0) ∧ Aside0 (Below w.heap.size w wr)) (fun i _ => a1.size - (intOf i).toNat)
    case atStart => exact ⟨0, Nat.zero_le _, rfl, ⟨by simpa [scaled] using START.out⟩, HT2, HB2⟩
    case round =>
      obtain ⟨k, hk, rfl, HR, HT, HB⟩ := hrel
      have hsz := HS.out
      by_cases hlt : k < a1.size
      · obtain ⟨cc, cf⟩ := HR.out k (by rw [scaled_length, HLEN.out]; exact hlt)
        rw [scaled_get _ _ _ (by rw [HLEN.out]; exact hlt), Nat.zero_add] at cc
        rw [Nat.zero_add] at cf
        obtain ⟨x0, x1⟩ := HRNG.out k (by rw [HLEN.out]; exact hlt)
        obtain ⟨x, hx⟩ : ∃ x, x = l.getD k 0 := ⟨_, rfl⟩
        rw [← hx] at cc x0 x1
        have HX := Aside0.mk hx
        clear hx
        go_wp2_with (go_at_call 61; refine (tmul_calls w1.heap.size a0 x _ ?hT x0 x1).mono ?_; (case hT => exact HT); rintro e w2 ⟨rfl, ⟨nd, rfl⟩⟩)
        go_roundw
        case rel =>
          have h2 := RowB.set_ HR.out k (by rw [scaled_length, HLEN.out]; exact hlt) (mulI a0 x)
          rw [Nat.zero_add, HX.out, scaled_step _ _ _ (by rw [HLEN.out]; exact hlt), ← HX.out] at h2
          exact ⟨k + 1, by omega, by go_num, ⟨h2⟩, ⟨blk_far HT.out (by simp) _⟩, ⟨Below.setCell (pw_below_drewN HB.out nd) (by have := HW.out; simp; omega) _⟩⟩
        case measure => simp [intOf]; omega
      · have cv : (convert 76 9 (.slice (some ⟨w1.heap.size + 1, 0, none⟩) a1.size (grownCap (w1.alloc (.cells (tabV a0 16) 93)) a1.size 0 5))).run Tryd.prog wr = .ok (.string (strOfNums (l.map (mulI a0)))) wr := by
          refine run_convert_bytes_arg wr 76 5 Tryd.underlying76 Tryd.underlying5 (w1.heap.size + 1) 0 a1.size _ (l.map (mulI a0)) (by rw [List.length_map, HLEN.out]) (fun i hi => ?_) 9 Tryd.underlying9
          have := (HR.out i (by rw [scaled_length, HLEN.out]; exact hi)).1
          rwa [show scaled a0 l k = l.map (mulI a0) from by unfold scaled; rw [List.take_of_length_le (by rw [HLEN.out]; omega), List.drop_of_length_le (by rw [HLEN.out]; omega), List.append_nil]] at this
        go_wp2
        go_ret
        exact ⟨rfl, HB.out⟩
  · rw [if_neg hc] at h; cases h

/-- What Put leaves of a row: s's bytes, times c, added as far as k rounds have come. -/
def putL (c : Int) (s l : List Int) : Nat → List Int
  | 0 => l
  | k + 1 => (putL c s l k).set k (Go.bits .xor .u8 (l.getD k 0) (mulI c (s.getD k 0)))
theorem putL_length (c : Int) (s l : List Int) : ∀ k, (putL c s l k).length = l.length
  | 0 => rfl
  | k + 1 => by simp [putL, putL_length c s l k]
theorem putL_get (c : Int) (s l : List Int) : ∀ k j, k ≤ j → (putL c s l k).getD j 0 = l.getD j 0
  | 0, _, _ => rfl
  | k + 1, j, h => by
    rw [← putL_get c s l k j (by omega)]
    simp only [putL, List.getD_eq_getElem?_getD]
    rw [List.getElem?_set_ne (by omega)]
/-- Block g's cells behind a row that lies in it, from off on, has turned to l. -/
def rowIn (cs : Array Value) (off : Nat) (l : List Int) : Array Value := (cs.toList.take off ++ nums .u8 l ++ cs.toList.drop (off + l.length)).toArray
/-- A row of bytes l in block g from off on; the block's other cells. -/
structure RowAt (w : World) (g off : Nat) (t : TypeId) (cs : Array Value) (l : List Int) : Prop where
  blk : w.heap[g]? = some (.cells (rowIn cs off l) t (0, 0))
  fit : off + l.length ≤ cs.size
theorem rowIn_get (cs : Array Value) (off : Nat) (l : List Int) (hf : off + l.length ≤ cs.size) (k : Nat) (hk : k < l.length) : (rowIn cs off l)[off + k]? = some (.int .u8 (l.getD k 0)) := by
  simp only [rowIn, List.getElem?_toArray]
  rw [List.append_assoc, List.getElem?_append_right (by simp; omega), List.getElem?_append_left (by simp [nums]; omega)]
  have : off + k - (List.take off cs.toList).length = k := by simp; omega
  rw [this]
  simp [nums, hk, List.getD_eq_getElem?_getD]
theorem rowIn_set (cs : Array Value) (off : Nat) (l : List Int) (hf : off + l.length ≤ cs.size) (k : Nat) (hk : k < l.length) (v : Int) : (rowIn cs off l).setIfInBounds (off + k) (.int .u8 v) = rowIn cs off (l.set k v) := by
  simp only [rowIn, List.setIfInBounds_toArray, List.length_set]
  congr 1
  rw [List.append_assoc, List.append_assoc, List.set_append_right _ _ (by simp; omega)]
  congr 1
  have : off + k - (List.take off cs.toList).length = k := by simp; omega
  rw [this, List.set_append_left _ _ (by simp [nums]; exact hk)]
  simp [nums, List.map_set]
theorem RowAt.cell {w : World} {g off : Nat} {t : TypeId} {cs : Array Value} {l : List Int} (h : RowAt w g off t cs l) (k : Nat) (hk : k < l.length) : w.cell? ⟨g, off + k, none⟩ = some (.int .u8 (l.getD k 0)) := by
  rw [blk_cell h.blk, rowIn_get cs off l h.fit k hk]
theorem RowAt.set_ {w : World} {g off : Nat} {t : TypeId} {cs : Array Value} {l : List Int} (h : RowAt w g off t cs l) (k : Nat) (hk : k < l.length) (v : Int) : RowAt (w.setCell ⟨g, off + k, none⟩ (.int .u8 v)) g off t cs (l.set k v) :=
  ⟨by rw [← rowIn_set cs off l h.fit k hk]; exact blk_set h.blk _ _, by rw [List.length_set]; exact h.fit⟩

theorem gb_drewN {w W : World} {r : Option Nat} (h : w.grownBy W r) (n : Nat) : w.grownBy (W.drewN n) r := ⟨h.os, h.tape, h.output, h.size, h.block⟩
theorem gb_set {w W : World} {g : Nat} (h : w.grownBy W (some g)) (j : Nat) (v : Value) : w.grownBy (W.setCell ⟨g, j, none⟩ v) (some g) :=
  ⟨h.os, h.tape, h.output, by have := h.size; simpa [World.setCell] using this, fun k hk hne => (Below.heap_setCell W ⟨g, j, none⟩ v k (fun e => hne (by rw [e]))).trans (h.block k hk hne)⟩
set_option maxHeartbeats 4000000 in
set_option maxRecDepth 100000 in
theorem put_calls (g off cap : Nat) (t : TypeId) (cs : Array Value) (l : List Int) (c : Int) (s : ByteArray) (w : World) (hR : RowAt w g off t cs l) (hl : ∀ k, k < l.length → isB (l.getD k 0)) (hg : g < w.heap.size) (hcap : l.length ≤ cap)
    (hlen : l.length ≤ 1099511627776) (hs : s.size ≤ 1099511627776) (h0 : 0 ≤ c) (h1 : c ≤ 255) :
    Calls Tryd.prog 46 #[.slice (some ⟨g, off, none⟩) l.length cap, .int .u8 c, .string s] w fun e w' => e = .returned (.tuple #[]) ∧ w.grownBy w' (some g) ∧ RowAt w' g off t cs (putL c (bytesOf s) l (min l.length s.size)) := by
  have HR0 := Aside0.mk hR
  have HLR := Aside0.mk hl
  have HG := Aside0.mk hg
  have HC := Aside0.mk hcap
  have HLN := Aside0.mk hlen
  have HS := Aside0.mk hs
  have H0 := Aside0.mk h0
  have H1 := Aside0.mk h1
  clear hR hl hg hcap hlen hs h0 h1
  go_enter Tryd.func46, Tryd.ntmps46
  go_wp2_with (first | (go_at_call 60; refine (of_calls c _ H0.out H1.out).mono ?_; rintro e w1 ⟨rfl, hb⟩; have HB1 := Aside0.mk hb; clear hb) | (refine gf_store_new rfl 93 (.tmp 6) (.tmp 9) rfl _ rfl _ (tabV c 16) rfl rfl 93 (by rw [tabV_size]; kernel_rfl) (by rw [tabV_size]; rfl) (by simp [tabV, Value.oneCell']) ?_))
  have hr1 : RowAt (w1.alloc (.cells (tabV c 16) 93)) g off t cs l := ⟨blk_alloc (blk_below HR0.out.blk HB1.out) _, HR0.out.fit⟩
  have ht1 : TabAt (w1.alloc (.cells (tabV c 16) 93)) w1.heap.size c := blk_new w1 _
  have hg1 : w.grownBy (w1.alloc (.cells (tabV c 16) 93)) (some g) := grown_of_below (below_alloc HB1.out _) _
  have hw1 : g < w1.heap.size := Nat.lt_of_lt_of_le HG.out HB1.out.size
  have HR1 := Aside0.mk hr1
  have HT1 := Aside0.mk ht1
  have HG1 := Aside0.mk hg1
  have HW1 := Aside0.mk hw1
  clear hr1 ht1 hg1 hw1
  go_loopw [15] (fun i wr => ∃ k : Nat, k ≤ min l.length s.size ∧ i = .int .i64 k ∧ Aside0 (RowAt wr g off t cs (putL c (bytesOf s) l k)) ∧ Aside0 (TabAt wr w1.heap.size c) ∧ Aside0 (w.grownBy wr (some g))) (fun i _ => min l.length s.size - (intOf i).toNat)
  case atStart => exact ⟨0, Nat.zero_le _, rfl, HR1, HT1, HG1⟩
  case round =>
    obtain ⟨k, hk, rfl, HR, HT, HB⟩ := hrel
    have hln := HLN.out
    have hss := HS.out
    have hcp := HC.out
    by_cases hlt : k < min l.length s.size
    · have k1 : k < l.length := by omega
      have k2 : k < s.size := by omega
      have kpl : k < (putL c (bytesOf s) l k).length := by rw [putL_length]; exact k1
      have cc := HR.out.cell k kpl
      rw [putL_get _ _ _ _ _ (Nat.le_refl _)] at cc
      have cf : wr.frozen? ⟨g, off + k, none⟩ = false := blk_frozen HR.out.blk _
      have KPL := Aside0.mk kpl
      obtain ⟨y, hy⟩ : ∃ y, y = l.getD k 0 := ⟨_, rfl⟩
      have hyb := HLR.out k k1
      rw [← hy] at cc hyb
      obtain ⟨y0, y1⟩ := hyb
      have HY := Aside0.mk hy
      clear hy kpl
      have x0 : (0 : Int) ≤ (s[k].toNat : Int) := by omega
      have x1 : (s[k].toNat : Int) ≤ 255 := by have := s[k].toNat_lt; omega
      have hsk : (bytesOf s).getD k 0 = (s[k].toNat : Int) := by
        have h' : k < s.data.toList.length := by rw [data_length]; exact k2
        simp [bytesOf, List.getD_eq_getElem?_getD, List.getElem?_eq_getElem h']; rfl
      have HSK := Aside0.mk hsk
      clear hsk
      have hlt2 : (k : Int) < min (l.length : Int) (s.size : Int) := by omega
      go_wp2
      go_region_with (go_at_call 61; refine (tmul_calls w1.heap.size c _ _ ?hT x0 x1).mono ?_; (case hT => exact HT); rintro e w2 ⟨rfl, ⟨nd, rfl⟩⟩)
      all_goals
        go_wp2
        go_roundw
        case rel =>
          have h2 := RowAt.set_ HR.out k KPL.out (Go.bits .xor .u8 y (mulI c (s[k].toNat : Int)))
          refine ⟨k + 1, by omega, by go_num, ⟨?_⟩, ⟨blk_far HT.out (by have := HW1.out; simp; omega) _⟩, ⟨gb_set (gb_drewN HB.out _) _ _⟩⟩
          show RowAt _ g off t cs ((putL c (bytesOf s) l k).set k (Go.bits .xor .u8 (l.getD k 0) (mulI c ((bytesOf s).getD k 0))))
          rw [← HY.out, HSK.out]
          exact ⟨h2.blk, h2.fit⟩
        case measure => simp [intOf]; omega
    · have hke : k = min l.length s.size := by omega
      have HKE := Aside0.mk hke
      clear hke
      have hlt2 : ¬ (k : Int) < min (l.length : Int) (s.size : Int) := by omega
      go_wp2
      go_end0
      exact ⟨rfl, HB.out, by rw [← HKE.out]; exact HR.out⟩

set_option maxHeartbeats 4000000 in
set_option maxRecDepth 100000 in
theorem put_none (c : Int) (s : ByteArray) (w : World) (hs : s.size ≤ 1099511627776) (h0 : 0 ≤ c) (h1 : c ≤ 255) :
    Calls Tryd.prog 46 #[.slice none 0 0, .int .u8 c, .string s] w fun e w' => e = .returned (.tuple #[]) ∧ Below w.heap.size w w' := by
  have H0 := Aside0.mk h0
  have H1 := Aside0.mk h1
  clear h0 h1
  go_enter Tryd.func46, Tryd.ntmps46
  go_wp2_with (first | (go_at_call 60; refine (of_calls c _ H0.out H1.out).mono ?_; rintro e w1 ⟨rfl, hb⟩; have HB1 := Aside0.mk hb; clear hb) | (refine gf_store_new rfl 93 (.tmp 6) (.tmp 9) rfl _ rfl _ (tabV c 16) rfl rfl 93 (by rw [tabV_size]; kernel_rfl) (by rw [tabV_size]; rfl) (by simp [tabV, Value.oneCell']) ?_))
  go_loopw [15] (fun i wr => i = .int .i64 0 ∧ Aside0 (Below w.heap.size w wr)) (fun _ _ => 0)
  case atStart => exact ⟨rfl, ⟨below_alloc HB1.out _⟩⟩
  case round =>
    obtain ⟨rfl, HB⟩ := hrel
    have hlt2 : ¬ (0 : Int) < min 0 (s.size : Int) := by omega
    go_wp2
    go_end0
    exact ⟨rfl, HB.out⟩

def gf_Put.f (l0 : List Int) (a1 : Int) (a2 : ByteArray) : Option (List Int) :=
  if isB a1 ∧ a2.size ≤ 1099511627776 ∧ l0.length ≤ 1099511627776 ∧ (∀ x ∈ l0, isB x) then some (putL a1 (bytesOf a2) l0 (min l0.length a2.size)) else none
theorem gf_Put.calls (P0_ : Nat → Prop) (u9000_ : Value) (l0 : List Int) (a1 : Int) (a2 : ByteArray) (r : List Int) (w0 w : World) (hB : Below w0.heap.size w0 w) (ho0 : Kd.R (Kd.int .u8) 5 w w0.heap.size P0_ u9000_ l0) (h : gf_Put.f l0 a1 a2 = some r) :
    Calls Tryd.prog 46 #[u9000_, .int .u8 a1, .string a2] w fun e w' => e = .returned (.tuple #[]) ∧ Kd.R (Kd.int .u8) 5 w' w0.heap.size (fun k_ => (P0_ k_ ∨ w.heap.size ≤ k_)) u9000_ r ∧ Below w0.heap.size w0 w' ∧ Kept w w' (fun k_ => P0_ k_) := by
  unfold gf_Put.f at h
  by_cases hc : isB a1 ∧ a2.size ≤ 1099511627776 ∧ l0.length ≤ 1099511627776 ∧ (∀ x ∈ l0, isB x)
  · rw [if_pos hc] at h
    obtain rfl := Option.some.inj h
    obtain ⟨⟨h0, h1⟩, hs, hl, hx⟩ := hc
    have hok := ho0.1
    have ho : w.ownsRow w0.heap.size 5 1 u9000_ l0.length (nums .u8 l0) := Kd.own_of_R ho0
    obtain ⟨hlen, ⟨rfl, hn⟩ | ⟨g, cap, cur, rfl, hg, hh, hcap, hmax, hsz, hcell⟩⟩ := ho
    · obtain rfl : l0 = [] := List.eq_nil_of_length_eq_zero hn
      refine (put_none a1 a2 w hs h0 h1).mono ?_
      rintro e w' ⟨rfl, hb⟩
      exact ⟨rfl, Kd.R_nil _ _ _ _ _, below_then hB hB.size hb, Kept.of_below hb _⟩
    · rw [Nat.mul_one] at hsz hcell
      have hin : rowIn cur 0 l0 = cur := by
        apply Array.ext'
        unfold rowIn
        simp only [List.take_zero, List.nil_append, Nat.zero_add]
        rw [← hcell]
        exact List.take_append_drop _ _
      have hR : RowAt w g 0 5 cur l0 := ⟨by rw [hin]; exact hh, by omega⟩
      refine (put_calls g 0 cap 5 cur l0 a1 a2 w hR (fun k hk => ?_) (blk_lt hh) hcap hl hs h0 h1).mono ?_
      · rw [List.getD_eq_getElem?_getD, List.getElem?_eq_getElem hk]
        exact hx _ (List.getElem_mem hk)
      · rintro e w' ⟨rfl, hgr, hR'⟩
        have hll : (putL a1 (bytesOf a2) l0 (min l0.length a2.size)).length = l0.length := putL_length _ _ _ _
        refine ⟨rfl, ?_, hB.grown hgr hB.size (fun k e => by cases e; exact hg), Kept.of_grown hgr (Kept.refl w _) (fun k e => by cases e; exact .inl (hok g rfl))⟩
        refine Kd.R_of_own ?_ (fun k hk => .inl (hok k hk))
        rw [hll]
        refine ⟨?_, .inr ⟨g, cap, _, rfl, hg, hR'.blk, hcap, hmax, ?_, ?_⟩⟩
        · show (nums .u8 _).length = _
          rw [nums_length, hll, Nat.mul_one]
        · have := hR'.fit
          simp only [rowIn, List.size_toArray, List.length_append, List.length_take, List.length_drop, nums_length, Array.length_toList, hll]
          omega
        · simp only [rowIn, List.take_zero, List.nil_append, Nat.mul_one]
          rw [List.take_left' (by rw [nums_length, hll])]
          rfl
  · rw [if_neg hc] at h; cases h
end Go.Proofs.YteiiaonpdamkhaaDoor.G
