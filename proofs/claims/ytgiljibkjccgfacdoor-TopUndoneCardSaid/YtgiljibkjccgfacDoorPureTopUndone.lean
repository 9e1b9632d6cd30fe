/- TopUndone: the pure statement: numbers and lists alone. Conditions: those of the statement itself. -/
import Derived.Test.YtgiljibkjccgfacDoorGx1
import Derived.OpenShut
namespace Go.Proofs.YtgiljibkjccgfacDoor.Pure
open Go.RowKit Go.Proofs.YtgiljibkjccgfacDoor.G Go.Proofs.YtgiljibkjccgfacDoorW.PrintWords Go.Proofs.YtgiljibkjccgfacDoorW.PrintLast Go.Proofs.YtgiljibkjccgfacDoorW.PrintMore Go.OpenShut
set_option linter.unusedVariables false
set_option linter.unusedSimpArgs false
theorem and_one (a : BitVec 32) : Go.bits .and .u32 (a.toNat : Int) 1 = ((a.toNat % 2 : Nat) : Int) := by
  have := Go.bits_mask .u32 32 (by decide) (fun n h0 h1 => by rw [IntKind.wrap_u32]; omega) 1 (by decide) (a.toNat : Int) (by omega) (by have := a.isLt; omega)
  simpa using this
theorem poly_toNat : ((CrcM.poly : BitVec 32).toNat : Int) = 2197175160 := by decide
theorem not32 (x : BitVec 32) : Go.bits .xor .u32 4294967295 (x.toNat : Int) = ((~~~ x).toNat : Int) := by
  have h := bits_xor32 CrcM.ones x
  have e : (((CrcM.ones : BitVec 32).toNat : Nat) : Int) = 4294967295 := by decide
  rw [e] at h
  rw [h, show CrcM.ones = BitVec.allOnes 32 from by decide, BitVec.allOnes_xor]
theorem sum_eq (s : ByteArray) (hs : s.size ≤ 140737488355328) : crc_Sum.f s = some ((CrcM.sum s.data.toList).toNat : Int) := by
  unfold crc_Sum.f crc_Start.f crc_Add.f crc_End.f
  simp only [Option.bind_some]
  rw [if_pos ⟨by decide, by decide, hs⟩]
  simp only [Option.bind_some]
  unfold crcI
  rw [show BitVec.ofInt 32 4294967295 = CrcM.ones from by decide, not32]
  rfl
theorem ones_int : (((CrcM.ones : BitVec 32).toNat : Nat) : Int) = 4294967295 := by decide
theorem not32r (x : BitVec 32) : Go.bits .xor .u32 (x.toNat : Int) 4294967295 = ((~~~ x).toNat : Int) := by
  have h := bits_xor32 x CrcM.ones
  rw [ones_int] at h
  rw [h, show CrcM.ones = BitVec.allOnes 32 from by decide, BitVec.xor_allOnes]
def four (x : BitVec 32) : List UInt8 := Lib.bytesOf (bytes4 (x.toNat : Int))
theorem four_length (x : BitVec 32) : (four x).length = 4 := rfl
theorem four_eq (x : BitVec 32) : four x = [UInt8.ofNat (x.toNat % 256), UInt8.ofNat (x.toNat / 256 % 256), UInt8.ofNat (x.toNat / 65536 % 256), UInt8.ofNat (x.toNat / 16777216 % 256)] := by
  unfold four bytes4 Lib.bytesOf
  simp only [List.map_cons, List.map_nil]
  congr 1
theorem num_four (x : BitVec 32) : CrcM.num (four x) = x.toNat := by
  have hx := x.isLt
  rw [four_eq]
  simp only [CrcM.num, UInt8.toNat_ofNat']
  omega
theorem four_num (q : List UInt8) (h : q.length = 4) : four (BitVec.ofNat 32 (CrcM.num q)) = q := by
  match q, h with
  | [a, b, c, d], _ =>
    have ha := a.toNat_lt
    have hb := b.toNat_lt
    have hc := c.toNat_lt
    have hd := d.toNat_lt
    rw [four_eq]
    simp only [CrcM.num, BitVec.toNat_ofNat]
    have e1 : (a.toNat + 256 * (b.toNat + 256 * (c.toNat + 256 * (d.toNat + 256 * 0)))) % 2 ^ 32 % 256 = a.toNat := by omega
    have e2 : (a.toNat + 256 * (b.toNat + 256 * (c.toNat + 256 * (d.toNat + 256 * 0)))) % 2 ^ 32 / 256 % 256 = b.toNat := by omega
    have e3 : (a.toNat + 256 * (b.toNat + 256 * (c.toNat + 256 * (d.toNat + 256 * 0)))) % 2 ^ 32 / 65536 % 256 = c.toNat := by omega
    have e4 : (a.toNat + 256 * (b.toNat + 256 * (c.toNat + 256 * (d.toNat + 256 * 0)))) % 2 ^ 32 / 16777216 % 256 = d.toNat := by omega
    rw [e1, e2, e3, e4]
    simp
theorem add_four (r : BitVec 32) (q : List UInt8) (h : q.length = 4) : CrcM.add r q = CrcM.stn 32 (r ^^^ BitVec.ofNat 32 (CrcM.num q)) := by
  have hl := CrcM.num_lt q
  rw [h] at hl
  rw [CrcM.add_fd, h]
  exact CrcM.fd_stn 32 r _ (by decide) hl
theorem whole_eq : (~~~ CrcM.stn 32 CrcM.ones) = 0x48674bc7#32 := by decide +kernel
theorem ofNat_num (q : List UInt8) (h : q.length = 4) (x : BitVec 32) : BitVec.ofNat 32 (CrcM.num q) = x ↔ q = four x := by
  constructor
  · intro e; rw [← e, four_num q h]
  · intro e; rw [e, num_four]; simp
theorem xor_ones_iff (r v : BitVec 32) : r ^^^ v = CrcM.ones ↔ v = ~~~ r := by
  rw [← BitVec.allOnes_xor, show BitVec.allOnes 32 = CrcM.ones from by decide]
  constructor
  · intro h; rw [← h, BitVec.xor_comm r v, BitVec.xor_assoc, BitVec.xor_self, BitVec.xor_zero]
  · intro h; rw [h, BitVec.xor_comm, BitVec.xor_assoc, BitVec.xor_self, BitVec.xor_zero]
theorem good_iff (p q : List UInt8) (h : q.length = 4) : CrcM.sum (p ++ q) = 0x48674bc7#32 ↔ q = four (CrcM.sum p) := by
  unfold CrcM.sum
  rw [CrcM.add_append, add_four _ q h, ← whole_eq, ← ofNat_num q h]
  rw [← xor_ones_iff (CrcM.add CrcM.ones p)]
  exact ⟨fun e => CrcM.stn_inj 32 (BitVec.not_inj.mp e), fun e => by rw [e]⟩
theorem cbytes_eq (s : ByteArray) (hs : s.size ≤ 140737488355328) : crc_Bytes.f s = some (strOfNums (bytes4 ((CrcM.sum s.data.toList).toNat : Int))) := by
  unfold crc_Bytes.f crcSum crcI
  rw [if_pos hs, show BitVec.ofInt 32 4294967295 = CrcM.ones from by decide, not32]
  rfl
theorem four_list (x : BitVec 32) : (strOfNums (bytes4 (x.toNat : Int))).toList = four x := Lib.strOfNums_toList _
theorem four_data (x : BitVec 32) : (strOfNums (bytes4 (x.toNat : Int))).data.toList = four x := by rw [← Lib.toList_data, four_list]
theorem good_eq (s : ByteArray) (hs : s.size ≤ 140737488355328) : crc_Good.f s = some (decide (4 ≤ s.size ∧ CrcM.sum s.data.toList = 0x48674bc7#32)) := by
  unfold crc_Good.f
  by_cases h : 4 ≤ s.size
  · rw [if_pos (by omega), sum_eq s hs]
    simp only [Option.bind_some, h, true_and]
    congr 1
    rw [Bool.eq_iff_iff, beq_iff_eq, decide_eq_true_iff]
    constructor
    · intro e
      apply BitVec.eq_of_toNat_eq
      rw [show (0x48674bc7#32).toNat = 1214729159 from rfl]; omega
    · intro e; rw [e]; decide
  · rw [if_neg (by omega), decide_eq_false (by omega)]
theorem good_four (s : ByteArray) (hs : s.size ≤ 140737488355328) (p q : List UInt8) (hd : s.data.toList = p ++ q) (hq : q.length = 4) : crc_Good.f s = some (decide (q = four (CrcM.sum p))) := by
  have hl : 4 ≤ s.size := by
    have := congrArg List.length hd
    rw [data_length, List.length_append] at this; omega
  rw [good_eq s hs, hd]
  congr 1
  rw [Bool.eq_iff_iff, decide_eq_true_iff, decide_eq_true_iff, good_iff p q hq]
  exact ⟨fun h => h.2, fun h => ⟨hl, h⟩⟩
theorem lives01 : caulklaw01_lives.f = some true := by
  unfold caulklaw01_lives.f
  have s1 : CrcM.sum [49, 50, 51, 52, 53, 54, 55, 56, 57] = 3808858755#32 := by decide +kernel
  have g1 := good_four ⟨#[49, 50, 51, 52, 53, 54, 55, 56, 57, 131, 146, 6, 227]⟩ (by decide) [49, 50, 51, 52, 53, 54, 55, 56, 57] [131, 146, 6, 227] rfl rfl
  rw [s1, four_eq, decide_eq_true (by decide)] at g1
  have g2 := good_eq ⟨#[97, 98, 99]⟩ (by decide)
  rw [decide_eq_false (fun h => absurd h.1 (by decide))] at g2
  rw [sum_eq ⟨#[49, 50, 51, 52, 53, 54, 55, 56, 57]⟩ (by decide), cbytes_eq ⟨#[49, 50, 51, 52, 53, 54, 55, 56, 57]⟩ (by decide), g1, g2, sum_eq ⟨#[]⟩ (by decide)]
  simp only [Option.bind_some, s1, four_list]
  rw [if_pos (by decide), if_pos (by rw [four_eq]; decide)]
  unfold crc_Start.f crc_End.f
  have e0 := not32 0#32
  rw [show (((0#32 : BitVec 32).toNat : Nat) : Int) = 0 from by decide] at e0
  simp only [Option.bind_some]
  rw [e0, show ((~~~ (0#32)).toNat : Int) = 4294967295 from by decide, show CrcM.sum [] = 0#32 from by decide]
  rfl
theorem isB_of {a : Int} (h : (Lit.int .u8 a).wf = true) : isB a := by have := bounds_u8 h; unfold isB; omega
theorem mulI_isB (a b : Int) : isB (mulI a b) := el_range _
theorem gfmul {a b : Int} (ha : isB a) (hb : isB b) : gf_Mul.f a b = some (mulI a b) := if_pos ⟨ha, hb⟩
theorem el_mulI (a b : Int) : el (mulI a b) = GfM.mul (el a) (el b) := el_nat _
theorem mulI_nat (a b : BitVec 8) : mulI (a.toNat : Int) (b.toNat : Int) = ((GfM.mul a b).toNat : Int) := by unfold mulI; rw [el_nat, el_nat]
theorem asel {a : Int} (h : isB a) : ∃ x : BitVec 8, a = (x.toNat : Int) := ⟨el a, (el_back h.1 h.2).symm⟩
theorem isB_nat (x : BitVec 8) : isB (x.toNat : Int) := el_range x
theorem el_ne {x : BitVec 8} (h : (x.toNat : Int) ≠ 0) : x ≠ 0#8 := by intro e; apply h; rw [e]; rfl
theorem ne_el {x : BitVec 8} (h : x ≠ 0#8) : (x.toNat : Int) ≠ 0 := by intro e; apply h; apply BitVec.eq_of_toNat_eq; simp; omega
/-- The inverse. -/
def invI (a : Int) : Int := ((GfM.inv (el a)).toNat : Int)
theorem invI_isB (a : Int) : isB (invI a) := el_range _
theorem inv_eq {a : Int} (h : isB a) : gf_Inv.f a = some (if a = 0 then (0, 13) else (invI a, 0)) := by
  unfold gf_Inv.f
  by_cases h0 : a = 0
  · rw [if_pos h0, if_pos h0]
  · rw [if_neg h0, if_neg h0]
    unfold gf_power.f
    rw [if_pos ⟨h, by decide, by decide⟩]
    simp only [Option.bind_some]
    have : powI a 254 = invI a := by
      unfold powI invI GfM.inv
      rw [show (254 : Int).toNat = 254 from rfl]
      rw [show (64 : Nat) = 8 + 56 from rfl, pwk_more 8 _ _ _ 56 (by decide)]
    rw [this]
theorem son_size (xs : List Int) : (strOfNums xs).size = xs.length := by
  show (strOfNums xs).data.size = _; simp [strOfNums]
theorem son_bt (xs : List Int) (i : Nat) (hi : i < xs.length) (hb : isB (xs.getD i 0)) : bt (strOfNums xs) (i : Int) = xs.getD i 0 := by
  have hs : (i : Int).toNat < (strOfNums xs).size := by rw [son_size]; omega
  rw [← bt_at _ _ hs]
  show (((strOfNums xs).data[(i : Int).toNat]'hs).toNat : Int) = _
  simp only [strOfNums, Int.toNat_natCast, List.getElem_toArray, List.getElem_map]
  have e : xs.getD i 0 = xs[i] := by rw [List.getD_eq_getElem?_getD, List.getElem?_eq_getElem hi]; rfl
  rw [e] at hb ⊢
  rw [UInt8.toNat_ofNat', Nat.mod_eq_of_lt (by unfold isB at hb; omega)]
  unfold isB at hb; omega
theorem bytes_get (s : ByteArray) (i : Nat) : (bytesOf s).getD i 0 = bt s (i : Int) := by
  rw [← rd_bytesOf]; rfl
theorem scale_eq (c : Int) (hc : isB c) (s : ByteArray) (hs : s.size ≤ 16384) : gf_Scale.f c s = some (strOfNums ((bytesOf s).map (mulI c))) := by
  unfold gf_Scale.f; rw [if_pos ⟨hc, by omega⟩]
theorem putL_at (c : Int) (s l : List Int) : ∀ (k i : Nat), i < l.length → (putL c s l k).getD i 0 = if i < k then Go.bits .xor .u8 (l.getD i 0) (mulI c (s.getD i 0)) else l.getD i 0
  | 0, i, _ => by rw [if_neg (by omega)]; rfl
  | k + 1, i, hi => by
    simp only [putL]
    rw [List.getD_eq_getElem?_getD, List.getElem?_set]
    by_cases e : k = i
    · subst e
      rw [if_pos rfl, if_pos (by rw [putL_length]; exact hi), if_pos (by omega)]; rfl
    · rw [if_neg e, ← List.getD_eq_getElem?_getD, putL_at c s l k i hi]
      by_cases h : i < k
      · rw [if_pos h, if_pos (by omega)]
      · rw [if_neg h, if_neg (by omega)]
theorem begins_eq : caulktop_begins.f = some true := by decide +kernel
theorem xor_twice {x y : Int} (hx : isB x) (hy : isB y) : Go.bits .xor .u8 (Go.bits .xor .u8 x y) y = x := by
  obtain ⟨a, rfl⟩ := asel hx
  obtain ⟨b, rfl⟩ := asel hy
  rw [g_xor8, g_xor8, BitVec.xor_assoc, BitVec.xor_self, BitVec.xor_zero]
theorem xor_isB {x y : Int} (hx : isB x) (hy : isB y) : isB (Go.bits .xor .u8 x y) := by
  obtain ⟨a, rfl⟩ := asel hx
  obtain ⟨b, rfl⟩ := asel hy
  rw [g_xor8]; exact isB_nat _
theorem getD_isB {l : List Int} (h : ∀ x ∈ l, isB x) (i : Nat) : isB (l.getD i 0) := by
  rw [List.getD_eq_getElem?_getD]
  by_cases hi : i < l.length
  · rw [List.getElem?_eq_getElem hi]; exact h _ (List.getElem_mem hi)
  · rw [List.getElem?_eq_none (by omega)]; exact ⟨by decide, by decide⟩
theorem mem_getD {l : List Int} {x : Int} (h : x ∈ l) : ∃ i, i < l.length ∧ l.getD i 0 = x := by
  obtain ⟨i, hi, rfl⟩ := List.mem_iff_getElem.1 h
  exact ⟨i, hi, by rw [List.getD_eq_getElem?_getD, List.getElem?_eq_getElem hi]; rfl⟩
theorem putL_isB (c : Int) (s l : List Int) (h : ∀ x ∈ l, isB x) (k : Nat) : ∀ x ∈ putL c s l k, isB x := by
  intro x hx
  obtain ⟨i, hi, rfl⟩ := mem_getD hx
  rw [putL_length] at hi
  rw [putL_at c s l k i hi]
  split
  · exact xor_isB (getD_isB h i) (mulI_isB _ _)
  · exact getD_isB h i
theorem putL_twice (c : Int) (s l : List Int) (h : ∀ x ∈ l, isB x) (k : Nat) : putL c s (putL c s l k) k = l := by
  apply List.ext_getElem
  · rw [putL_length, putL_length]
  · intro i h1 h2
    have hl : i < l.length := h2
    have e := putL_at c s (putL c s l k) k i (by rw [putL_length]; exact hl)
    rw [putL_at c s l k i hl] at e
    rw [List.getD_eq_getElem?_getD, List.getElem?_eq_getElem h1, Option.getD_some] at e
    rw [e]
    have el : l.getD i 0 = l[i] := by rw [List.getD_eq_getElem?_getD, List.getElem?_eq_getElem hl]; rfl
    by_cases hk : i < k
    · rw [if_pos hk, if_pos hk, xor_twice (getD_isB h i) (mulI_isB _ _), el]
    · rw [if_neg hk, if_neg hk, el]
theorem bytesOf_isB (s : ByteArray) : ∀ x ∈ bytesOf s, isB x := by
  intro x hx
  simp only [bytesOf, List.mem_map] at hx
  obtain ⟨b, _, rfl⟩ := hx
  have := b.toNat_lt
  exact ⟨by omega, by omega⟩
theorem bytesOf_son {xs : List Int} (h : ∀ x ∈ xs, isB x) : bytesOf (strOfNums xs) = xs := by
  unfold bytesOf strOfNums
  simp only [List.map_map]
  conv => rhs; rw [← List.map_id xs]
  apply List.map_congr_left
  intro x hx
  have := h x hx
  unfold isB at this
  simp only [Function.comp, UInt8.toNat_ofNat', id]
  omega
theorem son_bytesOf (s : ByteArray) : strOfNums (bytesOf s) = s := by
  have : (strOfNums (bytesOf s)).data.toList = s.data.toList := by
    unfold strOfNums bytesOf
    simp only [List.map_map]
    conv => rhs; rw [← List.map_id s.data.toList]
    apply List.map_congr_left
    intro x _
    simp
  have h2 : (strOfNums (bytesOf s)).data = s.data := Array.ext' this
  exact ByteArray.ext h2
theorem scale_back {c : Int} (hc : isB c) (h0 : c ≠ 0) (l : List Int) (hl : ∀ x ∈ l, isB x) : (l.map (mulI c)).map (mulI (invI c)) = l := by
  rw [List.map_map]
  conv => rhs; rw [← List.map_id l]
  apply List.map_congr_left
  intro x hx
  obtain ⟨b, rfl⟩ := asel (hl x hx)
  obtain ⟨a, rfl⟩ := asel hc
  show mulI (invI (a.toNat : Int)) (mulI (a.toNat : Int) (b.toNat : Int)) = (b.toNat : Int)
  unfold invI
  rw [el_nat, mulI_nat, mulI_nat, ← GfM.mul_assoc, GfM.mul_comm (GfM.inv a), GfM.mul_inv a (el_ne h0), GfM.one_mul]
theorem scale_zero (l : List Int) : l.map (mulI 0) = List.replicate l.length 0 := by
  induction l with
  | nil => rfl
  | cons x l ih =>
    rw [List.map_cons, ih, List.length_cons, List.replicate_succ]
    congr 1
    unfold mulI
    rw [show el 0 = 0#8 from rfl, GfM.zero_mul]; rfl
theorem TopUndone : caulktop_TopUndone.Pure := by
  intro c s l wc ws ⟨wl, wx⟩
  have hc := isB_of wc
  have hx : ∀ x ∈ l, isB x := fun x hx => isB_of (wx x hx)
  obtain ⟨K, hK⟩ : ∃ K : Nat, 1 ≤ K := ⟨1, Nat.le_refl _⟩
  refine ⟨K + 1, ?_⟩
  have out : caulktop_TopUndone.j0 (K + 1) c s l true = some true := by simp only [caulktop_TopUndone.j0, if_true]
  unfold caulktop_TopUndone.f
  rw [begins_eq]
  simp only [Option.bind_some, if_true]
  by_cases h1 : (s.size : Int) > 16384
  · rw [if_pos h1]; exact out
  rw [if_neg h1]
  by_cases h2 : (l.length : Int) > 16384
  · rw [decide_eq_true h2]; exact out
  rw [decide_eq_false h2]
  have hs : s.size ≤ 16384 := by omega
  have hl : l.length ≤ 16384 := by omega
  have hsB := bytesOf_isB s
  have p1 : gf_Put.f l c s = some (putL c (bytesOf s) l (min l.length s.size)) := by
    unfold gf_Put.f; rw [if_pos ⟨hc, by omega, by omega, hx⟩]
  have p2 : gf_Put.f (putL c (bytesOf s) l (min l.length s.size)) c s = some l := by
    unfold gf_Put.f
    rw [if_pos ⟨hc, by omega, by rw [putL_length]; omega, putL_isB _ _ _ hx _⟩, putL_length, putL_twice _ _ _ hx]
  simp only [caulktop_TopUndone.j0, Bool.false_eq_true, if_false, Option.bind_some, List.nil_append, List.length_nil]
  rw [if_pos (by omega), p1]
  simp only [Option.bind_some]
  rw [p2]
  simp only [Option.bind_some, if_true]
  rw [inv_eq hc]
  simp only [Option.bind_some]
  rw [scale_eq c hc s hs]
  by_cases h0 : c = 0
  · rw [if_pos h0, if_neg (by decide), if_pos h0]
    simp only [Option.bind_some]
    rw [if_pos (by omega), if_pos (by rw [Int.toNat_natCast]; omega), Int.toNat_natCast, h0, scale_zero, bytesOf_length]
    simp
  · rw [if_neg h0]
    have hsz : (strOfNums ((bytesOf s).map (mulI c))).size ≤ 16384 := by rw [son_size, List.length_map, bytesOf_length]; exact hs
    have hmB : ∀ x ∈ (bytesOf s).map (mulI c), isB x := by
      intro x hx
      obtain ⟨y, _, rfl⟩ := List.mem_map.1 hx
      exact mulI_isB _ _
    have t2 : gf_Scale.f (invI c) (strOfNums ((bytesOf s).map (mulI c))) = some s := by
      rw [scale_eq (invI c) (invI_isB c) _ hsz, bytesOf_son hmB, scale_back hc h0 _ hsB, son_bytesOf]
    simp only [Option.bind_some, if_true]
    rw [t2]
    simp only [Option.bind_some, if_true]
    rw [sum_eq s (by omega), cbytes_eq s (by omega)]
    have h4 : (strOfNums (bytes4 ((CrcM.sum s.data.toList).toNat : Int))).size = 4 := by
      rw [← data_length, four_data]; rfl
    have hd : (s ++ strOfNums (bytes4 ((CrcM.sum s.data.toList).toNat : Int))).data.toList = s.data.toList ++ four (CrcM.sum s.data.toList) := by
      rw [ByteArray.data_append, Array.toList_append, four_data]
    simp only [Option.bind_some, if_true]
    rw [if_pos (by omega), good_four _ (by rw [ByteArray.size_append]; omega) _ _ hd (four_length _), decide_eq_true rfl]
    rfl
end Go.Proofs.YtgiljibkjccgfacDoor.Pure
