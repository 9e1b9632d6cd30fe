/- DedupeTells: the pure statement: numbers and lists alone. Conditions: those of the statement itself. -/
import Derived.Test.YtgiaopmakkdojaaDoorGx3
import Derived.OpenShut
import Derived.Test.YtgiaopmakkdojaaDoorCrcMath
import Derived.Lib.TrimByte
import Derived.Lib.Bytes
import Derived.Test.YtgiaopmakkdojaaDoorDedTrim
namespace Go.Proofs.YtgiaopmakkdojaaDoor.Pure
open Go.RowKit Go.Proofs.YtgiaopmakkdojaaDoor.G Go.Proofs.YtgiaopmakkdojaaDoorW.PrintWords Go.Proofs.YtgiaopmakkdojaaDoorW.PrintLast Go.Proofs.YtgiaopmakkdojaaDoorW.PrintMore Go.OpenShut
set_option linter.unusedVariables false
set_option linter.unusedSimpArgs false
theorem and_one (a : BitVec 32) : Go.bits .and .u32 (a.toNat : Int) 1 = ((a.toNat % 2 : Nat) : Int) := by
  have := Go.bits_mask .u32 32 (by decide) (fun n h0 h1 => by rw [IntKind.wrap_u32]; omega) 1 (by decide) (a.toNat : Int) (by omega) (by have := a.isLt; omega)
  simpa using this
theorem poly_toNat : ((CrcM.poly : BitVec 32).toNat : Int) = 2197175160 := by decide
theorem not32 (x : BitVec 32) : Go.bits .xor .u32 4294967295 (x.toNat : Int) = ((~~~ x).toNat : Int) := by
  have h := bits_xor32 CrcM.ones x
  have e : (((CrcM.ones : BitVec 32).toNat : Nat) : Int) = 4294967295 := by decide
  rw [e] at h
  rw [h, show CrcM.ones = BitVec.allOnes 32 from by decide, BitVec.allOnes_xor]
theorem sum_eq (s : ByteArray) (hs : s.size ≤ 140737488355328) : crc_Sum.f s = some ((CrcM.sum s.data.toList).toNat : Int) := by
  unfold crc_Sum.f crc_Start.f crc_Add.f crc_End.f
  simp only [Option.bind_some]
  rw [if_pos ⟨by decide, by decide, hs⟩]
  simp only [Option.bind_some]
  unfold crcI
  rw [show BitVec.ofInt 32 4294967295 = CrcM.ones from by decide, not32]
  rfl
theorem ones_int : (((CrcM.ones : BitVec 32).toNat : Nat) : Int) = 4294967295 := by decide
theorem not32r (x : BitVec 32) : Go.bits .xor .u32 (x.toNat : Int) 4294967295 = ((~~~ x).toNat : Int) := by
  have h := bits_xor32 x CrcM.ones
  rw [ones_int] at h
  rw [h, show CrcM.ones = BitVec.allOnes 32 from by decide, BitVec.xor_allOnes]
theorem shr_int (x : BitVec 32) : ((x >>> 1).toNat : Int) = (x.toNat : Int) / 2 := by
  rw [BitVec.toNat_ushiftRight, Nat.shiftRight_eq_div_pow]; omega
theorem bit_step (x : BitVec 32) (v : Nat) (hv : v < 2) : CrcM.st (x ^^^ BitVec.ofNat 32 v) = if x.toNat % 2 = v then x >>> 1 else (x >>> 1) ^^^ CrcM.poly := by
  unfold CrcM.st
  rw [BitVec.ushiftRight_xor_distrib, BitVec.getLsbD_xor, CrcM.getLsb0]
  rcases (by omega : v = 0 ∨ v = 1) with rfl | rfl
  · rw [show (BitVec.ofNat 32 0) >>> 1 = 0#32 from by decide, show (BitVec.ofNat 32 0).getLsbD 0 = false from by decide]
    rcases Nat.mod_two_eq_zero_or_one x.toNat with h | h <;> simp [h]
  · rw [show (BitVec.ofNat 32 1) >>> 1 = 0#32 from by decide, show (BitVec.ofNat 32 1).getLsbD 0 = true from by decide]
    rcases Nat.mod_two_eq_zero_or_one x.toNat with h | h <;> simp [h]
theorem bt_nat (s : ByteArray) (i : Nat) (h : i < s.size) : bt s i = (s[i].toNat : Int) := by
  unfold bt
  rw [dif_pos (by simpa using h)]
  simp
theorem ref_l1 (s : ByteArray) (i : Nat) (hi : i < s.size) (j : Nat) : ∀ (k b : Nat) (x : BitVec 32), b + j = 8 → j < k →
    caulkref01_Add.l1 k x.toNat s i b = caulkref01_Add.l0 (k - j - 1) ((CrcM.fd j x (s[i].toNat / 2 ^ b)).toNat : Int) s (wrap64 ((i : Int) + 1)) := by
  induction j with
  | zero =>
    intro k b x hb hk
    obtain ⟨k, rfl⟩ : ∃ m, k = m + 1 := ⟨k - 1, by omega⟩
    simp only [caulkref01_Add.l1]
    rw [if_neg (by omega)]
    simp [CrcM.fd]
  | succ j ih =>
    intro k b x hb hk
    obtain ⟨k, rfl⟩ : ∃ m, k = m + 1 := ⟨k - 1, by omega⟩
    have a1 : b + 1 + j = 8 := by omega
    have a2 : j < k := by omega
    have a3 : k + 1 - (j + 1) - 1 = k - j - 1 := by omega
    have hc := s[i].toNat_lt
    simp only [caulkref01_Add.l1]
    rw [if_pos (by omega), if_pos (by omega), if_pos (by omega), if_pos (by omega), bt_nat s i hi, and_one]
    have hv : shr .u32 ((s[i].toNat : Int) % 4294967296) (b : Int) = ((s[i].toNat / 2 ^ b : Nat) : Int) := by
      unfold shr
      rw [Int.emod_eq_of_lt (by omega) (by omega), Nat.min_eq_left (by simp [IntKind.bits]; omega)]
      simp
    rw [hv]
    have hlt : s[i].toNat / 2 ^ b < 2 ^ 32 := Nat.lt_of_le_of_lt (Nat.div_le_self _ _) (by omega)
    have ha := and_one (BitVec.ofNat 32 (s[i].toNat / 2 ^ b))
    rw [BitVec.toNat_ofNat, Nat.mod_eq_of_lt hlt] at ha
    rw [ha]
    have hd : s[i].toNat / 2 ^ b / 2 = s[i].toNat / 2 ^ (b + 1) := by rw [Nat.div_div_eq_div_mul, Nat.pow_succ]
    generalize s[i].toNat / 2 ^ b = v at *
    have hx : Int.tdiv (x.toNat : Int) (2 : Int) % (4294967296 : Int) = ((x >>> 1).toNat : Int) := by
      rw [Int.tdiv_eq_ediv_of_nonneg (by omega), shr_int]
      have := x.isLt; omega
    have hw : wrap64 ((b : Int) + 1) = ((b + 1 : Nat) : Int) := by unfold wrap64; omega
    rw [hx, hw]
    have hf : CrcM.fd (j + 1) x v = CrcM.fd j (if x.toNat % 2 = v % 2 then x >>> 1 else (x >>> 1) ^^^ CrcM.poly) (v / 2) := by
      simp only [CrcM.fd]
      rw [bit_step x (v % 2) (Nat.mod_lt _ (by decide))]
    rw [hf, hd]
    by_cases e : x.toNat % 2 = v % 2
    · rw [if_pos (by omega), if_pos e, ih k (b + 1) _ a1 a2]
      rw [a3]
    · have hp := bits_xor32 (x >>> 1) CrcM.poly
      rw [poly_toNat] at hp
      rw [if_neg (by omega), if_neg e, hp, ih k (b + 1) _ a1 a2]
      rw [a3]
theorem ref_l0 (s : ByteArray) (hs : s.size ≤ 140737488355328) (d : Nat) : ∀ (k i : Nat) (x : BitVec 32), i + d = s.size → 10 * d < k →
    caulkref01_Add.l0 k x.toNat s i = some ((CrcM.add x (s.data.toList.drop i)).toNat : Int) := by
  induction d with
  | zero =>
    intro k i x hi hk
    obtain ⟨k, rfl⟩ : ∃ m, k = m + 1 := ⟨k - 1, by omega⟩
    simp only [caulkref01_Add.l0]
    rw [if_neg (by omega), List.drop_eq_nil_of_le (by simp; omega)]
    simp [CrcM.add]
  | succ d ih =>
    intro k i x hi hk
    obtain ⟨k, rfl⟩ : ∃ m, k = m + 1 := ⟨k - 1, by omega⟩
    have hlt : i < s.size := by omega
    simp only [caulkref01_Add.l0]
    rw [if_pos (by omega)]
    have h1 := ref_l1 s i hlt 8 k 0 x (by omega) (by omega)
    rw [show ((0 : Nat) : Int) = 0 from rfl] at h1
    rw [h1]
    have hw : wrap64 ((i : Int) + 1) = ((i + 1 : Nat) : Int) := by unfold wrap64; omega
    rw [hw, ih _ (i + 1) _ (by omega) (by omega)]
    have hdr : s.data.toList.drop i = s[i] :: s.data.toList.drop (i + 1) := by
      rw [List.drop_eq_getElem_cons (by simpa using hlt)]; rfl
    rw [hdr, Nat.pow_zero, Nat.div_one, ← CrcM.byt_fd]
    rfl
theorem refadd_eq (k : Nat) (x : BitVec 32) (s : ByteArray) (hs : s.size ≤ 140737488355328) (hk : 10 * s.size < k) : caulkref01_Add.f k x.toNat s = some ((CrcM.add x s.data.toList).toNat : Int) := by
  unfold caulkref01_Add.f
  have h := ref_l0 s hs s.size k 0 x (by omega) hk
  rw [show ((0 : Nat) : Int) = 0 from rfl] at h
  rw [h]; simp
theorem refsum_eq (k : Nat) (s : ByteArray) (hs : s.size ≤ 140737488355328) (hk : 10 * s.size < k) : caulkref01_Sum.f k s = some ((CrcM.sum s.data.toList).toNat : Int) := by
  have h := refadd_eq k CrcM.ones s hs hk
  rw [ones_int] at h
  unfold caulkref01_Sum.f
  rw [h]
  simp only [Option.bind_some]
  rw [not32r]; rfl
open DD
theorem w64 {x : Int} (h0 : -9223372036854775808 ≤ x) (h1 : x < 9223372036854775808) : wrap64 x = x := by unfold wrap64; omega
theorem wsucc (n : Nat) (h : n ≤ 1099511627776) : wrap64 ((n : Int) + 1) = ((n + 1 : Nat) : Int) := by rw [w64 (by omega) (by omega)]; omega
def Small (l : List ByteArray) : Prop := l.length ≤ 1000 ∧ ∀ i : Nat, i < l.length → (txt l i).size ≤ 4096
theorem rdOf_txt (l : List ByteArray) (i : Nat) : rdOf ByteArray.empty l (i : Int) = txt l i := by simp [rdOf, txt]
theorem txt_mem {l : List ByteArray} {i : Nat} (h : i < l.length) : txt l i ∈ l := by rw [txt_get l h]; exact List.getElem_mem h
theorem rd_rmap (f : Nat → Int) (n i : Nat) (h : i < n) : Go.Proofs.YtgiaopmakkdojaaDoorW.PrintWords.rd ((List.range n).map f) (i : Int) = f i := by
  simp [Go.Proofs.YtgiaopmakkdojaaDoorW.PrintWords.rd, List.getD_eq_getElem?_getD, h]
theorem crcS_eq (s : ByteArray) (h : s.size ≤ 140737488355328) : crcS s = ((CrcM.sum s.data.toList).toNat : Int) := by
  unfold crcS
  rw [sum_eq s h]; rfl
theorem u32_wf (x : Int) (h0 : 0 ≤ x) (h1 : x ≤ 4294967295) : (Lit.int .u32 x).wf = true := by
  have e0 : IntKind.min .u32 = 0 := by decide
  have e1 : IntKind.max .u32 = 4294967295 := by decide
  simp only [Lit.wf, e0, e1, Bool.and_eq_true, decide_eq_true_eq]
  omega
theorem i64_wf (x : Int) (h0 : 0 ≤ x) (h1 : x ≤ 140737488355328) : (Lit.int .i64 x).wf = true := by
  have e0 : IntKind.min .i64 = -9223372036854775808 := by decide
  have e1 : IntKind.max .i64 = 9223372036854775807 := by decide
  simp only [Lit.wf, e0, e1, Bool.and_eq_true, decide_eq_true_eq]
  omega
theorem sumOk_of (s : ByteArray) (h : s.size ≤ 140737488355328) : sumOk s := by
  have hl := (CrcM.sum s.data.toList).isLt
  refine ⟨?_, u32_wf _ ?_ ?_, i64_wf _ (by omega) (by omega)⟩
  · rw [crcS_eq s h]; exact sum_eq s h
  · rw [crcS_eq s h]; omega
  · rw [crcS_eq s h]; omega
theorem first_eq {l : List ByteArray} (h : Small l) : dedupe_First.f l = some (firstsL l) := by
  unfold dedupe_First.f
  rw [if_pos ⟨by have := h.1; omega, fun i hi => sumOk_of _ (by have := h.2 i hi; omega)⟩]
def sumsL (l : List ByteArray) (n : Nat) : List Int := (List.range n).map fun i => crcS (txt l i)
theorem sumsL_succ (l : List ByteArray) (n : Nat) : sumsL l (n + 1) = sumsL l n ++ [crcS (txt l n)] := by simp [sumsL, List.range_succ]
theorem sumsL_length (l : List ByteArray) (n : Nat) : (sumsL l n).length = n := by simp [sumsL]
theorem sums_l0 {l : List ByteArray} (h : Small l) : ∀ (d i k : Nat), i + d = l.length → d < k → dedupe_Sums.l0 k (sumsL l i) l (l.length : Int) (i : Int) = some (sumsL l l.length) := by
  intro d
  induction d with
  | zero =>
    intro i k hi hk
    obtain ⟨k, rfl⟩ : ∃ q, k = q + 1 := ⟨k - 1, by omega⟩
    have : i = l.length := by omega
    subst this
    unfold dedupe_Sums.l0
    rw [if_neg (by omega)]
  | succ d ih =>
    intro i k hi hk
    obtain ⟨k, rfl⟩ : ∃ q, k = q + 1 := ⟨k - 1, by omega⟩
    have hl := h.1
    have hs := h.2 i (by omega)
    unfold dedupe_Sums.l0
    rw [if_pos (by omega), if_pos (by omega), if_pos (by omega), rdOf_txt, (sumOk_of _ (by omega)).1]
    simp only [Option.bind_some]
    rw [if_pos (by rw [sumsL_length]; omega), ← sumsL_succ, wsucc _ (by omega)]
    exact ih (i + 1) k (by omega) (by omega)
theorem sums_eq {l : List ByteArray} (h : Small l) (k : Nat) (hk : l.length < k) : dedupe_Sums.f k l = some (sumsL l l.length) := by
  unfold dedupe_Sums.f
  exact sums_l0 h l.length 0 k (by omega) hk
theorem same_l0 {a : List Int} (h : a.length ≤ 1000000) : ∀ (d i k : Nat), i + d = a.length → d < k → caulkref05_Same.l0 k a a (a.length : Int) (i : Int) = some true := by
  intro d
  induction d with
  | zero =>
    intro i k hi hk
    obtain ⟨k, rfl⟩ : ∃ q, k = q + 1 := ⟨k - 1, by omega⟩
    unfold caulkref05_Same.l0
    rw [if_neg (by omega)]
  | succ d ih =>
    intro i k hi hk
    obtain ⟨k, rfl⟩ : ∃ q, k = q + 1 := ⟨k - 1, by omega⟩
    unfold caulkref05_Same.l0
    rw [if_pos (by omega), if_pos (by omega), if_pos (by omega), if_pos (by omega), if_pos rfl, wsucc _ (by omega)]
    exact ih (i + 1) k (by omega) (by omega)
theorem same_eq (a : List Int) (h : a.length ≤ 1000000) (k : Nat) (hk : a.length < k) : caulkref05_Same.f k a a = some true := by
  unfold caulkref05_Same.f
  rw [if_pos rfl]
  exact same_l0 h a.length 0 k (by omega) hk
def saveN (l : List ByteArray) : Nat → Int
  | 0 => 0
  | i + 1 => saveN l i + (if firstOf l i < i then ((txt l i).size : Int) else 0)
theorem saveN_bound {l : List ByteArray} (h : Small l) : ∀ i : Nat, i ≤ l.length → 0 ≤ saveN l i ∧ saveN l i ≤ 4096 * i := by
  intro i
  induction i with
  | zero => intro _; simp [saveN]
  | succ i ih =>
    intro hi
    have h1 := ih (by omega)
    have h2 := h.2 i (by omega)
    unfold saveN
    split <;> omega
theorem firstsL_length (l : List ByteArray) : (firstsL l).length = l.length := by simp [firstsL]
theorem rd_firsts (l : List ByteArray) (i : Nat) (h : i < l.length) : Go.Proofs.YtgiaopmakkdojaaDoorW.PrintWords.rd (firstsL l) (i : Int) = (firstOf l i : Int) := rd_rmap (fun i => (firstOf l i : Int)) l.length i h
theorem save_l0 {l : List ByteArray} (h : Small l) : ∀ (d i k : Nat), i + d = l.length → d < k → dedupe_Save.l0 k l (saveN l i) (firstsL l) (l.length : Int) (i : Int) = some (saveN l l.length) := by
  intro d
  induction d with
  | zero =>
    intro i k hi hk
    obtain ⟨k, rfl⟩ : ∃ q, k = q + 1 := ⟨k - 1, by omega⟩
    have : i = l.length := by omega
    subst this
    unfold dedupe_Save.l0
    rw [if_neg (by omega)]
  | succ d ih =>
    intro i k hi hk
    obtain ⟨k, rfl⟩ : ∃ q, k = q + 1 := ⟨k - 1, by omega⟩
    have hl := h.1
    have hs := h.2 i (by omega)
    have hb := saveN_bound h i (by omega)
    have hx := ih (i + 1) k (by omega) (by omega)
    unfold dedupe_Save.l0
    rw [if_pos (by omega), if_pos (by omega), if_pos (by rw [firstsL_length]; omega), rd_firsts l i (by omega), rdOf_txt, wsucc _ (by omega)]
    by_cases hf : firstOf l i < i
    · rw [if_pos (by omega), if_pos (by omega)]
      have e : wrap64 (saveN l i + ((txt l i).size : Int)) = saveN l (i + 1) := by
        rw [w64 (by omega) (by omega), saveN, if_pos hf]
      rw [e]
      exact hx
    · rw [if_neg (by omega)]
      have e : saveN l i = saveN l (i + 1) := by rw [saveN, if_neg hf, Int.add_zero]
      rw [e]
      exact hx
theorem save_eq {l : List ByteArray} (h : Small l) (k : Nat) (hk : l.length < k) : dedupe_Save.f k l = some (saveN l l.length) := by
  unfold dedupe_Save.f
  rw [first_eq h]
  simp only [Option.bind_some]
  rw [firstsL_length]
  exact save_l0 h l.length 0 k (by omega) hk
/-- A text of noughts alone. -/
def hole (s : ByteArray) : Bool := s.data.toList.all (· == 0)
def holesL (l : List ByteArray) (n : Nat) : List Int := ((List.range n).filter fun i => hole (txt l i)).map fun (i : Nat) => (i : Int)
theorem holesL_succ (l : List ByteArray) (n : Nat) : holesL l (n + 1) = if hole (txt l n) = true then holesL l n ++ [(n : Int)] else holesL l n := by
  unfold holesL
  rw [List.range_succ, List.filter_append, List.map_append]
  by_cases h : hole (txt l n) = true
  · rw [if_pos h, List.filter_cons_of_pos (p := fun i => hole (txt l i)) h]; rfl
  · rw [if_neg h, List.filter_cons_of_neg (p := fun i => hole (txt l i)) h]; simp
theorem holesL_len (l : List ByteArray) (n : Nat) : (holesL l n).length ≤ n := by
  unfold holesL
  rw [List.length_map]
  have := List.length_filter_le (fun i => hole (txt l i)) (List.range n)
  rwa [List.length_range] at this
theorem dropWhile_nil (l : List UInt8) (p : UInt8 → Bool) : l.dropWhile p = [] ↔ l.all p = true := by
  induction l with
  | nil => simp
  | cons a r ih =>
    by_cases h : p a = true
    · rw [List.dropWhile_cons_of_pos h, ih]; simp [h]
    · rw [List.dropWhile_cons_of_neg h]; simp [h]
theorem trim_nil (l : List UInt8) : Lib.trimB l 0 = [] ↔ l.all (· == 0) = true := by
  unfold Lib.trimB Lib.trimLeftB Lib.trimRightB
  rw [dropWhile_nil, List.all_reverse]
  constructor
  · intro h
    by_cases e : l.reverse.dropWhile (· == 0) = []
    · have := (dropWhile_nil _ _).1 e
      rwa [List.all_reverse] at this
    · exfalso
      have h2 := List.head_dropWhile_not (p := (· == (0 : UInt8))) (l := l.reverse) e
      have h3 := List.all_eq_true.1 h _ (List.head_mem e)
      rw [h2] at h3
      cases h3
  · intro h
    refine List.all_eq_true.2 (fun x hx => List.all_eq_true.1 h x ?_)
    have := (List.dropWhile_sublist (· == (0 : UInt8)) (l := l.reverse)).subset hx
    exact List.mem_reverse.1 this
theorem trim_eq (s : ByteArray) (h : s.size ≤ 4096) : ∃ t, strings_Trim.f s (⟨#[0]⟩ : ByteArray) = some t ∧ (t.toList = ([] : List UInt8) ↔ hole s = true) := by
  refine ⟨_, by unfold strings_Trim.f; rw [if_pos ⟨rfl, by omega⟩], ?_⟩
  rw [Lib.toList_data]
  exact trim_nil _
theorem holes_l0 {l : List ByteArray} (h : Small l) : ∀ (d i k : Nat), i + d = l.length → d < k → dedupe_Holes.l0 k (holesL l i) l (l.length : Int) (i : Int) = some (holesL l l.length) := by
  intro d
  induction d with
  | zero =>
    intro i k hi hk
    obtain ⟨k, rfl⟩ : ∃ q, k = q + 1 := ⟨k - 1, by omega⟩
    have : i = l.length := by omega
    subst this
    unfold dedupe_Holes.l0
    rw [if_neg (by omega)]
  | succ d ih =>
    intro i k hi hk
    obtain ⟨k, rfl⟩ : ∃ q, k = q + 1 := ⟨k - 1, by omega⟩
    have hl := h.1
    obtain ⟨t, ht, hh⟩ := trim_eq (txt l i) (h.2 i (by omega))
    have hx := ih (i + 1) k (by omega) (by omega)
    rw [holesL_succ] at hx
    unfold dedupe_Holes.l0
    rw [if_pos (by omega), if_pos (by omega), if_pos (by omega), rdOf_txt, ht]
    simp only [Option.bind_some]
    rw [wsucc _ (by omega)]
    by_cases e : hole (txt l i) = true
    · rw [if_pos (hh.2 e), if_pos (by have := holesL_len l i; omega)]
      rw [if_pos e] at hx
      exact hx
    · rw [if_neg (fun h' => e (hh.1 h'))]
      rw [if_neg e] at hx
      exact hx
theorem holes_eq {l : List ByteArray} (h : Small l) (k : Nat) (hk : l.length < k) : dedupe_Holes.f k l = some (holesL l l.length) := by
  unfold dedupe_Holes.f
  exact holes_l0 h l.length 0 k (by omega) hk
theorem small_l0 (l : List ByteArray) : ∀ (d i k : Nat), i + d = l.length → d < k → l.length ≤ 1099511627776 * 8 → ∃ b, caulklaw38_small.l0 k l (l.length : Int) (i : Int) = some b ∧ (b = true → ∀ j, i ≤ j → j < l.length → j ≠ 100 ∧ (txt l j).size ≤ 4096) := by
  intro d
  induction d with
  | zero =>
    intro i k hi hk _
    obtain ⟨k, rfl⟩ : ∃ q, k = q + 1 := ⟨k - 1, by omega⟩
    unfold caulklaw38_small.l0
    rw [if_neg (by omega)]
    exact ⟨true, rfl, fun _ j h1 h2 => by omega⟩
  | succ d ih =>
    intro i k hi hk hl
    obtain ⟨k, rfl⟩ : ∃ q, k = q + 1 := ⟨k - 1, by omega⟩
    unfold caulklaw38_small.l0
    rw [if_pos (by omega), if_pos (by omega), if_pos (by omega), rdOf_txt]
    by_cases e : i = 100
    · rw [if_pos (by omega)]
      exact ⟨false, rfl, fun h => by cases h⟩
    · rw [if_neg (by omega)]
      by_cases e2 : ((txt l i).size : Int) > 4096
      · rw [if_pos e2]
        exact ⟨false, rfl, fun h => by cases h⟩
      · rw [if_neg e2]
        have ew : wrap64 ((i : Int) + 1) = ((i + 1 : Nat) : Int) := by rw [w64 (by omega) (by omega)]; omega
        rw [ew]
        obtain ⟨b, hb, hp⟩ := ih (i + 1) k (by omega) (by omega) hl
        refine ⟨b, hb, fun h j h1 h2 => ?_⟩
        by_cases e3 : j = i
        · subst e3
          exact ⟨e, by omega⟩
        · exact hp h j (by omega) h2
theorem small_eq (l : List ByteArray) (hl : l.length ≤ 1099511627776 * 8) (k : Nat) (hk : l.length < k) : ∃ b, caulklaw38_small.f k l = some b ∧ (b = true → Small l ∧ l.length ≤ 100) := by
  obtain ⟨b, hb, hp⟩ := small_l0 l l.length 0 k (by omega) hk hl
  refine ⟨b, hb, fun h => ?_⟩
  have h1 := hp h
  have h2 : l.length ≤ 100 := by
    by_cases e : l.length ≤ 100
    · exact e
    · exact absurd rfl (h1 100 (by omega) (by omega)).1
  exact ⟨⟨by omega, fun i hi => (h1 i (by omega) hi).2⟩, h2⟩
theorem lives38 (k : Nat) (hk : 20 < k) : caulklaw38_lives.f k = some true := by
  have a1 : Small [(⟨#[97, 98]⟩ : ByteArray), (⟨#[99]⟩ : ByteArray), (⟨#[97, 98]⟩ : ByteArray), (⟨#[0]⟩ : ByteArray), (⟨#[]⟩ : ByteArray), (⟨#[99]⟩ : ByteArray)] := by
    unfold Small
    decide
  have a2 : Small [(⟨#[49, 50, 51, 52, 53, 54, 55, 56, 57]⟩ : ByteArray)] := by
    unfold Small
    decide
  have e1 : firstsL [(⟨#[97, 98]⟩ : ByteArray), (⟨#[99]⟩ : ByteArray), (⟨#[97, 98]⟩ : ByteArray), (⟨#[0]⟩ : ByteArray), (⟨#[]⟩ : ByteArray), (⟨#[99]⟩ : ByteArray)] = [0, 1, 0, 3, 4, 1] := by decide
  have e2 : saveN [(⟨#[97, 98]⟩ : ByteArray), (⟨#[99]⟩ : ByteArray), (⟨#[97, 98]⟩ : ByteArray), (⟨#[0]⟩ : ByteArray), (⟨#[]⟩ : ByteArray), (⟨#[99]⟩ : ByteArray)] 6 = 3 := by decide
  have e3 : holesL [(⟨#[97, 98]⟩ : ByteArray), (⟨#[99]⟩ : ByteArray), (⟨#[97, 98]⟩ : ByteArray), (⟨#[0]⟩ : ByteArray), (⟨#[]⟩ : ByteArray), (⟨#[99]⟩ : ByteArray)] 6 = [3, 4] := by decide
  have e4 : sumsL [(⟨#[49, 50, 51, 52, 53, 54, 55, 56, 57]⟩ : ByteArray)] 1 = [3808858755] := by
    unfold sumsL
    simp only [List.range_succ, List.range_zero, List.nil_append, List.map_cons, List.map_nil]
    rw [crcS_eq _ (by decide)]
    have : CrcM.sum (txt [(⟨#[49, 50, 51, 52, 53, 54, 55, 56, 57]⟩ : ByteArray)] 0).data.toList = 0xe3069283#32 := by decide +kernel
    rw [this]; rfl
  unfold caulklaw38_lives.f
  simp only [Option.bind_some]
  rw [sums_eq a2 k (by simp; omega), first_eq a1, e1]
  have h5 : sumsL [(⟨#[49, 50, 51, 52, 53, 54, 55, 56, 57]⟩ : ByteArray)] ([(⟨#[49, 50, 51, 52, 53, 54, 55, 56, 57]⟩ : ByteArray)] : List ByteArray).length = [3808858755] := e4
  rw [h5]
  simp only [Option.bind_some]
  rw [same_eq [0, 1, 0, 3, 4, 1] (by decide) k (by simp; omega)]
  simp only [Option.bind_some]
  rw [if_pos (by trivial), save_eq a1 k (by simp; omega)]
  have h6 : saveN [(⟨#[97, 98]⟩ : ByteArray), (⟨#[99]⟩ : ByteArray), (⟨#[97, 98]⟩ : ByteArray), (⟨#[0]⟩ : ByteArray), (⟨#[]⟩ : ByteArray), (⟨#[99]⟩ : ByteArray)] ([(⟨#[97, 98]⟩ : ByteArray), (⟨#[99]⟩ : ByteArray), (⟨#[97, 98]⟩ : ByteArray), (⟨#[0]⟩ : ByteArray), (⟨#[]⟩ : ByteArray), (⟨#[99]⟩ : ByteArray)] : List ByteArray).length = 3 := e2
  rw [h6]
  simp only [Option.bind_some]
  rw [if_pos (by trivial), holes_eq a1 k (by simp; omega)]
  have h7 : holesL [(⟨#[97, 98]⟩ : ByteArray), (⟨#[99]⟩ : ByteArray), (⟨#[97, 98]⟩ : ByteArray), (⟨#[0]⟩ : ByteArray), (⟨#[]⟩ : ByteArray), (⟨#[99]⟩ : ByteArray)] ([(⟨#[97, 98]⟩ : ByteArray), (⟨#[99]⟩ : ByteArray), (⟨#[97, 98]⟩ : ByteArray), (⟨#[0]⟩ : ByteArray), (⟨#[]⟩ : ByteArray), (⟨#[99]⟩ : ByteArray)] : List ByteArray).length = [3, 4] := e3
  rw [h7]
  simp only [Option.bind_some]
  rw [same_eq [3, 4] (by decide) k (by simp; omega)]
  simp only [Option.bind_some]
  rw [if_pos (by trivial), if_pos (by trivial), if_pos (by decide)]
  rfl
theorem refsums_l0 {l : List ByteArray} (h : Small l) : ∀ (d i k : Nat), i + d = l.length → d + 41000 < k → caulkref38_Sums.l0 k (sumsL l i) l (l.length : Int) (i : Int) = some (sumsL l l.length) := by
  intro d
  induction d with
  | zero =>
    intro i k hi hk
    obtain ⟨k, rfl⟩ : ∃ q, k = q + 1 := ⟨k - 1, by omega⟩
    have : i = l.length := by omega
    subst this
    unfold caulkref38_Sums.l0
    rw [if_neg (by omega)]
  | succ d ih =>
    intro i k hi hk
    obtain ⟨k, rfl⟩ : ∃ q, k = q + 1 := ⟨k - 1, by omega⟩
    have hl := h.1
    have hs := h.2 i (by omega)
    unfold caulkref38_Sums.l0
    rw [if_pos (by omega), if_pos (by omega), if_pos (by omega), rdOf_txt, refsum_eq k (txt l i) (by omega) (by omega), ← crcS_eq (txt l i) (by omega)]
    simp only [Option.bind_some]
    rw [if_pos (by rw [sumsL_length]; omega), ← sumsL_succ, wsucc _ (by omega)]
    exact ih (i + 1) k (by omega) (by omega)
def firL (l : List ByteArray) (n : Nat) : List Int := (List.range n).map fun i => (firstOf l i : Int)
theorem firL_succ (l : List ByteArray) (n : Nat) : firL l (n + 1) = firL l n ++ [(firstOf l n : Int)] := by simp [firL, List.range_succ]
theorem firL_length (l : List ByteArray) (n : Nat) : (firL l n).length = n := by simp [firL]
theorem reff_l1 {l : List ByteArray} (h : Small l) {i : Nat} (hi : i < l.length) (acc : List Int) (hacc : acc.length ≤ 1000) : ∀ (d a k : Nat), a + d = firstOf l i → caulkref38_First.l1 (k + d + 1) l acc (txt l i) (a : Int) l (l.length : Int) (i : Int) = caulkref38_First.l0 k l (acc ++ [(firstOf l i : Int)]) l (l.length : Int) ((i + 1 : Nat) : Int) := by
  have hl := h.1
  have hf := firstOf_lt hi
  intro d
  induction d with
  | zero =>
    intro a k ha
    have : a = firstOf l i := by omega
    subst this
    unfold caulkref38_First.l1
    rw [if_pos (by omega), if_pos (by omega), rdOf_txt, if_pos (by rw [firstOf_txt hi]), if_pos (by omega), wsucc _ (by omega)]
  | succ d ih =>
    intro a k ha
    unfold caulkref38_First.l1
    rw [if_pos (by omega), if_pos (by omega), rdOf_txt, if_neg (fun e => firstOf_min (l := l) (i := i) (j := a) (by omega) (by omega) (toList_inj e)), wsucc _ (by omega)]
    exact ih (a + 1) k (by omega)
theorem reff_l0 {l : List ByteArray} (h : Small l) : ∀ (d i k : Nat), i + d = l.length → d * (l.length + 2) < k → caulkref38_First.l0 k l (firL l i) l (l.length : Int) (i : Int) = some (firstsL l) := by
  have hl := h.1
  intro d
  induction d with
  | zero =>
    intro i k hi hk
    obtain ⟨k, rfl⟩ : ∃ q, k = q + 1 := ⟨k - 1, by omega⟩
    have : i = l.length := by omega
    subst this
    unfold caulkref38_First.l0
    rw [if_neg (by omega)]
    rfl
  | succ d ih =>
    intro i k hi hk
    obtain ⟨k, rfl⟩ : ∃ q, k = q + 1 := ⟨k - 1, by omega⟩
    rw [Nat.succ_mul] at hk
    have hle := firstOf_le (l := l) (i := i) (by omega)
    unfold caulkref38_First.l0
    rw [if_pos (by omega), if_pos (by omega), if_pos (by omega), rdOf_txt]
    obtain ⟨q, hq⟩ : ∃ q, k = q + firstOf l i + 1 := ⟨k - firstOf l i - 1, by omega⟩
    rw [hq]
    have h1 := reff_l1 h (i := i) (by omega) (firL l i) (by rw [firL_length]; omega) (firstOf l i) 0 q (by omega)
    rw [show ((0 : Nat) : Int) = 0 from rfl] at h1
    rw [h1, ← firL_succ]
    exact ih (i + 1) q (by omega) (by omega)
theorem reff_eq {l : List ByteArray} (h : Small l) (k : Nat) (hk : l.length * (l.length + 2) < k) : caulkref38_First.f k l = some (firstsL l) := by
  unfold caulkref38_First.f
  exact reff_l0 h l.length 0 k (by omega) hk
theorem refsave_l0 {l : List ByteArray} (h : Small l) : ∀ (d i k : Nat), i + d = l.length → d < k → caulkref38_Save.l0 k l (saveN l i) (firstsL l) (l.length : Int) (i : Int) = some (saveN l l.length) := by
  intro d
  induction d with
  | zero =>
    intro i k hi hk
    obtain ⟨k, rfl⟩ : ∃ q, k = q + 1 := ⟨k - 1, by omega⟩
    have : i = l.length := by omega
    subst this
    unfold caulkref38_Save.l0
    rw [if_neg (by omega)]
  | succ d ih =>
    intro i k hi hk
    obtain ⟨k, rfl⟩ : ∃ q, k = q + 1 := ⟨k - 1, by omega⟩
    have hl := h.1
    have hs := h.2 i (by omega)
    have hb := saveN_bound h i (by omega)
    have hle := firstOf_le (l := l) (i := i) (by omega)
    have hx := ih (i + 1) k (by omega) (by omega)
    unfold caulkref38_Save.l0
    rw [if_pos (by omega), if_pos (by omega), if_pos (by rw [firstsL_length]; omega), rd_firsts l i (by omega), rdOf_txt, wsucc _ (by omega)]
    by_cases hf : firstOf l i < i
    · rw [if_neg (by omega), if_pos (by omega)]
      have e : wrap64 (saveN l i + ((txt l i).size : Int)) = saveN l (i + 1) := by
        rw [w64 (by omega) (by omega), saveN, if_pos hf]
      rw [e]
      exact hx
    · rw [if_pos (by omega)]
      have e : saveN l i = saveN l (i + 1) := by rw [saveN, if_neg hf, Int.add_zero]
      rw [e]
      exact hx
theorem refsave_eq {l : List ByteArray} (h : Small l) (k : Nat) (hk : l.length * (l.length + 2) < k) (hk2 : l.length < k) : caulkref38_Save.f k l = some (saveN l l.length) := by
  unfold caulkref38_Save.f
  rw [reff_eq h k hk]
  simp only [Option.bind_some]
  rw [firstsL_length]
  exact refsave_l0 h l.length 0 k (by omega) hk2
theorem noughts (s : ByteArray) : s.toList = (strOfNums (List.replicate s.size 0)).toList ↔ hole s = true := by
  rw [Lib.strOfNums_toList, Lib.toList_data]
  have e : Lib.bytesOf (List.replicate s.size 0) = List.replicate s.size 0 := by unfold Lib.bytesOf; rw [List.map_replicate]; rfl
  rw [e]
  have hs : s.data.toList.length = s.size := by rw [Array.length_toList]; rfl
  rw [← hs]
  unfold hole
  rw [List.all_eq_true]
  constructor
  · intro h x hx
    rw [h] at hx
    simp [List.eq_of_mem_replicate hx]
  · intro h
    exact List.eq_replicate_iff.2 ⟨rfl, fun b hb => by simpa using h b hb⟩
theorem refholes_l0 {l : List ByteArray} (h : Small l) : ∀ (d i k : Nat), i + d = l.length → d < k → caulkref38_Holes.l0 k (holesL l i) l (l.length : Int) (i : Int) = some (holesL l l.length) := by
  intro d
  induction d with
  | zero =>
    intro i k hi hk
    obtain ⟨k, rfl⟩ : ∃ q, k = q + 1 := ⟨k - 1, by omega⟩
    have : i = l.length := by omega
    subst this
    unfold caulkref38_Holes.l0
    rw [if_neg (by omega)]
  | succ d ih =>
    intro i k hi hk
    obtain ⟨k, rfl⟩ : ∃ q, k = q + 1 := ⟨k - 1, by omega⟩
    have hl := h.1
    have hs := h.2 i (by omega)
    have hx := ih (i + 1) k (by omega) (by omega)
    rw [holesL_succ] at hx
    unfold caulkref38_Holes.l0
    rw [if_pos (by omega), if_pos (by omega), if_pos (by omega), rdOf_txt, if_pos (by omega), if_pos (by omega), Int.toNat_natCast, wsucc _ (by omega)]
    by_cases e : hole (txt l i) = true
    · rw [if_pos ((noughts _).2 e), if_pos (by have := holesL_len l i; omega)]
      rw [if_pos e] at hx
      exact hx
    · rw [if_neg (fun h' => e ((noughts _).1 h'))]
      rw [if_neg e] at hx
      exact hx
theorem tells_l0 {l : List ByteArray} (h : Small l) : ∀ (d i k : Nat), i + d = l.length → d + l.length * (l.length + 2) + 41000 < k → caulklaw38_DedupeTells.l0 k l (sumsL l l.length) (sumsL l l.length) (l.length : Int) (i : Int) = some true := by
  intro d
  have hl := h.1
  induction d with
  | zero =>
    intro i k hi hk
    obtain ⟨k, rfl⟩ : ∃ q, k = q + 1 := ⟨k - 1, by omega⟩
    unfold caulklaw38_DedupeTells.l0
    rw [if_neg (by omega), lives38 k (by omega)]
    simp only [Option.bind_some]
    rw [if_pos (by trivial), first_eq h, reff_eq h k (by omega)]
    simp only [Option.bind_some]
    rw [same_eq _ (by rw [firstsL_length]; omega) k (by rw [firstsL_length]; omega)]
    simp only [Option.bind_some]
    rw [if_pos (by trivial), save_eq h k (by omega), refsave_eq h k (by omega) (by omega)]
    simp only [Option.bind_some]
    rw [if_pos (by trivial), holes_eq h k (by omega), show caulkref38_Holes.f k l = some (holesL l l.length) from refholes_l0 h l.length 0 k (by omega) (by omega)]
    simp only [Option.bind_some]
    have := holesL_len l l.length
    rw [same_eq _ (by omega) k (by omega)]
    rfl
  | succ d ih =>
    intro i k hi hk
    obtain ⟨k, rfl⟩ : ∃ q, k = q + 1 := ⟨k - 1, by omega⟩
    unfold caulklaw38_DedupeTells.l0
    rw [if_pos (by omega), if_pos (by omega), if_pos (by rw [sumsL_length]; omega), if_pos (by rw [sumsL_length]; omega), if_pos rfl, wsucc _ (by omega)]
    exact ih (i + 1) k (by omega) (by omega)
theorem DedupeTells : caulklaw38_DedupeTells.Pure := by
  intro l hl
  obtain ⟨b, hb, hp⟩ := small_eq l (by omega) (l.length * (l.length + 4) + 50000) (by have := Nat.le_mul_of_pos_right l.length (show 0 < l.length + 4 by omega); omega)
  refine ⟨l.length * (l.length + 4) + 50000, ?_⟩
  unfold caulklaw38_DedupeTells.f
  rw [hb]
  simp only [Option.bind_some]
  cases b with
  | false =>
    rw [if_neg (by simp), lives38 _ (by omega)]
    rfl
  | true =>
    obtain ⟨h, _⟩ := hp rfl
    have e1 : l.length * (l.length + 4) = l.length * (l.length + 2) + l.length * 2 := by rw [← Nat.mul_add]
    rw [if_pos (by trivial), sums_eq h _ (by omega), show caulkref38_Sums.f _ l = some (sumsL l l.length) from refsums_l0 h l.length 0 _ (by omega) (by omega)]
    simp only [Option.bind_some]
    rw [if_pos (by trivial), sumsL_length]
    exact tells_l0 h l.length 0 _ (by omega) (by omega)
end Go.Proofs.YtgiaopmakkdojaaDoor.Pure
