/- DedupeAgain: the pure statement: numbers and lists alone. Conditions: those of the statement itself. -/
import Derived.Test.YtgiaopmakkdojaaDoorGx5
import Derived.OpenShut
import Derived.Test.YtgiaopmakkdojaaDoorCrcMath
import Derived.Lib.TrimByte
import Derived.Lib.Bytes
import Derived.Test.YtgiaopmakkdojaaDoorDedTrim
namespace Go.Proofs.YtgiaopmakkdojaaDoor.Pure
open Go.RowKit Go.Proofs.YtgiaopmakkdojaaDoor.G Go.Proofs.YtgiaopmakkdojaaDoorW.PrintWords Go.Proofs.YtgiaopmakkdojaaDoorW.PrintLast Go.Proofs.YtgiaopmakkdojaaDoorW.PrintMore Go.OpenShut
set_option linter.unusedVariables false
set_option linter.unusedSimpArgs false
theorem and_one (a : BitVec 32) : Go.bits .and .u32 (a.toNat : Int) 1 = ((a.toNat % 2 : Nat) : Int) := by
  have := Go.bits_mask .u32 32 (by decide) (fun n h0 h1 => by rw [IntKind.wrap_u32]; omega) 1 (by decide) (a.toNat : Int) (by omega) (by have := a.isLt; omega)
  simpa using this
theorem poly_toNat : ((CrcM.poly : BitVec 32).toNat : Int) = 2197175160 := by decide
theorem not32 (x : BitVec 32) : Go.bits .xor .u32 4294967295 (x.toNat : Int) = ((~~~ x).toNat : Int) := by
  have h := bits_xor32 CrcM.ones x
  have e : (((CrcM.ones : BitVec 32).toNat : Nat) : Int) = 4294967295 := by decide
  rw [e] at h
  rw [h, show CrcM.ones = BitVec.allOnes 32 from by decide, BitVec.allOnes_xor]
theorem sum_eq (s : ByteArray) (hs : s.size ≤ 140737488355328) : crc_Sum.f s = some ((CrcM.sum s.data.toList).toNat : Int) := by
  unfold crc_Sum.f crc_Start.f crc_Add.f crc_End.f
  simp only [Option.bind_some]
  rw [if_pos ⟨by decide, by decide, hs⟩]
  simp only [Option.bind_some]
  unfold crcI
  rw [show BitVec.ofInt 32 4294967295 = CrcM.ones from by decide, not32]
  rfl
open DD
theorem w64 {x : Int} (h0 : -9223372036854775808 ≤ x) (h1 : x < 9223372036854775808) : wrap64 x = x := by unfold wrap64; omega
theorem wsucc (n : Nat) (h : n ≤ 1099511627776) : wrap64 ((n : Int) + 1) = ((n + 1 : Nat) : Int) := by rw [w64 (by omega) (by omega)]; omega
def Small (l : List ByteArray) : Prop := l.length ≤ 1000 ∧ ∀ i : Nat, i < l.length → (txt l i).size ≤ 4096
theorem rdOf_txt (l : List ByteArray) (i : Nat) : rdOf ByteArray.empty l (i : Int) = txt l i := by simp [rdOf, txt]
theorem txt_mem {l : List ByteArray} {i : Nat} (h : i < l.length) : txt l i ∈ l := by rw [txt_get l h]; exact List.getElem_mem h
theorem rd_rmap (f : Nat → Int) (n i : Nat) (h : i < n) : Go.Proofs.YtgiaopmakkdojaaDoorW.PrintWords.rd ((List.range n).map f) (i : Int) = f i := by
  simp [Go.Proofs.YtgiaopmakkdojaaDoorW.PrintWords.rd, List.getD_eq_getElem?_getD, h]
theorem crcS_eq (s : ByteArray) (h : s.size ≤ 140737488355328) : crcS s = ((CrcM.sum s.data.toList).toNat : Int) := by
  unfold crcS
  rw [sum_eq s h]; rfl
theorem u32_wf (x : Int) (h0 : 0 ≤ x) (h1 : x ≤ 4294967295) : (Lit.int .u32 x).wf = true := by
  have e0 : IntKind.min .u32 = 0 := by decide
  have e1 : IntKind.max .u32 = 4294967295 := by decide
  simp only [Lit.wf, e0, e1, Bool.and_eq_true, decide_eq_true_eq]
  omega
theorem i64_wf (x : Int) (h0 : 0 ≤ x) (h1 : x ≤ 140737488355328) : (Lit.int .i64 x).wf = true := by
  have e0 : IntKind.min .i64 = -9223372036854775808 := by decide
  have e1 : IntKind.max .i64 = 9223372036854775807 := by decide
  simp only [Lit.wf, e0, e1, Bool.and_eq_true, decide_eq_true_eq]
  omega
theorem sumOk_of (s : ByteArray) (h : s.size ≤ 140737488355328) : sumOk s := by
  have hl := (CrcM.sum s.data.toList).isLt
  refine ⟨?_, u32_wf _ ?_ ?_, i64_wf _ (by omega) (by omega)⟩
  · rw [crcS_eq s h]; exact sum_eq s h
  · rw [crcS_eq s h]; omega
  · rw [crcS_eq s h]; omega
theorem first_eq {l : List ByteArray} (h : Small l) : dedupe_First.f l = some (firstsL l) := by
  unfold dedupe_First.f
  rw [if_pos ⟨by have := h.1; omega, fun i hi => sumOk_of _ (by have := h.2 i hi; omega)⟩]
def sumsL (l : List ByteArray) (n : Nat) : List Int := (List.range n).map fun i => crcS (txt l i)
theorem sumsL_succ (l : List ByteArray) (n : Nat) : sumsL l (n + 1) = sumsL l n ++ [crcS (txt l n)] := by simp [sumsL, List.range_succ]
theorem sumsL_length (l : List ByteArray) (n : Nat) : (sumsL l n).length = n := by simp [sumsL]
theorem sums_l0 {l : List ByteArray} (h : Small l) : ∀ (d i k : Nat), i + d = l.length → d < k → dedupe_Sums.l0 k (sumsL l i) l (l.length : Int) (i : Int) = some (sumsL l l.length) := by
  intro d
  induction d with
  | zero =>
    intro i k hi hk
    obtain ⟨k, rfl⟩ : ∃ q, k = q + 1 := ⟨k - 1, by omega⟩
    have : i = l.length := by omega
    subst this
    unfold dedupe_Sums.l0
    rw [if_neg (by omega)]
  | succ d ih =>
    intro i k hi hk
    obtain ⟨k, rfl⟩ : ∃ q, k = q + 1 := ⟨k - 1, by omega⟩
    have hl := h.1
    have hs := h.2 i (by omega)
    unfold dedupe_Sums.l0
    rw [if_pos (by omega), if_pos (by omega), if_pos (by omega), rdOf_txt, (sumOk_of _ (by omega)).1]
    simp only [Option.bind_some]
    rw [if_pos (by rw [sumsL_length]; omega), ← sumsL_succ, wsucc _ (by omega)]
    exact ih (i + 1) k (by omega) (by omega)
theorem sums_eq {l : List ByteArray} (h : Small l) (k : Nat) (hk : l.length < k) : dedupe_Sums.f k l = some (sumsL l l.length) := by
  unfold dedupe_Sums.f
  exact sums_l0 h l.length 0 k (by omega) hk
theorem same_l0 {a : List Int} (h : a.length ≤ 1000000) : ∀ (d i k : Nat), i + d = a.length → d < k → caulkref05_Same.l0 k a a (a.length : Int) (i : Int) = some true := by
  intro d
  induction d with
  | zero =>
    intro i k hi hk
    obtain ⟨k, rfl⟩ : ∃ q, k = q + 1 := ⟨k - 1, by omega⟩
    unfold caulkref05_Same.l0
    rw [if_neg (by omega)]
  | succ d ih =>
    intro i k hi hk
    obtain ⟨k, rfl⟩ : ∃ q, k = q + 1 := ⟨k - 1, by omega⟩
    unfold caulkref05_Same.l0
    rw [if_pos (by omega), if_pos (by omega), if_pos (by omega), if_pos (by omega), if_pos rfl, wsucc _ (by omega)]
    exact ih (i + 1) k (by omega) (by omega)
theorem same_eq (a : List Int) (h : a.length ≤ 1000000) (k : Nat) (hk : a.length < k) : caulkref05_Same.f k a a = some true := by
  unfold caulkref05_Same.f
  rw [if_pos rfl]
  exact same_l0 h a.length 0 k (by omega) hk
def saveN (l : List ByteArray) : Nat → Int
  | 0 => 0
  | i + 1 => saveN l i + (if firstOf l i < i then ((txt l i).size : Int) else 0)
theorem saveN_bound {l : List ByteArray} (h : Small l) : ∀ i : Nat, i ≤ l.length → 0 ≤ saveN l i ∧ saveN l i ≤ 4096 * i := by
  intro i
  induction i with
  | zero => intro _; simp [saveN]
  | succ i ih =>
    intro hi
    have h1 := ih (by omega)
    have h2 := h.2 i (by omega)
    unfold saveN
    split <;> omega
theorem firstsL_length (l : List ByteArray) : (firstsL l).length = l.length := by simp [firstsL]
theorem rd_firsts (l : List ByteArray) (i : Nat) (h : i < l.length) : Go.Proofs.YtgiaopmakkdojaaDoorW.PrintWords.rd (firstsL l) (i : Int) = (firstOf l i : Int) := rd_rmap (fun i => (firstOf l i : Int)) l.length i h
theorem save_l0 {l : List ByteArray} (h : Small l) : ∀ (d i k : Nat), i + d = l.length → d < k → dedupe_Save.l0 k l (saveN l i) (firstsL l) (l.length : Int) (i : Int) = some (saveN l l.length) := by
  intro d
  induction d with
  | zero =>
    intro i k hi hk
    obtain ⟨k, rfl⟩ : ∃ q, k = q + 1 := ⟨k - 1, by omega⟩
    have : i = l.length := by omega
    subst this
    unfold dedupe_Save.l0
    rw [if_neg (by omega)]
  | succ d ih =>
    intro i k hi hk
    obtain ⟨k, rfl⟩ : ∃ q, k = q + 1 := ⟨k - 1, by omega⟩
    have hl := h.1
    have hs := h.2 i (by omega)
    have hb := saveN_bound h i (by omega)
    have hx := ih (i + 1) k (by omega) (by omega)
    unfold dedupe_Save.l0
    rw [if_pos (by omega), if_pos (by omega), if_pos (by rw [firstsL_length]; omega), rd_firsts l i (by omega), rdOf_txt, wsucc _ (by omega)]
    by_cases hf : firstOf l i < i
    · rw [if_pos (by omega), if_pos (by omega)]
      have e : wrap64 (saveN l i + ((txt l i).size : Int)) = saveN l (i + 1) := by
        rw [w64 (by omega) (by omega), saveN, if_pos hf]
      rw [e]
      exact hx
    · rw [if_neg (by omega)]
      have e : saveN l i = saveN l (i + 1) := by rw [saveN, if_neg hf, Int.add_zero]
      rw [e]
      exact hx
theorem save_eq {l : List ByteArray} (h : Small l) (k : Nat) (hk : l.length < k) : dedupe_Save.f k l = some (saveN l l.length) := by
  unfold dedupe_Save.f
  rw [first_eq h]
  simp only [Option.bind_some]
  rw [firstsL_length]
  exact save_l0 h l.length 0 k (by omega) hk
/-- A text of noughts alone. -/
def hole (s : ByteArray) : Bool := s.data.toList.all (· == 0)
def holesL (l : List ByteArray) (n : Nat) : List Int := ((List.range n).filter fun i => hole (txt l i)).map fun (i : Nat) => (i : Int)
theorem holesL_succ (l : List ByteArray) (n : Nat) : holesL l (n + 1) = if hole (txt l n) = true then holesL l n ++ [(n : Int)] else holesL l n := by
  unfold holesL
  rw [List.range_succ, List.filter_append, List.map_append]
  by_cases h : hole (txt l n) = true
  · rw [if_pos h, List.filter_cons_of_pos (p := fun i => hole (txt l i)) h]; rfl
  · rw [if_neg h, List.filter_cons_of_neg (p := fun i => hole (txt l i)) h]; simp
theorem holesL_len (l : List ByteArray) (n : Nat) : (holesL l n).length ≤ n := by
  unfold holesL
  rw [List.length_map]
  have := List.length_filter_le (fun i => hole (txt l i)) (List.range n)
  rwa [List.length_range] at this
theorem dropWhile_nil (l : List UInt8) (p : UInt8 → Bool) : l.dropWhile p = [] ↔ l.all p = true := by
  induction l with
  | nil => simp
  | cons a r ih =>
    by_cases h : p a = true
    · rw [List.dropWhile_cons_of_pos h, ih]; simp [h]
    · rw [List.dropWhile_cons_of_neg h]; simp [h]
theorem trim_nil (l : List UInt8) : Lib.trimB l 0 = [] ↔ l.all (· == 0) = true := by
  unfold Lib.trimB Lib.trimLeftB Lib.trimRightB
  rw [dropWhile_nil, List.all_reverse]
  constructor
  · intro h
    by_cases e : l.reverse.dropWhile (· == 0) = []
    · have := (dropWhile_nil _ _).1 e
      rwa [List.all_reverse] at this
    · exfalso
      have h2 := List.head_dropWhile_not (p := (· == (0 : UInt8))) (l := l.reverse) e
      have h3 := List.all_eq_true.1 h _ (List.head_mem e)
      rw [h2] at h3
      cases h3
  · intro h
    refine List.all_eq_true.2 (fun x hx => List.all_eq_true.1 h x ?_)
    have := (List.dropWhile_sublist (· == (0 : UInt8)) (l := l.reverse)).subset hx
    exact List.mem_reverse.1 this
theorem trim_eq (s : ByteArray) (h : s.size ≤ 4096) : ∃ t, strings_Trim.f s (⟨#[0]⟩ : ByteArray) = some t ∧ (t.toList = ([] : List UInt8) ↔ hole s = true) := by
  refine ⟨_, by unfold strings_Trim.f; rw [if_pos ⟨rfl, by omega⟩], ?_⟩
  rw [Lib.toList_data]
  exact trim_nil _
theorem holes_l0 {l : List ByteArray} (h : Small l) : ∀ (d i k : Nat), i + d = l.length → d < k → dedupe_Holes.l0 k (holesL l i) l (l.length : Int) (i : Int) = some (holesL l l.length) := by
  intro d
  induction d with
  | zero =>
    intro i k hi hk
    obtain ⟨k, rfl⟩ : ∃ q, k = q + 1 := ⟨k - 1, by omega⟩
    have : i = l.length := by omega
    subst this
    unfold dedupe_Holes.l0
    rw [if_neg (by omega)]
  | succ d ih =>
    intro i k hi hk
    obtain ⟨k, rfl⟩ : ∃ q, k = q + 1 := ⟨k - 1, by omega⟩
    have hl := h.1
    obtain ⟨t, ht, hh⟩ := trim_eq (txt l i) (h.2 i (by omega))
    have hx := ih (i + 1) k (by omega) (by omega)
    rw [holesL_succ] at hx
    unfold dedupe_Holes.l0
    rw [if_pos (by omega), if_pos (by omega), if_pos (by omega), rdOf_txt, ht]
    simp only [Option.bind_some]
    rw [wsucc _ (by omega)]
    by_cases e : hole (txt l i) = true
    · rw [if_pos (hh.2 e), if_pos (by have := holesL_len l i; omega)]
      rw [if_pos e] at hx
      exact hx
    · rw [if_neg (fun h' => e (hh.1 h'))]
      rw [if_neg e] at hx
      exact hx
theorem holes_eq {l : List ByteArray} (h : Small l) (k : Nat) (hk : l.length < k) : dedupe_Holes.f k l = some (holesL l l.length) := by
  unfold dedupe_Holes.f
  exact holes_l0 h l.length 0 k (by omega) hk
theorem small_l0 (l : List ByteArray) : ∀ (d i k : Nat), i + d = l.length → d < k → l.length ≤ 1099511627776 * 8 → ∃ b, caulklaw38_small.l0 k l (l.length : Int) (i : Int) = some b ∧ (b = true → ∀ j, i ≤ j → j < l.length → j ≠ 100 ∧ (txt l j).size ≤ 4096) := by
  intro d
  induction d with
  | zero =>
    intro i k hi hk _
    obtain ⟨k, rfl⟩ : ∃ q, k = q + 1 := ⟨k - 1, by omega⟩
    unfold caulklaw38_small.l0
    rw [if_neg (by omega)]
    exact ⟨true, rfl, fun _ j h1 h2 => by omega⟩
  | succ d ih =>
    intro i k hi hk hl
    obtain ⟨k, rfl⟩ : ∃ q, k = q + 1 := ⟨k - 1, by omega⟩
    unfold caulklaw38_small.l0
    rw [if_pos (by omega), if_pos (by omega), if_pos (by omega), rdOf_txt]
    by_cases e : i = 100
    · rw [if_pos (by omega)]
      exact ⟨false, rfl, fun h => by cases h⟩
    · rw [if_neg (by omega)]
      by_cases e2 : ((txt l i).size : Int) > 4096
      · rw [if_pos e2]
        exact ⟨false, rfl, fun h => by cases h⟩
      · rw [if_neg e2]
        have ew : wrap64 ((i : Int) + 1) = ((i + 1 : Nat) : Int) := by rw [w64 (by omega) (by omega)]; omega
        rw [ew]
        obtain ⟨b, hb, hp⟩ := ih (i + 1) k (by omega) (by omega) hl
        refine ⟨b, hb, fun h j h1 h2 => ?_⟩
        by_cases e3 : j = i
        · subst e3
          exact ⟨e, by omega⟩
        · exact hp h j (by omega) h2
theorem small_eq (l : List ByteArray) (hl : l.length ≤ 1099511627776 * 8) (k : Nat) (hk : l.length < k) : ∃ b, caulklaw38_small.f k l = some b ∧ (b = true → Small l ∧ l.length ≤ 100) := by
  obtain ⟨b, hb, hp⟩ := small_l0 l l.length 0 k (by omega) hk hl
  refine ⟨b, hb, fun h => ?_⟩
  have h1 := hp h
  have h2 : l.length ≤ 100 := by
    by_cases e : l.length ≤ 100
    · exact e
    · exact absurd rfl (h1 100 (by omega) (by omega)).1
  exact ⟨⟨by omega, fun i hi => (h1 i (by omega) hi).2⟩, h2⟩
theorem lives38 (k : Nat) (hk : 20 < k) : caulklaw38_lives.f k = some true := by
  have a1 : Small [(⟨#[97, 98]⟩ : ByteArray), (⟨#[99]⟩ : ByteArray), (⟨#[97, 98]⟩ : ByteArray), (⟨#[0]⟩ : ByteArray), (⟨#[]⟩ : ByteArray), (⟨#[99]⟩ : ByteArray)] := by
    unfold Small
    decide
  have a2 : Small [(⟨#[49, 50, 51, 52, 53, 54, 55, 56, 57]⟩ : ByteArray)] := by
    unfold Small
    decide
  have e1 : firstsL [(⟨#[97, 98]⟩ : ByteArray), (⟨#[99]⟩ : ByteArray), (⟨#[97, 98]⟩ : ByteArray), (⟨#[0]⟩ : ByteArray), (⟨#[]⟩ : ByteArray), (⟨#[99]⟩ : ByteArray)] = [0, 1, 0, 3, 4, 1] := by decide
  have e2 : saveN [(⟨#[97, 98]⟩ : ByteArray), (⟨#[99]⟩ : ByteArray), (⟨#[97, 98]⟩ : ByteArray), (⟨#[0]⟩ : ByteArray), (⟨#[]⟩ : ByteArray), (⟨#[99]⟩ : ByteArray)] 6 = 3 := by decide
  have e3 : holesL [(⟨#[97, 98]⟩ : ByteArray), (⟨#[99]⟩ : ByteArray), (⟨#[97, 98]⟩ : ByteArray), (⟨#[0]⟩ : ByteArray), (⟨#[]⟩ : ByteArray), (⟨#[99]⟩ : ByteArray)] 6 = [3, 4] := by decide
  have e4 : sumsL [(⟨#[49, 50, 51, 52, 53, 54, 55, 56, 57]⟩ : ByteArray)] 1 = [3808858755] := by
    unfold sumsL
    simp only [List.range_succ, List.range_zero, List.nil_append, List.map_cons, List.map_nil]
    rw [crcS_eq _ (by decide)]
    have : CrcM.sum (txt [(⟨#[49, 50, 51, 52, 53, 54, 55, 56, 57]⟩ : ByteArray)] 0).data.toList = 0xe3069283#32 := by decide +kernel
    rw [this]; rfl
  unfold caulklaw38_lives.f
  simp only [Option.bind_some]
  rw [sums_eq a2 k (by simp; omega), first_eq a1, e1]
  have h5 : sumsL [(⟨#[49, 50, 51, 52, 53, 54, 55, 56, 57]⟩ : ByteArray)] ([(⟨#[49, 50, 51, 52, 53, 54, 55, 56, 57]⟩ : ByteArray)] : List ByteArray).length = [3808858755] := e4
  rw [h5]
  simp only [Option.bind_some]
  rw [same_eq [0, 1, 0, 3, 4, 1] (by decide) k (by simp; omega)]
  simp only [Option.bind_some]
  rw [if_pos (by trivial), save_eq a1 k (by simp; omega)]
  have h6 : saveN [(⟨#[97, 98]⟩ : ByteArray), (⟨#[99]⟩ : ByteArray), (⟨#[97, 98]⟩ : ByteArray), (⟨#[0]⟩ : ByteArray), (⟨#[]⟩ : ByteArray), (⟨#[99]⟩ : ByteArray)] ([(⟨#[97, 98]⟩ : ByteArray), (⟨#[99]⟩ : ByteArray), (⟨#[97, 98]⟩ : ByteArray), (⟨#[0]⟩ : ByteArray), (⟨#[]⟩ : ByteArray), (⟨#[99]⟩ : ByteArray)] : List ByteArray).length = 3 := e2
  rw [h6]
  simp only [Option.bind_some]
  rw [if_pos (by trivial), holes_eq a1 k (by simp; omega)]
  have h7 : holesL [(⟨#[97, 98]⟩ : ByteArray), (⟨#[99]⟩ : ByteArray), (⟨#[97, 98]⟩ : ByteArray), (⟨#[0]⟩ : ByteArray), (⟨#[]⟩ : ByteArray), (⟨#[99]⟩ : ByteArray)] ([(⟨#[97, 98]⟩ : ByteArray), (⟨#[99]⟩ : ByteArray), (⟨#[97, 98]⟩ : ByteArray), (⟨#[0]⟩ : ByteArray), (⟨#[]⟩ : ByteArray), (⟨#[99]⟩ : ByteArray)] : List ByteArray).length = [3, 4] := e3
  rw [h7]
  simp only [Option.bind_some]
  rw [same_eq [3, 4] (by decide) k (by simp; omega)]
  simp only [Option.bind_some]
  rw [if_pos (by trivial), if_pos (by trivial), if_pos (by decide)]
  rfl
/-- The first ones alone. -/
def fsL (l : List ByteArray) (n : Nat) : List ByteArray := ((List.range n).filter fun i => decide (firstOf l i = i)).map (txt l)
theorem fsL_succ (l : List ByteArray) (n : Nat) : fsL l (n + 1) = if firstOf l n = n then fsL l n ++ [txt l n] else fsL l n := by
  unfold fsL
  rw [List.range_succ, List.filter_append, List.map_append]
  by_cases h : firstOf l n = n
  · rw [if_pos h, List.filter_cons_of_pos (by simpa using h)]; rfl
  · rw [if_neg h, List.filter_cons_of_neg (by simpa using h)]; simp
theorem fsL_len (l : List ByteArray) (n : Nat) : (fsL l n).length ≤ n := by
  unfold fsL
  rw [List.length_map]
  have := List.length_filter_le (fun i => decide (firstOf l i = i)) (List.range n)
  rwa [List.length_range] at this
theorem fsL_small {l : List ByteArray} (h : Small l) : Small (fsL l l.length) := by
  refine ⟨Nat.le_trans (fsL_len l l.length) h.1, fun i hi => ?_⟩
  have hm := txt_mem hi
  unfold fsL at hm
  obtain ⟨j, hj, e⟩ := List.mem_map.1 hm
  have hj2 := List.mem_range.1 (List.mem_filter.1 hj).1
  have := h.2 j hj2
  rw [e] at this
  exact this
theorem fsL_apart (l : List ByteArray) : (fsL l l.length).Pairwise (· ≠ ·) := by
  unfold fsL
  rw [List.pairwise_map]
  have hp : ((List.range l.length).filter fun i => decide (firstOf l i = i)).Pairwise (· < ·) := (List.pairwise_lt_range (n := l.length)).filter _
  refine hp.imp_of_mem (fun {a b} ha hb hab => ?_)
  have hb1 := of_decide_eq_true (List.mem_filter.1 hb).2
  have ha2 := List.mem_range.1 (List.mem_filter.1 ha).1
  exact firstOf_min (by omega) ha2
theorem apart_first {l : List ByteArray} (h : l.Pairwise (· ≠ ·)) {i : Nat} (hi : i < l.length) : firstOf l i = i := by
  have hle := firstOf_le hi
  by_cases e : firstOf l i = i
  · exact e
  · exfalso
    have hlt : firstOf l i < i := by omega
    have := List.pairwise_iff_getElem.1 h (firstOf l i) i (by omega) hi hlt
    have e2 := firstOf_txt hi
    rw [txt_get l hi, txt_get l (by omega)] at e2
    exact this e2
theorem saveN_zero {l : List ByteArray} (h : l.Pairwise (· ≠ ·)) : ∀ n : Nat, n ≤ l.length → saveN l n = 0 := by
  intro n
  induction n with
  | zero => intro _; rfl
  | succ n ih =>
    intro hn
    rw [saveN, ih (by omega), if_neg (by rw [apart_first h (by omega)]; omega)]
    rfl
def bytesN (l : List ByteArray) : Nat → Int
  | 0 => 0
  | i + 1 => bytesN l i + ((txt l i).size : Int)
theorem bytesN_bound {l : List ByteArray} (h : Small l) : ∀ i : Nat, i ≤ l.length → 0 ≤ bytesN l i ∧ bytesN l i ≤ 4096 * i := by
  intro i
  induction i with
  | zero => intro _; simp [bytesN]
  | succ i ih =>
    intro hi
    have h1 := ih (by omega)
    have h2 := h.2 i (by omega)
    unfold bytesN
    omega
theorem txt_left (l m : List ByteArray) {i : Nat} (h : i < l.length) : txt (l ++ m) i = txt l i := by
  unfold txt
  rw [List.getD_eq_getElem?_getD, List.getElem?_append_left h, ← List.getD_eq_getElem?_getD]
theorem txt_right (l m : List ByteArray) (i : Nat) : txt (l ++ m) (l.length + i) = txt m i := by
  unfold txt
  rw [List.getD_eq_getElem?_getD, List.getElem?_append_right (Nat.le_add_right _ _), Nat.add_sub_cancel_left, ← List.getD_eq_getElem?_getD]
theorem first_left (l m : List ByteArray) {i : Nat} (h : i < l.length) : firstOf (l ++ m) i = firstOf l i := by
  have hlt := firstOf_lt h
  unfold firstOf at hlt ⊢
  rw [txt_left l m h, List.findIdx_append, if_pos hlt]
theorem first_right (l : List ByteArray) {i : Nat} (h : i < l.length) : firstOf (l ++ l) (l.length + i) = firstOf l i := by
  have hlt := firstOf_lt h
  unfold firstOf at hlt ⊢
  rw [txt_right l l i, List.findIdx_append, if_pos hlt]
theorem save_left (l m : List ByteArray) : ∀ n : Nat, n ≤ l.length → saveN (l ++ m) n = saveN l n := by
  intro n
  induction n with
  | zero => intro _; rfl
  | succ n ih =>
    intro hn
    rw [saveN, saveN, ih (by omega), first_left l m (by omega), txt_left l m (by omega)]
theorem save_right (l : List ByteArray) : ∀ n : Nat, n ≤ l.length → saveN (l ++ l) (l.length + n) = saveN l l.length + bytesN l n := by
  intro n
  induction n with
  | zero => intro _; rw [Nat.add_zero, save_left l l _ (Nat.le_refl _)]; simp [bytesN]
  | succ n ih =>
    intro hn
    have hf := firstOf_le (l := l) (i := n) (by omega)
    rw [← Nat.add_assoc, saveN, ih (by omega), first_right l (by omega), txt_right, if_pos (by omega), bytesN]
    omega
theorem twice_small {l : List ByteArray} (h : Small l) (hl : l.length ≤ 100) : Small (l ++ l) := by
  refine ⟨by rw [List.length_append]; omega, fun i hi => ?_⟩
  rw [List.length_append] at hi
  by_cases e : i < l.length
  · rw [txt_left l l e]; exact h.2 i e
  · obtain ⟨j, rfl⟩ : ∃ j, i = l.length + j := ⟨i - l.length, by omega⟩
    rw [txt_right]; exact h.2 j (by omega)
theorem again_l0 {l : List ByteArray} (h : Small l) (hl1 : l.length ≤ 100) : ∀ (d i k : Nat), i + d = l.length → d + 500 < k → caulklaw38_DedupeAgain.l0 k l (fsL l i) (bytesN l i) (firstsL l) (l.length : Int) (i : Int) = some true := by
  intro d
  have hl := h.1
  induction d with
  | zero =>
    intro i k hi hk
    obtain ⟨k, rfl⟩ : ∃ q, k = q + 1 := ⟨k - 1, by omega⟩
    have : i = l.length := by omega
    subst this
    have hfl := fsL_len l l.length
    have hsb := saveN_bound h l.length (Nat.le_refl _)
    have hbb := bytesN_bound h l.length (Nat.le_refl _)
    unfold caulklaw38_DedupeAgain.l0
    rw [if_neg (by omega), save_eq (fsL_small h) k (by omega), saveN_zero (fsL_apart l) _ (Nat.le_refl _)]
    simp only [Option.bind_some]
    rw [if_pos (by trivial), if_pos (by simp; omega)]
    simp only [Option.bind_some, List.nil_append]
    rw [if_pos (by omega), save_eq (twice_small h hl1) k (by rw [List.length_append]; omega), save_eq h k (by omega), List.length_append, save_right l l.length (Nat.le_refl _)]
    simp only [Option.bind_some]
    rw [w64 (by omega) (by omega)]
    simp
  | succ d ih =>
    intro i k hi hk
    obtain ⟨k, rfl⟩ : ∃ q, k = q + 1 := ⟨k - 1, by omega⟩
    have hlt : i < l.length := by omega
    have hx := ih (i + 1) k (by omega) (by omega)
    rw [fsL_succ] at hx
    have hbb := bytesN_bound h i (by omega)
    have hs := h.2 i hlt
    have hfl := fsL_len l i
    have e : wrap64 (bytesN l i + ((txt l i).size : Int)) = bytesN l (i + 1) := by rw [w64 (by omega) (by omega), bytesN]
    unfold caulklaw38_DedupeAgain.l0
    rw [if_pos (by omega), if_pos (by omega), if_pos (by rw [firstsL_length]; omega), if_neg (by omega), rd_firsts l i hlt, rdOf_txt, e, wsucc _ (by omega)]
    by_cases hf : firstOf l i = i
    · rw [if_pos hf] at hx
      rw [if_pos (by omega), if_pos (by omega), if_pos (by omega)]
      exact hx
    · rw [if_neg hf] at hx
      rw [if_neg (by omega), if_pos (by omega)]
      exact hx
theorem DedupeAgain : caulklaw38_DedupeAgain.Pure := by
  intro l hl
  obtain ⟨q, hq⟩ : ∃ q, q = l.length + 1000 := ⟨_, rfl⟩
  obtain ⟨b, hb, hp⟩ := small_eq l (by omega) q (by omega)
  refine ⟨q, ?_⟩
  unfold caulklaw38_DedupeAgain.f
  rw [lives38 _ (by omega)]
  simp only [Option.bind_some]
  rw [if_pos (by trivial), hb]
  simp only [Option.bind_some]
  cases b with
  | false => rw [if_neg (by simp)]
  | true =>
    obtain ⟨h, h1⟩ := hp rfl
    rw [if_pos (by trivial), first_eq h]
    simp only [Option.bind_some]
    rw [firstsL_length]
    exact again_l0 h h1 l.length 0 _ (by omega) (by omega)
end Go.Proofs.YtgiaopmakkdojaaDoor.Pure
