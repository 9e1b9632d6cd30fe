/- EntryBack: the pure statement: numbers and lists alone. Conditions: those of the statement itself. -/
import Derived.Test.YtgiljibkjccgfabGx11
import Derived.OpenShut
import Derived.Laws.Bits64b
import Derived.Lib.Strings
namespace Go.Proofs.Ytgiljibkjccgfab.Pure
open Go.RowKit Go.Proofs.Ytgiljibkjccgfab.G Go.Proofs.YtgiljibkjccgfabW.PrintWords Go.Proofs.YtgiljibkjccgfabW.PrintLast Go.Proofs.YtgiljibkjccgfabW.PrintMore Go.OpenShut
set_option linter.unusedVariables false
set_option linter.unusedSimpArgs false
theorem or_add (i x y : Nat) (hx : x < 2 ^ i) (hy : x + 2 ^ i * y < 18446744073709551616) : Go.bits .or .u64 (x : Int) ((2 ^ i * y : Nat) : Int) = ((x + 2 ^ i * y : Nat) : Int) := by
  rw [Go.bits_or_u64_nat _ _ (by omega) (by omega), Nat.or_comm, ← Nat.two_pow_add_eq_or_of_lt hx, Nat.add_comm]
/-- A byte. -/
def isY (a : Int) : Prop := 0 ≤ a ∧ a ≤ 255
theorem bytesOf_isY (s : ByteArray) : ∀ x ∈ bytesOf s, isY x := by
  intro x hx
  simp only [bytesOf, List.mem_map] at hx
  obtain ⟨b, _, rfl⟩ := hx
  have := b.toNat_lt
  unfold isY; omega
theorem bytesOf_inj {a b : ByteArray} (h : bytesOf a = bytesOf b) : a = b := by
  have : a.data.toList = b.data.toList := by
    apply List.ext_getElem?
    intro i
    have h2 := congrArg (fun l => l[i]?) h
    simp only [bytesOf, List.getElem?_map] at h2
    cases h3 : a.data.toList[i]? <;> cases h4 : b.data.toList[i]? <;> rw [h3, h4] at h2 <;> simp at h2 ⊢
    exact UInt8.toNat_inj.1 (by omega)
  cases a; cases b; simp at this; simp [this]
theorem bytesOf_strOfNums {xs : List Int} (h : ∀ x ∈ xs, isY x) : bytesOf (strOfNums xs) = xs := by
  unfold bytesOf strOfNums
  simp only [List.map_map]
  conv => rhs; rw [← List.map_id xs]
  apply List.map_congr_left
  intro x hx
  have := h x hx
  unfold isY at this
  simp only [Function.comp, UInt8.toNat_ofNat', id]
  omega
theorem bytesOf_append (a b : ByteArray) : bytesOf (a ++ b) = bytesOf a ++ bytesOf b := by
  unfold bytesOf; rw [ByteArray.data_append]; simp
theorem strOfNums_bytesOf (a : ByteArray) : strOfNums (bytesOf a) = a := bytesOf_inj (bytesOf_strOfNums (bytesOf_isY a))
theorem strOfNums_append (xs ys : List Int) : strOfNums (xs ++ ys) = strOfNums xs ++ strOfNums ys := by
  have : (strOfNums (xs ++ ys)).data = (strOfNums xs ++ strOfNums ys).data := by rw [ByteArray.data_append]; simp [strOfNums]
  exact ByteArray.ext this
theorem son_size (xs : List Int) : (strOfNums xs).size = xs.length := by
  show (strOfNums xs).data.size = _; simp [strOfNums]
theorem bt_get (s : ByteArray) (i : Nat) : bt s (i : Int) = (bytesOf s).getD i 0 := by
  rw [← rd_bytesOf]; rfl
theorem bytesOf_extract (s : ByteArray) (i : Nat) : bytesOf (s.extract i s.size) = (bytesOf s).drop i := by
  unfold bytesOf
  rw [ByteArray.data_extract]
  have : s.size = s.data.size := rfl
  rw [this, Array.toList_extract, List.extract_eq_drop_take', List.map_drop, ← Array.length_toList, List.take_length]
theorem empty_append (s : ByteArray) : (⟨#[]⟩ : ByteArray) ++ s = s := by
  apply bytesOf_inj; rw [bytesOf_append]; rfl
theorem append_empty (s : ByteArray) : s ++ (⟨#[]⟩ : ByteArray) = s := by
  apply bytesOf_inj; rw [bytesOf_append, show bytesOf (⟨#[]⟩ : ByteArray) = [] from rfl, List.append_nil]
theorem bapp_assoc (a b c : ByteArray) : (a ++ b) ++ c = a ++ (b ++ c) := by
  apply bytesOf_inj; simp only [bytesOf_append, List.append_assoc]

/-! numbers and their bytes -/
def digs (n : Int) : Nat → List Int
  | 0 => []
  | d + 1 => n % 256 :: digs (n / 256) d
theorem digs_length (d : Nat) : ∀ n, (digs n d).length = d := by
  induction d with
  | zero => intro n; rfl
  | succ d ih => intro n; simp [digs, ih]
theorem digs_isY (d : Nat) : ∀ n, ∀ x ∈ digs n d, isY x := by
  induction d with
  | zero => intro n x hx; simp [digs] at hx
  | succ d ih =>
    intro n x hx
    simp only [digs, List.mem_cons] at hx
    rcases hx with rfl | hx
    · unfold isY; omega
    · exact ih _ x hx
def numL : List Int → Int
  | [] => 0
  | x :: xs => x + 256 * numL xs
theorem pow256_pos (d : Nat) : (0 : Int) < 256 ^ d := Int.pow_pos (by decide)
theorem div_pow_succ (n : Int) (d : Nat) : n / 256 ^ (d + 1) = n / 256 / 256 ^ d := by
  rw [Int.pow_succ, Int.mul_comm, Int.ediv_ediv_of_nonneg (by decide)]
theorem numL_digs (d : Nat) : ∀ n : Int, n / 256 ^ d = 0 → numL (digs n d) = n := by
  induction d with
  | zero => intro n h; simp at h; simp [digs, numL, h]
  | succ d ih =>
    intro n h
    rw [div_pow_succ] at h
    simp only [digs, numL]
    rw [ih _ h]
    omega
theorem numL_range : ∀ l : List Int, (∀ x ∈ l, isY x) → 0 ≤ numL l ∧ numL l < 256 ^ l.length := by
  intro l
  induction l with
  | nil => intro _; exact ⟨Int.le_refl _, by decide⟩
  | cons x l ih =>
    intro h
    obtain ⟨h1, h2⟩ := ih (fun y hy => h y (List.mem_cons_of_mem _ hy))
    have hx := h x (List.mem_cons_self ..)
    unfold isY at hx
    simp only [numL, List.length_cons]
    rw [Int.pow_succ]
    omega
theorem digs_numL : ∀ l : List Int, (∀ x ∈ l, isY x) → digs (numL l) l.length = l := by
  intro l
  induction l with
  | nil => intro _; rfl
  | cons x l ih =>
    intro h
    have hx := h x (List.mem_cons_self ..)
    unfold isY at hx
    simp only [numL, List.length_cons, digs]
    rw [show (x + 256 * numL l) % 256 = x from by omega, show (x + 256 * numL l) / 256 = numL l from by omega, ih (fun y hy => h y (List.mem_cons_of_mem _ hy))]

/-! widths -/
def okW (w : Int) : Prop := w = 1 ∨ w = 2 ∨ w = 4 ∨ w = 8
instance (w : Int) : Decidable (okW w) := by unfold okW; exact inferInstance
theorem okW_nat {w : Int} (h : okW w) : ∃ m : Nat, w = (m : Int) ∧ 1 ≤ m ∧ m ≤ 8 := ⟨w.toNat, by unfold okW at h; omega, by unfold okW at h; omega, by unfold okW at h; omega⟩
theorem width_eq (w : Int) : field_width.f w = some (decide (okW w)) := by
  unfold field_width.f okW
  by_cases h1 : w = 1
  · rw [if_pos h1]; simp [h1]
  rw [if_neg h1]
  by_cases h2 : w = 2
  · rw [if_pos h2]; simp [h2]
  rw [if_neg h2]
  by_cases h3 : w = 4
  · rw [if_pos h3]; simp [h3]
  rw [if_neg h3]
  by_cases h4 : w = 8
  · rw [if_pos h4]; simp [h4]
  · rw [if_neg h4]; simp [h1, h2, h3, h4]
theorem refwidth_eq (w : Int) : caulkref07_width.f w = some (decide (okW w)) := by
  unfold caulkref07_width.f okW
  by_cases h1 : w = 1
  · rw [if_pos h1]; simp [h1]
  rw [if_neg h1]
  by_cases h2 : w = 2
  · rw [if_pos h2]; simp [h2]
  rw [if_neg h2]
  by_cases h3 : w = 4
  · rw [if_pos h3]; simp [h3]
  rw [if_neg h3]
  by_cases h4 : w = 8
  · simp [h4]
  · simp [h1, h2, h3, h4]

/-! put -/
def isU (n : Int) : Prop := 0 ≤ n ∧ n ≤ 18446744073709551615
def putF (w n : Int) : ByteArray × Int := if okW w ∧ n / 256 ^ w.toNat = 0 then (strOfNums (digs n w.toNat), 0) else (⟨#[]⟩, 1)
theorem shr_eq (n : Int) (i : Nat) (hi : i ≤ 8) : shr .u64 n ((8 * i : Nat) : Int) = n / 256 ^ i := by
  unfold shr
  rw [Int.toNat_natCast, Nat.min_eq_left (by simp [IntKind.bits]; omega), Int.pow_mul]
  rfl
theorem put_l0 (n : Int) (m : Nat) (hm : m ≤ 8) : ∀ (d i k : Nat) (acc : List Int), i + d = m → acc.length + d ≤ 1000 → d < k → field_put.l0 k acc n (m : Int) (i : Int) = some (acc ++ digs (n / 256 ^ i) d) := by
  intro d
  induction d with
  | zero =>
    intro i k acc hi ha hk
    obtain ⟨k, rfl⟩ : ∃ m, k = m + 1 := ⟨k - 1, by omega⟩
    simp only [field_put.l0]
    rw [if_neg (by omega)]
    simp [digs]
  | succ d ih =>
    intro i k acc hi ha hk
    obtain ⟨k, rfl⟩ : ∃ m, k = m + 1 := ⟨k - 1, by omega⟩
    have h1 : (i : Int) < (m : Int) := by omega
    have h2 : (0 : Int) ≤ ((8 * i : Nat) : Int) := Int.natCast_nonneg _
    have h3 : acc.length < 140737488355328 := by omega
    have ih' := ih (i + 1) k (acc ++ [n / 256 ^ i % 256]) (by omega) (by simp; omega) (by omega)
    have e1 : wrap64 (8 * (i : Int)) = ((8 * i : Nat) : Int) := by unfold wrap64; omega
    have e2 : wrap64 ((i : Int) + 1) = ((i + 1 : Nat) : Int) := by unfold wrap64; omega
    simp only [field_put.l0]
    rw [if_pos h1, e1, if_pos h2, if_pos h3, shr_eq n i (by omega), e2, ih', List.append_assoc, List.singleton_append]
    simp only [digs]
    rw [Int.ediv_ediv_of_nonneg (Int.le_of_lt (pow256_pos i)), ← Int.pow_succ]
theorem put_eq {w n : Int} (hn : isU n) (k : Nat) (hk : 20 ≤ k) : field_Put.f k w n = some (putF w n) := by
  unfold field_Put.f
  rw [width_eq]
  simp only [Option.bind_some]
  by_cases hw : okW w
  · rw [decide_eq_true hw, if_pos rfl]
    obtain ⟨m, rfl, hm1, hm8⟩ := okW_nat hw
    have hp : field_put.f k [] (m : Int) n = some (digs n m) := by
      unfold field_put.f
      have := put_l0 n m hm8 m 0 k [] (by omega) (by simp; omega) (by omega)
      simpa using this
    have e1 : wrap64 (8 * (m : Int)) = ((8 * m : Nat) : Int) := by unfold wrap64; omega
    rw [hp, e1]
    unfold putF
    rw [Int.toNat_natCast]
    by_cases h8 : (m : Int) < 8
    · rw [if_pos h8, if_pos (Int.natCast_nonneg _), shr_eq n m (by omega)]
      by_cases h0 : n / 256 ^ m = 0
      · rw [if_pos h0, if_pos ⟨hw, h0⟩]; rfl
      · rw [if_neg h0, if_neg (fun h => h0 h.2)]
    · rw [if_neg h8]
      obtain rfl : m = 8 := by omega
      have h0 : n / 256 ^ 8 = 0 := by unfold isU at hn; rw [show (256 : Int) ^ 8 = 18446744073709551616 from rfl]; omega
      rw [if_pos ⟨hw, h0⟩]; rfl
  · rw [decide_eq_false hw]
    unfold putF
    rw [if_neg (fun h : okW w ∧ n / 256 ^ w.toNat = 0 => hw h.1)]; rfl
theorem refput_l0 (w : Int) (m : Nat) (hm : w = (m : Int)) (hm8 : m ≤ 8) : ∀ (d i k : Nat) (n : Int) (acc : List Int), i + d = m → isU n → acc.length + d ≤ 1000 → d < k → caulkref07_Put.l0 k w n acc (i : Int) = some (if n / 256 ^ d = 0 then (strOfNums (acc ++ digs n d), 0) else (⟨#[]⟩, 1)) := by
  intro d
  induction d with
  | zero =>
    intro i k n acc hi hn ha hk
    obtain ⟨k, rfl⟩ : ∃ m, k = m + 1 := ⟨k - 1, by omega⟩
    have h1 : ¬ (i : Int) < w := by omega
    simp only [caulkref07_Put.l0]
    rw [if_neg h1]
    unfold isU at hn
    by_cases h0 : n > 0
    · rw [if_pos h0, if_neg (by simp; omega)]
    · rw [if_neg h0, if_pos (by simp; omega)]; simp [digs]
  | succ d ih =>
    intro i k n acc hi hn ha hk
    obtain ⟨k, rfl⟩ : ∃ m, k = m + 1 := ⟨k - 1, by omega⟩
    have h1 : (i : Int) < w := by omega
    have h3 : acc.length < 140737488355328 := by omega
    unfold isU at hn
    have hn2 : isU (n / 256) := by unfold isU; omega
    have ih' := ih (i + 1) k (n / 256) (acc ++ [n % 256]) (by omega) hn2 (by simp; omega) (by omega)
    have e3 : IntKind.u64.wrap (Int.tdiv n 256) = n / 256 := by rw [IntKind.wrap_u64, Int.tdiv_eq_ediv_of_nonneg hn.1]; omega
    have e4 : Int.tmod n 256 % 256 = n % 256 := by rw [Int.tmod_eq_emod_of_nonneg hn.1]; omega
    have e2 : wrap64 ((i : Int) + 1) = ((i + 1 : Nat) : Int) := by unfold wrap64; omega
    simp only [caulkref07_Put.l0]
    rw [if_pos h1, if_pos h3, e3, e4, e2, ih', div_pow_succ, List.append_assoc, List.singleton_append]
    rfl
theorem refput_eq {w n : Int} (hn : isU n) (k : Nat) (hk : 20 ≤ k) : caulkref07_Put.f k w n = some (putF w n) := by
  unfold caulkref07_Put.f
  rw [refwidth_eq]
  simp only [Option.bind_some]
  by_cases hw : okW w
  · rw [decide_eq_true hw, if_pos rfl]
    obtain ⟨m, rfl, hm1, hm8⟩ := okW_nat hw
    have := refput_l0 (m : Int) m rfl hm8 m 0 k n [] (by omega) hn (by simp; omega) (by omega)
    rw [show ((0 : Nat) : Int) = 0 from rfl, List.nil_append] at this
    rw [this]
    unfold putF
    rw [Int.toNat_natCast]
    by_cases h0 : n / 256 ^ m = 0
    · rw [if_pos h0, if_pos ⟨hw, h0⟩]
    · rw [if_neg h0, if_neg (fun h => h0 h.2)]
  · rw [decide_eq_false hw]
    unfold putF
    rw [if_neg (fun h : okW w ∧ n / 256 ^ w.toNat = 0 => hw h.1)]; rfl

/-! get -/
def numN (s : ByteArray) (i d : Nat) : Int := numL (((bytesOf s).drop i).take d)
theorem numN_succ (s : ByteArray) (i d : Nat) (h : i < s.size) : numN s i (d + 1) = bt s i + 256 * numN s (i + 1) d := by
  have hl : i < (bytesOf s).length := by rw [bytesOf_length]; exact h
  unfold numN
  rw [List.drop_eq_getElem_cons hl, List.take_succ_cons]
  simp only [numL]
  rw [bt_get, List.getD_eq_getElem?_getD, List.getElem?_eq_getElem hl]; rfl
theorem numN_range (s : ByteArray) (i d : Nat) (h : i + d ≤ s.size) : 0 ≤ numN s i d ∧ numN s i d < 256 ^ d := by
  have hl : (((bytesOf s).drop i).take d).length = d := by simp [bytesOf_length]; omega
  have := numL_range (((bytesOf s).drop i).take d) (fun x hx => bytesOf_isY s x (List.mem_of_mem_drop (List.mem_of_mem_take hx)))
  rw [hl] at this
  exact this
def getF (w : Int) (s : ByteArray) : Int × Int := if okW w then (if (s.size : Int) < w then (0, 5) else (numN s 0 w.toNat, 0)) else (0, 1)
theorem pow256_le8 (d : Nat) (h : d ≤ 8) : (256 : Int) ^ d ≤ 18446744073709551616 := by
  rcases (by omega : d = 0 ∨ d = 1 ∨ d = 2 ∨ d = 3 ∨ d = 4 ∨ d = 5 ∨ d = 6 ∨ d = 7 ∨ d = 8) with rfl | rfl | rfl | rfl | rfl | rfl | rfl | rfl | rfl <;> decide
theorem get_l0 (s : ByteArray) (m : Nat) (hm : m ≤ 8) (hs : m ≤ s.size) : ∀ (d i k : Nat) (v : Int), i + d = m → 0 ≤ v → v < 256 ^ i → d < k → field_Get.l0 k s v (m : Int) (i : Int) = some (v + 256 ^ i * numN s i d, 0) := by
  intro d
  induction d with
  | zero =>
    intro i k v hi h0 hv hk
    obtain ⟨k, rfl⟩ : ∃ m, k = m + 1 := ⟨k - 1, by omega⟩
    have h1 : ¬ (i : Int) < (m : Int) := by omega
    simp only [field_Get.l0]
    rw [if_neg h1]
    simp [numN, numL]
  | succ d ih =>
    intro i k v hi h0 hv hk
    obtain ⟨k, rfl⟩ : ∃ m, k = m + 1 := ⟨k - 1, by omega⟩
    have h1 : (i : Int) < (m : Int) := by omega
    have h2 : (i : Int) < (s.size : Int) := by omega
    have hi0 : (0 : Int) ≤ (i : Int) := by omega
    have h4 : (0 : Int) ≤ ((8 * i : Nat) : Int) := Int.natCast_nonneg _
    have hr := bt_range s i
    have hpi : (256 : Int) ^ (i + 1) ≤ 18446744073709551616 := pow256_le8 _ (by omega)
    have hp1 : (256 : Int) ^ (i + 1) = 256 ^ i * 256 := Int.pow_succ ..
    have hpos := pow256_pos i
    have hmul : 256 ^ i * bt s i ≤ 256 ^ i * 255 := Int.mul_le_mul_of_nonneg_left hr.2 (Int.le_of_lt hpos)
    have hmul0 : 0 ≤ 256 ^ i * bt s i := Int.mul_nonneg (Int.le_of_lt hpos) hr.1
    have hnew : v + 256 ^ i * bt s i < 256 ^ (i + 1) := by rw [hp1]; omega
    have ih' := ih (i + 1) k (v + 256 ^ i * bt s i) (by omega) (by omega) hnew (by omega)
    have e3 : shl .u64 (IntKind.u64.wrap (bt s i)) ((8 * i : Nat) : Int) = 256 ^ i * bt s i := by
      unfold shl
      rw [Int.toNat_natCast, Nat.min_eq_left (by simp [IntKind.bits]; omega), IntKind.wrap_u64, IntKind.wrap_u64, Int.pow_mul, show ((2 : Int) ^ 8) = 256 from rfl, Int.emod_eq_of_lt hr.1 (by omega), Int.mul_comm, Int.emod_eq_of_lt hmul0 (by omega)]
    have e5 : Go.bits .or .u64 v (256 ^ i * bt s i) = v + 256 ^ i * bt s i := by
      have ep : (256 : Int) ^ i = ((2 ^ (8 * i) : Nat) : Int) := by
        rw [Nat.pow_mul, Int.natCast_pow]; rfl
      have hor := or_add (8 * i)
      clear e3 ih ih'
      rw [ep] at hv hnew ⊢
      generalize 2 ^ (8 * i) = P at *
      obtain ⟨vn, rfl⟩ := Int.eq_ofNat_of_zero_le h0
      obtain ⟨bn, hb⟩ := Int.eq_ofNat_of_zero_le hr.1
      rw [hb] at hnew ⊢
      have hv' : vn < P := by omega
      have hn2 : ((vn + P * bn : Nat) : Int) < 18446744073709551616 := by
        rw [Int.natCast_add, Int.natCast_mul]; omega
      have := hor vn bn hv' (by omega)
      rw [Int.natCast_add, Int.natCast_mul] at this
      exact this
    have hsz : i < s.size := by omega
    have e1 : wrap64 (8 * (i : Int)) = ((8 * i : Nat) : Int) := by unfold wrap64; omega
    have e2 : wrap64 ((i : Int) + 1) = ((i + 1 : Nat) : Int) := by unfold wrap64; omega
    simp only [field_Get.l0]
    rw [if_pos h1, if_pos hi0, if_pos h2, e1, if_pos h4, e3, e5, e2, ih', numN_succ s i d hsz, hp1, Int.mul_add, ← Int.mul_assoc, Int.add_assoc]
theorem get_eq (w : Int) (s : ByteArray) (k : Nat) (hk : 20 ≤ k) : field_Get.f k w s = some (getF w s) := by
  unfold field_Get.f
  rw [width_eq]
  simp only [Option.bind_some]
  by_cases hw : okW w
  · rw [decide_eq_true hw, if_pos rfl]
    obtain ⟨m, rfl, hm1, hm8⟩ := okW_nat hw
    unfold getF
    rw [if_pos hw]
    by_cases h : (s.size : Int) < (m : Int)
    · rw [if_pos h, if_pos h]
    · rw [if_neg h, if_neg h]
      have := get_l0 s m hm8 (by omega) m 0 k 0 (by omega) (Int.le_refl _) (by decide) (by omega)
      rw [show ((0 : Nat) : Int) = 0 from rfl] at this
      rw [this, Int.toNat_natCast]
      simp
  · rw [decide_eq_false hw]
    unfold getF
    rw [if_neg hw]; rfl
theorem refget_l0 (s : ByteArray) (m : Nat) (hm : m ≤ 8) (hs : m ≤ s.size) (hbig : s.size ≤ 4611686018427387904) : ∀ (j d k : Nat), j + d = m → j < k → caulkref07_Get.l0 k s (numN s j d) ((j : Int) - 1) = some (numN s 0 m, 0) := by
  intro j
  induction j with
  | zero =>
    intro d k hj hk
    obtain ⟨k, rfl⟩ : ∃ m, k = m + 1 := ⟨k - 1, by omega⟩
    simp only [caulkref07_Get.l0]
    rw [if_neg (by decide), show d = m from by omega]
  | succ j ih =>
    intro d k hj hk
    obtain ⟨k, rfl⟩ : ∃ m, k = m + 1 := ⟨k - 1, by omega⟩
    have ej : ((j + 1 : Nat) : Int) - 1 = (j : Int) := by omega
    have hr := bt_range s j
    have hn := numN_range s (j + 1) d (by omega)
    have hp : (256 : Int) ^ d ≤ 72057594037927936 := by
      rcases (by omega : d = 0 ∨ d = 1 ∨ d = 2 ∨ d = 3 ∨ d = 4 ∨ d = 5 ∨ d = 6 ∨ d = 7) with rfl | rfl | rfl | rfl | rfl | rfl | rfl | rfl <;> decide
    have h1 : (j : Int) ≥ 0 := by omega
    have h0 : (0 : Int) ≤ (j : Int) := by omega
    have h2 : (j : Int) < (s.size : Int) := by omega
    have ih' := ih (d + 1) k (by omega) (by omega)
    have hs' := numN_succ s j d (by omega)
    generalize numN s (j + 1) d = v at *
    have e1 : IntKind.u64.wrap ((IntKind.u64.wrap (256 * v)) + (IntKind.u64.wrap (bt s j))) = bt s j + 256 * v := by
      rw [IntKind.wrap_u64, IntKind.wrap_u64, IntKind.wrap_u64]; omega
    have e2 : wrap64 ((j : Int) - 1) = (j : Int) - 1 := by unfold wrap64; omega
    rw [ej]
    simp only [caulkref07_Get.l0]
    rw [if_pos h1, if_pos h0, if_pos h2, e1, e2, ← hs', ih']
theorem refget_eq (w : Int) (s : ByteArray) (hbig : s.size ≤ 4611686018427387904) (k : Nat) (hk : 20 ≤ k) : caulkref07_Get.f k w s = some (getF w s) := by
  unfold caulkref07_Get.f
  rw [refwidth_eq]
  simp only [Option.bind_some]
  by_cases hw : okW w
  · rw [decide_eq_true hw, if_pos rfl]
    obtain ⟨m, rfl, hm1, hm8⟩ := okW_nat hw
    unfold getF
    rw [if_pos hw]
    by_cases h : (s.size : Int) < (m : Int)
    · rw [if_pos h, if_pos h]
    · rw [if_neg h, if_neg h]
      have := refget_l0 s m hm8 (by omega) hbig m 0 k (by omega) (by omega)
      rw [show numN s m 0 = 0 from rfl] at this
      rw [show wrap64 ((m : Int) - 1) = (m : Int) - 1 from by unfold wrap64; omega, this, Int.toNat_natCast]
  · rw [decide_eq_false hw]
    unfold getF
    rw [if_neg hw]; rfl
/-! several numbers -/
def allF : List Int → ByteArray → List Int → List Int × ByteArray × Int
  | [], s, acc => (acc, s, 0)
  | w :: ws, s, acc => if (getF w s).2 = 0 then allF ws (s.extract w.toNat s.size) (acc ++ [(getF w s).1]) else ([], ⟨#[]⟩, (getF w s).2)
theorem getF_ok {w : Int} {s : ByteArray} (h : (getF w s).2 = 0) : okW w ∧ w.toNat ≤ s.size ∧ (getF w s).1 = numN s 0 w.toNat := by
  unfold getF at h ⊢
  by_cases hw : okW w
  · rw [if_pos hw] at h ⊢
    obtain ⟨m, rfl, hm1, hm8⟩ := okW_nat hw
    by_cases hs : (s.size : Int) < (m : Int)
    · rw [if_pos hs] at h; exact absurd h (by decide)
    · rw [if_neg hs] at h ⊢; exact ⟨hw, by rw [Int.toNat_natCast]; omega, rfl⟩
  · rw [if_neg hw] at h; exact absurd h (by decide)
theorem extract_size (s : ByteArray) (i : Nat) : (s.extract i s.size).size = s.size - i := by
  rw [← bytesOf_length, bytesOf_extract, List.length_drop, bytesOf_length]
theorem rd_drop (ws : List Int) (i : Nat) (h : i < ws.length) : ws.drop i = rd ws (i : Int) :: ws.drop (i + 1) := by
  rw [List.drop_eq_getElem_cons h]
  congr 1
  unfold rd
  rw [Int.toNat_natCast, List.getD_eq_getElem?_getD, List.getElem?_eq_getElem h]; rfl
theorem refall_l0 (ws : List Int) (hlen : ws.length ≤ 1000) : ∀ (d i k : Nat) (s : ByteArray) (acc : List Int), s.size ≤ 4611686018427387904 → i + d = ws.length → acc.length + d ≤ 1000 → d + 20 < k → caulkref07_All.l0 k s acc ws (ws.length : Int) (i : Int) = some (allF (ws.drop i) s acc) := by
  intro d
  induction d with
  | zero =>
    intro i k s acc hb hi ha hk
    obtain ⟨k, rfl⟩ : ∃ m, k = m + 1 := ⟨k - 1, by omega⟩
    have h1 : ¬ (i : Int) < (ws.length : Int) := by omega
    simp only [caulkref07_All.l0]
    rw [if_neg h1, List.drop_of_length_le (by omega)]; rfl
  | succ d ih =>
    intro i k s acc hb hi ha hk
    obtain ⟨k, rfl⟩ : ∃ m, k = m + 1 := ⟨k - 1, by omega⟩
    have h1 : (i : Int) < (ws.length : Int) := by omega
    have h0 : (0 : Int) ≤ (i : Int) := by omega
    have h3 : acc.length < 17592186044416 := by omega
    have hg := refget_eq (rd ws (i : Int)) s hb k (by omega)
    have hd := rd_drop ws i (by omega)
    have hi' : i + 1 + d = ws.length := by omega
    have ha' : ∀ x : Int, (acc ++ [x]).length + d ≤ 1000 := fun x => by simp; omega
    have hk' : d + 20 < k := by omega
    have hb' : (s.extract (rd ws (i : Int)).toNat s.size).size ≤ 4611686018427387904 := by rw [extract_size]; omega
    have e2 : wrap64 ((i : Int) + 1) = ((i + 1 : Nat) : Int) := by unfold wrap64; omega
    simp only [caulkref07_All.l0]
    rw [if_pos h1, if_pos h0, if_pos h1, hg, hd]
    simp only [Option.bind_some, allF]
    by_cases hz : (getF (rd ws (i : Int)) s).2 = 0
    · obtain ⟨hw, hsz, _⟩ := getF_ok hz
      obtain ⟨m, hm, hm1, hm8⟩ := okW_nat hw
      have h5 : 0 ≤ rd ws (i : Int) := by rw [hm]; omega
      have h6 : rd ws (i : Int) ≤ (s.size : Int) := by rw [hm] at hsz ⊢; rw [Int.toNat_natCast] at hsz; omega
      rw [if_pos hz, if_pos h3, if_pos h5, if_pos h6, e2, ih (i + 1) k _ _ hb' hi' (ha' _) hk', if_pos hz]
    · rw [if_neg hz, if_neg hz]
theorem refall_eq (s : ByteArray) (hb : s.size ≤ 4611686018427387904) (ws : List Int) (hlen : ws.length ≤ 500) (k : Nat) (hk : 1000 ≤ k) : caulkref07_All.f k s ws = some (allF ws s []) := by
  have := refall_l0 ws (by omega) ws.length 0 k s [] hb (by omega) (by simp; omega) (by omega)
  simpa [caulkref07_All.f] using this

def joinF : List Int → List Int → ByteArray → ByteArray × Int
  | w :: ws, v :: vs, b => if (putF w v).2 = 0 then joinF ws vs (b ++ (putF w v).1) else (⟨#[]⟩, (putF w v).2)
  | _, _, b => (b, 0)
theorem putF_size (w v : Int) : (putF w v).1.size ≤ 8 := by
  unfold putF
  split
  · rename_i h
    obtain ⟨m, rfl, _, hm8⟩ := okW_nat h.1
    show (strOfNums _).size ≤ 8
    rw [son_size, digs_length]; omega
  · decide
def joinT (ws vs : List Int) : ByteArray × Int := if ws.length = vs.length then joinF ws vs ⟨#[]⟩ else (⟨#[]⟩, 2)
theorem refjoin_l0 (ws vs : List Int) (hlen : ws.length ≤ 1000) (hl2 : vs.length = ws.length) (hv : ∀ v ∈ vs, isU v) : ∀ (d i k : Nat) (acc : ByteArray), i + d = ws.length → acc.size + 8 * d ≤ 10000 → d + 20 < k → caulkref07_Join.l0 k vs acc ws (ws.length : Int) (i : Int) = some (joinF (ws.drop i) (vs.drop i) acc) := by
  intro d
  induction d with
  | zero =>
    intro i k acc hi ha hk
    obtain ⟨k, rfl⟩ : ∃ m, k = m + 1 := ⟨k - 1, by omega⟩
    have h1 : ¬ (i : Int) < (ws.length : Int) := by omega
    simp only [caulkref07_Join.l0]
    rw [if_neg h1, List.drop_of_length_le (by omega)]; rfl
  | succ d ih =>
    intro i k acc hi ha hk
    obtain ⟨k, rfl⟩ : ∃ m, k = m + 1 := ⟨k - 1, by omega⟩
    have h1 : (i : Int) < (ws.length : Int) := by omega
    have h0 : (0 : Int) ≤ (i : Int) := by omega
    have h4 : (i : Int) < (vs.length : Int) := by omega
    have hu : isU (rd vs (i : Int)) := by
      have hlt : i < vs.length := by omega
      unfold rd
      rw [Int.toNat_natCast, List.getD_eq_getElem?_getD, List.getElem?_eq_getElem hlt]
      exact hv _ (List.getElem_mem hlt)
    have hg := refput_eq (w := rd ws (i : Int)) hu k (by omega)
    have hd := rd_drop ws i (by omega)
    have hd2 := rd_drop vs i (by omega)
    have hps := putF_size (rd ws (i : Int)) (rd vs (i : Int))
    have h3 : acc.size + (putF (rd ws (i : Int)) (rd vs (i : Int))).1.size ≤ 9223372036854775807 := by omega
    have hi' : i + 1 + d = ws.length := by omega
    have ha' : (acc ++ (putF (rd ws (i : Int)) (rd vs (i : Int))).1).size + 8 * d ≤ 10000 := by rw [ByteArray.size_append]; omega
    have hk' : d + 20 < k := by omega
    have e2 : wrap64 ((i : Int) + 1) = ((i + 1 : Nat) : Int) := by unfold wrap64; omega
    simp only [caulkref07_Join.l0]
    rw [if_pos h1, if_pos h0, if_pos h1, if_pos h4, hg, hd, hd2]
    simp only [Option.bind_some, joinF]
    by_cases hz : (putF (rd ws (i : Int)) (rd vs (i : Int))).2 = 0
    · rw [if_pos hz, if_pos h3, e2, ih (i + 1) k _ hi' ha' hk', if_pos hz]
    · rw [if_neg hz, if_neg hz]
theorem refjoin_eq (ws vs : List Int) (hlen : ws.length ≤ 500) (hv : ∀ v ∈ vs, isU v) (k : Nat) (hk : 1000 ≤ k) : caulkref07_Join.f k ws vs = some (joinT ws vs) := by
  unfold caulkref07_Join.f joinT
  by_cases h : ws.length = vs.length
  · rw [if_pos (by omega), if_pos h]
    have := refjoin_l0 ws vs (by omega) h.symm hv ws.length 0 k ⟨#[]⟩ (by omega) (by simp [ByteArray.size]; omega) (by omega)
    simpa using this
  · rw [if_neg (by omega), if_neg h]
/-! entries: kind, stripe, member, fresh -/
def goodE (k s m f : Int) : Prop := (k = 0 ∧ s = 0 ∧ m = 0 ∧ f = 0) ∨ (k = 1 ∧ 0 ≤ s ∧ s < 2147483648 ∧ 0 ≤ m ∧ m < 255 ∧ f = 0) ∨ (k = 2 ∧ s = 0 ∧ m = 0 ∧ 1 ≤ f ∧ f ≤ 1073741824)
instance (k s m f : Int) : Decidable (goodE k s m f) := by unfold goodE; exact inferInstance
def chk (k s m f : Int) : Int := if goodE k s m f then 0 else 2
theorem chk_ite {k s m f : Int} {c : Prop} [Decidable c] (h : c ↔ goodE k s m f) : (if c then (some 0 : Option Int) else some 2) = some (chk k s m f) := by
  unfold chk
  by_cases hc : c
  · rw [if_pos hc, if_pos (h.1 hc)]
  · rw [if_neg hc, if_neg (fun g => hc (h.2 g))]
theorem chk_two {k s m f : Int} (h : ¬ goodE k s m f) : (some 2 : Option Int) = some (chk k s m f) := by unfold chk; rw [if_neg h]
theorem chk_zero {k s m f : Int} (h : goodE k s m f) : (some 0 : Option Int) = some (chk k s m f) := by unfold chk; rw [if_pos h]
theorem check_eq (k s m f : Int) : entry_Check.f k s m f = some (chk k s m f) := by
  unfold entry_Check.f
  by_cases k0 : k = 0
  · rw [if_pos k0]
    by_cases f0 : f = 0
    · rw [if_pos f0]
      refine chk_ite ?_
      simp only [Bool.and_eq_true, beq_iff_eq]
      unfold goodE; omega
    · rw [if_neg f0]; exact chk_two (by unfold goodE; omega)
  rw [if_neg k0]
  by_cases k1 : k = 1
  · rw [if_pos k1]
    by_cases h1 : s ≥ 0
    · rw [if_pos h1]
      by_cases h2 : s < 2147483648
      · rw [if_pos h2]
        by_cases h3 : m ≥ 0
        · rw [if_pos h3]
          by_cases h4 : m < 255
          · rw [if_pos h4]; exact chk_ite (by unfold goodE; omega)
          · rw [if_neg h4]; exact chk_two (by unfold goodE; omega)
        · rw [if_neg h3]; exact chk_two (by unfold goodE; omega)
      · rw [if_neg h2]; exact chk_two (by unfold goodE; omega)
    · rw [if_neg h1]; exact chk_two (by unfold goodE; omega)
  rw [if_neg k1]
  by_cases k2 : k = 2
  · rw [if_pos k2]
    by_cases h1 : f > 0
    · rw [if_pos h1]
      by_cases h2 : f ≤ 1073741824
      · rw [if_pos h2]
        refine chk_ite ?_
        simp only [Bool.and_eq_true, beq_iff_eq]
        unfold goodE; omega
      · rw [if_neg h2]; exact chk_two (by unfold goodE; omega)
    · rw [if_neg h1]; exact chk_two (by unfold goodE; omega)
  · rw [if_neg k2]; exact chk_two (by unfold goodE; omega)
theorem refcheck_eq (k s m f : Int) : caulkref13_Check.f k s m f = some (chk k s m f) := by
  unfold caulkref13_Check.f
  by_cases k0 : k = 0
  · rw [if_pos k0]
    refine chk_ite ?_
    simp only [Bool.and_eq_true, beq_iff_eq]
    unfold goodE; omega
  rw [if_neg k0]
  by_cases k1 : k = 1
  · rw [if_pos k1]
    by_cases h1 : s ≥ 0
    · rw [if_pos h1]
      by_cases h2 : s < 2147483648
      · rw [if_pos h2]
        by_cases h3 : m ≥ 0
        · rw [if_pos h3]
          by_cases h4 : m < 255
          · rw [if_pos h4]; exact chk_ite (by unfold goodE; omega)
          · rw [if_neg h4]; exact chk_two (by unfold goodE; omega)
        · rw [if_neg h3]; exact chk_two (by unfold goodE; omega)
      · rw [if_neg h2]; exact chk_two (by unfold goodE; omega)
    · rw [if_neg h1]; exact chk_two (by unfold goodE; omega)
  rw [if_neg k1]
  by_cases k2 : k = 2
  · rw [if_pos k2]
    by_cases h1 : f ≥ 1
    · rw [if_pos h1]
      by_cases h2 : f ≤ 1073741824
      · rw [if_pos h2]
        refine chk_ite ?_
        simp only [Bool.and_eq_true, beq_iff_eq]
        unfold goodE; omega
      · rw [if_neg h2]; exact chk_two (by unfold goodE; omega)
    · rw [if_neg h1]; exact chk_two (by unfold goodE; omega)
  · rw [if_neg k2]; exact chk_two (by unfold goodE; omega)
/-- An entry's number. -/
def numE (k s m : Int) : Int := (if k = 1 then s + 1 else 0) + 4294967296 * m
def bytesE (k s m f : Int) : ByteArray × Int := if goodE k s m f ∧ k ≠ 2 then (strOfNums (digs (numE k s m) 8), 0) else (⟨#[]⟩, 2)
theorem bytesE_ok {k s m f : Int} (g : goodE k s m f) (h2 : k ≠ 2) : bytesE k s m f = (strOfNums (digs (numE k s m) 8), 0) := by unfold bytesE; rw [if_pos ⟨g, h2⟩]
theorem bytesE_no {k s m f : Int} (g : ¬ goodE k s m f) : bytesE k s m f = (⟨#[]⟩, 2) := by unfold bytesE; rw [if_neg (fun h => g h.1)]
theorem numE_range {k s m f : Int} (h : goodE k s m f) (h2 : k ≠ 2) : 0 ≤ numE k s m ∧ numE k s m < 256 ^ 8 := by
  have e : (256 : Int) ^ 8 = 18446744073709551616 := rfl
  rw [e]; unfold numE goodE at *
  split <;> omega
theorem put8 {n : Int} (h : 0 ≤ n ∧ n < 256 ^ 8) (k : Nat) (hk : 20 ≤ k) : field_Put.f k 8 n = some (strOfNums (digs n 8), 0) := by
  have e : (256 : Int) ^ 8 = 18446744073709551616 := rfl
  rw [put_eq (by unfold isU; omega) k hk]
  unfold putF
  rw [if_pos ⟨by decide, by show n / 256 ^ 8 = 0; rw [e] at h ⊢; omega⟩]; rfl
theorem or_hi (x m : Int) (hx : 0 ≤ x ∧ x < 4294967296) (hm : 0 ≤ m ∧ m < 4294967296) : Go.bits .or .u64 x (4294967296 * m) = x + 4294967296 * m := by
  obtain ⟨a, rfl⟩ := Int.eq_ofNat_of_zero_le hx.1
  obtain ⟨b, rfl⟩ := Int.eq_ofNat_of_zero_le hm.1
  have := or_add 32 a b (by omega) (by omega)
  rw [show ((2 ^ 32 * b : Nat) : Int) = 4294967296 * (b : Int) from by omega, show ((a + 2 ^ 32 * b : Nat) : Int) = (a : Int) + 4294967296 * (b : Int) from by omega] at this
  exact this
theorem bytes_eq (k s m f : Int) (K : Nat) (hK : 100 ≤ K) : entry_Bytes.f K k s m f = some (bytesE k s m f) := by
  obtain ⟨K, rfl⟩ : ∃ j, K = j + 1 := ⟨K - 1, by omega⟩
  unfold entry_Bytes.f
  rw [check_eq]
  simp only [Option.bind_some]
  unfold bytesE
  by_cases g : goodE k s m f
  · unfold chk
    rw [if_pos g, if_pos rfl]
    by_cases h2 : k = 2
    · rw [if_neg (fun h => h.2 h2), show (k == 2) = true from by simp [h2]]
      simp [entry_Bytes.j0]
    · rw [if_pos ⟨g, h2⟩, show (k == 2) = false from by simp [h2]]
      have hr := numE_range g h2
      simp only [entry_Bytes.j0, Bool.false_eq_true, if_false]
      by_cases h1 : k = 1
      · rw [if_pos h1]
        have hb : 0 ≤ s ∧ s < 2147483648 ∧ 0 ≤ m ∧ m < 255 := by unfold goodE at g; omega
        rw [show IntKind.u64.wrap ((IntKind.u64.wrap s) + 1) = s + 1 from by rw [IntKind.wrap_u64, IntKind.wrap_u64]; omega, show IntKind.u64.wrap ((IntKind.u64.wrap m) * 4294967296) = 4294967296 * m from by rw [IntKind.wrap_u64, IntKind.wrap_u64]; omega, or_hi _ _ (by omega) (by omega)]
        have e : s + 1 + 4294967296 * m = numE k s m := by unfold numE; rw [if_pos h1]
        rw [e, put8 hr K (by omega)]; rfl
      · rw [if_neg h1]
        have hb : m = 0 := by unfold goodE at g; omega
        have e : numE k s m = 0 := by unfold numE; rw [if_neg h1, hb]; rfl
        rw [e, hb, show Go.bits .or .u64 0 (IntKind.u64.wrap ((IntKind.u64.wrap 0) * 4294967296)) = 0 from by decide, put8 (by decide) K (by omega)]; rfl
  · unfold chk
    rw [if_neg g, if_neg (by decide), if_neg (fun h => g h.1)]
    simp [entry_Bytes.j0]
theorem digs_split (x m : Int) (hx : 0 ≤ x ∧ x < 4294967296) (hm : 0 ≤ m ∧ m < 256) : digs (x + 4294967296 * m) 8 = digs x 4 ++ (digs m 1 ++ (digs 0 1 ++ (digs 0 1 ++ digs 0 1))) := by
  simp only [digs, List.cons_append, List.nil_append]
  refine List.cons_eq_cons.2 ⟨by omega, List.cons_eq_cons.2 ⟨by omega, List.cons_eq_cons.2 ⟨by omega, List.cons_eq_cons.2 ⟨by omega, List.cons_eq_cons.2 ⟨by omega, List.cons_eq_cons.2 ⟨by omega, List.cons_eq_cons.2 ⟨by omega, List.cons_eq_cons.2 ⟨by omega, rfl⟩⟩⟩⟩⟩⟩⟩⟩
theorem putF_small {w n : Int} (hw : okW w) (h : n / 256 ^ w.toNat = 0) : putF w n = (strOfNums (digs n w.toNat), 0) := by
  unfold putF; rw [if_pos ⟨hw, h⟩]
theorem refjoin5 (x m : Int) (hx : 0 ≤ x ∧ x < 4294967296) (hm : 0 ≤ m ∧ m < 256) : joinT [4, 1, 1, 1, 1] [x, m, 0, 0, 0] = (strOfNums (digs (x + 4294967296 * m) 8), 0) := by
  have p4 := putF_small (w := 4) (n := x) (by decide) (by show x / 256 ^ 4 = 0; rw [show (256 : Int) ^ 4 = 4294967296 from rfl]; omega)
  have p1 := putF_small (w := 1) (n := m) (by decide) (by show m / 256 ^ 1 = 0; rw [show (256 : Int) ^ 1 = 256 from rfl]; omega)
  have p0 := putF_small (w := 1) (n := 0) (by decide) (by decide)
  unfold joinT
  rw [if_pos (by rfl)]
  simp only [joinF]
  rw [p4, p1, p0]
  simp only [if_true]
  rw [digs_split x m hx hm, empty_append, strOfNums_append, strOfNums_append, strOfNums_append, strOfNums_append]
  simp only [bapp_assoc]
  rfl
theorem refbytes_eq (k s m f : Int) (K : Nat) (hK : 1100 ≤ K) : caulkref13_Bytes.f K k s m f = some (bytesE k s m f) := by
  obtain ⟨K, rfl⟩ : ∃ j, K = j + 1 := ⟨K - 1, by omega⟩
  unfold caulkref13_Bytes.f
  rw [refcheck_eq]
  simp only [Option.bind_some]
  unfold bytesE
  by_cases g : goodE k s m f
  · unfold chk
    rw [if_pos g, if_pos rfl]
    by_cases h2 : k = 2
    · rw [if_neg (fun h => h.2 h2), show (k == 2) = true from by simp [h2]]
      simp [caulkref13_Bytes.j0]
    · rw [if_pos ⟨g, h2⟩, show (k == 2) = false from by simp [h2]]
      simp only [caulkref13_Bytes.j0, Bool.false_eq_true, if_false]
      by_cases h1 : k = 1
      · rw [if_pos h1]
        have hb : 0 ≤ s ∧ s < 2147483648 ∧ 0 ≤ m ∧ m < 255 := by unfold goodE at g; omega
        rw [show IntKind.u64.wrap ((IntKind.u64.wrap s) + 1) = s + 1 from by rw [IntKind.wrap_u64, IntKind.wrap_u64]; omega, show IntKind.u64.wrap m = m from by rw [IntKind.wrap_u64]; omega]
        have hu : ∀ v ∈ [s + 1, m, 0, 0, 0], isU v := by
          intro v hv
          simp only [List.mem_cons, List.not_mem_nil, or_false] at hv
          unfold isU; omega
        rw [refjoin_eq _ _ (by decide) hu K (by omega), refjoin5 (s + 1) m (by omega) (by omega)]
        have e : s + 1 + 4294967296 * m = numE k s m := by unfold numE; rw [if_pos h1]
        rw [e]; rfl
      · rw [if_neg h1]
        have hb : m = 0 := by unfold goodE at g; omega
        have e : numE k s m = 0 := by unfold numE; rw [if_neg h1, hb]; rfl
        have hu : ∀ v ∈ [0, IntKind.u64.wrap m, 0, 0, 0], isU v := by
          intro v hv
          rw [hb] at hv
          simp only [List.mem_cons, List.not_mem_nil, or_false, show IntKind.u64.wrap 0 = 0 from by decide] at hv
          unfold isU; omega
        rw [refjoin_eq _ _ (by decide) hu K (by omega), e, hb, show IntKind.u64.wrap 0 = 0 from by decide, refjoin5 0 0 (by decide) (by decide)]; rfl
  · unfold chk
    rw [if_neg g, if_neg (by decide), if_neg (fun h => g h.1)]
    simp [caulkref13_Bytes.j0]
/-- The entry of bytes, and an errno. -/
def parseE (s : ByteArray) : Int × Int × Int × Int × Int :=
  if s.size = 8 then
    (if numN s 0 8 = 0 then (0, 0, 0, 0, 0)
     else if goodE 1 (numN s 0 8 % 4294967296 - 1) (numN s 0 8 / 4294967296) 0 then (1, numN s 0 8 % 4294967296 - 1, numN s 0 8 / 4294967296, 0, 0) else (0, 0, 0, 0, 6))
  else (0, 0, 0, 0, 6)
theorem num8_range (s : ByteArray) (h : s.size = 8) : 0 ≤ numN s 0 8 ∧ numN s 0 8 < 18446744073709551616 := numN_range s 0 8 (by omega)
theorem parse_eq (s : ByteArray) (K : Nat) (hK : 100 ≤ K) : entry_Parse.f K s = some (parseE s) := by
  obtain ⟨K, rfl⟩ : ∃ j, K = j + 1 := ⟨K - 1, by omega⟩
  unfold entry_Parse.f
  rw [get_eq 8 s (K + 1) (by omega)]
  simp only [Option.bind_some]
  have bad : ∀ n, entry_Parse.j0 (K + 1) n true = some (0, 0, 0, 0, 6) := fun n => by simp [entry_Parse.j0]
  unfold getF parseE
  rw [if_pos (show okW 8 from by decide)]
  by_cases h8 : (s.size : Int) < 8
  · rw [if_pos h8, if_neg (by decide), bad, if_neg (by omega)]
  rw [if_neg h8]
  simp only [if_true]
  by_cases he : s.size = 8
  · rw [if_pos he, show ((s.size : Int) != 8) = false from by rw [he]; rfl]
    have hr := num8_range s he
    rw [show (8 : Int).toNat = 8 from rfl]
    generalize numN s 0 8 = n at *
    simp only [entry_Parse.j0, Bool.false_eq_true, if_false]
    by_cases h0 : n = 0
    · rw [if_pos h0, if_pos h0]
    · rw [if_neg h0, if_neg h0]
      unfold entry_Disk.f
      simp only [Option.bind_some]
      rw [check_eq, show wrap64 (n / 4294967296) = n / 4294967296 from by unfold wrap64; omega]
      simp only [Option.bind_some]
      unfold chk
      by_cases g : goodE 1 (n % 4294967296 - 1) (n / 4294967296) 0
      · rw [if_pos g, if_pos rfl, if_pos g]
      · rw [if_neg g, if_neg (by decide), if_neg g]
  · rw [if_neg he, show ((s.size : Int) != 8) = true from by rw [bne_iff_ne]; omega, bad]
theorem bytes_num8 (s : ByteArray) (h : s.size = 8) : s = strOfNums (digs (numN s 0 8) 8) := by
  have hl : (bytesOf s).length = 8 := by rw [bytesOf_length, h]
  have e : ((bytesOf s).drop 0).take 8 = bytesOf s := by rw [List.drop_zero, List.take_of_length_le (by omega)]
  have := digs_numL (bytesOf s) (bytesOf_isY s)
  rw [hl] at this
  unfold numN
  rw [e, this, strOfNums_bytesOf]
theorem num8_inj {a b : Int} (ha : 0 ≤ a ∧ a < 256 ^ 8) (hb : 0 ≤ b ∧ b < 256 ^ 8) (h : strOfNums (digs a 8) = strOfNums (digs b 8)) : a = b := by
  have e := congrArg bytesOf h
  rw [bytesOf_strOfNums (digs_isY _ _), bytesOf_strOfNums (digs_isY _ _)] at e
  have e2 := congrArg numL e
  rw [numL_digs 8 a (Int.ediv_eq_zero_of_lt ha.1 ha.2), numL_digs 8 b (Int.ediv_eq_zero_of_lt hb.1 hb.2)] at e2
  exact e2
theorem toList_inj {a b : ByteArray} (h : a.toList = b.toList) : a = b := by
  rw [Lib.toList_data, Lib.toList_data] at h
  cases a; cases b; simp at h; simp [h]
theorem num4_of8 (s : ByteArray) (h : s.size = 8) : numN s 0 4 = numN s 0 8 % 4294967296 ∧ numN (s.extract 4 s.size) 0 1 = numN s 0 8 / 4294967296 % 256 := by
  have hl : (bytesOf s).length = 8 := by rw [bytesOf_length, h]
  unfold numN
  rw [bytesOf_extract]
  match hb : bytesOf s, hl with
  | [x0, x1, x2, x3, x4, x5, x6, x7], _ =>
  have hY := bytesOf_isY s
  rw [hb] at hY
  have h0 := hY x0 (by simp); have h1 := hY x1 (by simp); have h2 := hY x2 (by simp); have h3 := hY x3 (by simp); have h4 := hY x4 (by simp); have h5 := hY x5 (by simp); have h6 := hY x6 (by simp); have h7 := hY x7 (by simp)
  unfold isY at *
  simp only [List.drop_zero, List.take_succ_cons, List.take_zero, List.drop_succ_cons, numL]
  omega
theorem refparse_eq (s : ByteArray) (K : Nat) (hK : 1200 ≤ K) : caulkref13_Parse.f K s = some (parseE s) := by
  unfold caulkref13_Parse.f parseE
  by_cases he : s.size = 8
  case neg => rw [if_neg (by omega), if_neg he]
  rw [if_pos (by omega), if_pos he]
  have hr := num8_range s he
  obtain ⟨n4, n1⟩ := num4_of8 s he
  have hsp := bytes_num8 s he
  have e256 : (256 : Int) ^ 8 = 18446744073709551616 := rfl
  have g4 : getF 4 s = (numN s 0 8 % 4294967296, 0) := by
    unfold getF
    rw [if_pos (by decide), if_neg (by omega)]
    show (numN s 0 4, (0 : Int)) = _
    rw [n4]
  have g1 : getF 1 (s.extract 4 s.size) = (numN s 0 8 / 4294967296 % 256, 0) := by
    unfold getF
    rw [if_pos (by decide), if_neg (by rw [extract_size]; omega)]
    show (numN (s.extract 4 s.size) 0 1, (0 : Int)) = _
    rw [n1]
  have hall : ∃ r, allF [4, 1] s [] = ([numN s 0 8 % 4294967296, numN s 0 8 / 4294967296 % 256], r, 0) := by
    refine ⟨(s.extract 4 s.size).extract 1 (s.extract 4 s.size).size, ?_⟩
    simp only [allF]
    rw [g4]
    simp only [if_true]
    rw [show (4 : Int).toNat = 4 from rfl, g1]
    rfl
  obtain ⟨r, hall⟩ := hall
  rw [refall_eq s (by omega) [4, 1] (by decide) K (by omega), hall]
  simp only [Option.bind_some]
  generalize hN : numN s 0 8 = n at *
  have hl2 : (([n % 4294967296, n / 4294967296 % 256] : List Int).length : Int) = 2 := rfl
  have hr0 : rd [n % 4294967296, n / 4294967296 % 256] 0 = n % 4294967296 := rfl
  have hr1 : rd [n % 4294967296, n / 4294967296 % 256] 1 = n / 4294967296 % 256 := rfl
  rw [hl2, if_pos (by decide), hr0, hr1]
  by_cases hp : n % 4294967296 > 0
  · rw [if_pos hp, if_pos (by decide)]
    unfold caulkref13_Disk.f
    simp only [Option.bind_some]
    rw [show wrap64 ((wrap64 (n % 4294967296)) - 1) = n % 4294967296 - 1 from by unfold wrap64; omega, show wrap64 (n / 4294967296 % 256) = n / 4294967296 % 256 from by unfold wrap64; omega, refbytes_eq _ _ _ _ K (by omega)]
    simp only [Option.bind_some]
    have hn0 : ¬ n = 0 := fun h => by rw [h] at hp; exact absurd hp (by decide)
    rw [if_neg hn0]
    by_cases hm : n / 4294967296 < 256
    · rw [show n / 4294967296 % 256 = n / 4294967296 from by omega]
      by_cases g : goodE 1 (n % 4294967296 - 1) (n / 4294967296) 0
      · rw [bytesE_ok g (by decide), if_pos g]
        simp only [if_true]
        have en : numE 1 (n % 4294967296 - 1) (n / 4294967296) = n := by unfold numE; rw [if_pos rfl]; omega
        rw [en, ← hsp, if_pos rfl]
      · rw [bytesE_no g, if_neg g]
        simp
    · rw [if_neg (show ¬ goodE 1 (n % 4294967296 - 1) (n / 4294967296) 0 from by unfold goodE; omega)]
      by_cases g : goodE 1 (n % 4294967296 - 1) (n / 4294967296 % 256) 0
      · rw [bytesE_ok g (by decide)]
        simp only [if_true]
        rw [if_neg]
        intro e
        have e2 := toList_inj e
        rw [hsp] at e2
        have en : numE 1 (n % 4294967296 - 1) (n / 4294967296 % 256) = n % 4294967296 + 4294967296 * (n / 4294967296 % 256) := by unfold numE; rw [if_pos rfl]; omega
        have := num8_inj (numE_range g (by decide)) (by rw [e256]; exact hr) e2
        omega
      · rw [bytesE_no g]
        simp
  · rw [if_neg hp, refbytes_eq 0 0 0 0 K (by omega)]
    have hb0 : bytesE 0 0 0 0 = (strOfNums (digs 0 8), 0) := by
      unfold bytesE; rw [if_pos (by decide)]; rfl
    rw [hb0]
    simp only [Option.bind_some, if_true]
    by_cases h0 : n = 0
    · rw [if_pos h0, hsp, h0, if_pos rfl]
    · rw [if_neg h0, if_neg (show ¬ goodE 1 (n % 4294967296 - 1) (n / 4294967296) 0 from by unfold goodE; omega), if_neg]
      intro e
      have e2 := toList_inj e
      rw [hsp] at e2
      exact h0 (num8_inj (by decide) (by rw [e256]; exact hr) e2).symm
theorem lives13_at : caulklaw13_lives.f 100 = some true := by decide +kernel
theorem lives13 (k : Nat) (hk : 1000 ≤ k) : caulklaw13_lives.f k = some true := at_rounds (g := fun k => caulklaw13_lives.f k) caulklaw13_lives.mono (by omega) lives13_at
def bE (e : S42) : ByteArray × Int := bytesE e.f0 e.f1.f0 e.f1.f1 e.f2
def tabF : List S42 → ByteArray → ByteArray × Int
  | [], b => (b, 0)
  | e :: l, b => if (bE e).2 = 0 then tabF l (b ++ (bE e).1) else (⟨#[]⟩, (bE e).2)
theorem bE_size (e : S42) : (bE e).1.size ≤ 8 := by
  unfold bE bytesE
  split
  · show (strOfNums _).size ≤ 8
    rw [son_size, digs_length]; decide
  · decide
theorem rdT_drop (l : List S42) (i : Nat) (h : i < l.length) : l.drop i = rd_T42 l (i : Int) :: l.drop (i + 1) := by
  rw [List.drop_eq_getElem_cons h]
  congr 1
  unfold rd_T42
  rw [Int.toNat_natCast, List.getD_eq_getElem?_getD, List.getElem?_eq_getElem h]; rfl
theorem table_l0 (l : List S42) (hlen : l.length ≤ 8192) : ∀ (d i k : Nat) (acc : List Int), i + d = l.length → acc.length + 8 * d ≤ 100000 → d + 200 < k → entry_Table.l0 k acc l (l.length : Int) (i : Int) = some (tabF (l.drop i) (strOfNums acc)) := by
  intro d
  induction d with
  | zero =>
    intro i k acc hi ha hk
    obtain ⟨k, rfl⟩ : ∃ m, k = m + 1 := ⟨k - 1, by omega⟩
    have h1 : ¬ (i : Int) < (l.length : Int) := by omega
    simp only [entry_Table.l0]
    rw [if_neg h1, List.drop_of_length_le (by omega)]; rfl
  | succ d ih =>
    intro i k acc hi ha hk
    obtain ⟨k, rfl⟩ : ∃ m, k = m + 1 := ⟨k - 1, by omega⟩
    have h1 : (i : Int) < (l.length : Int) := by omega
    have h0 : (0 : Int) ≤ (i : Int) := by omega
    have hg : entry_Bytes.f k (rd_T42 l (i : Int)).f0 (rd_T42 l (i : Int)).f1.f0 (rd_T42 l (i : Int)).f1.f1 (rd_T42 l (i : Int)).f2 = some (bE (rd_T42 l (i : Int))) := bytes_eq _ _ _ _ k (by omega)
    have hd := rdT_drop l i (by omega)
    have hps := bE_size (rd_T42 l (i : Int))
    have h3 : acc.length + (bE (rd_T42 l (i : Int))).1.size < 140737488355328 := by omega
    have hi' : i + 1 + d = l.length := by omega
    have ha' : (acc ++ bytesOf (bE (rd_T42 l (i : Int))).1).length + 8 * d ≤ 100000 := by rw [List.length_append, bytesOf_length]; omega
    have hk' : d + 200 < k := by omega
    have e2 : wrap64 ((i : Int) + 1) = ((i + 1 : Nat) : Int) := by unfold wrap64; omega
    simp only [entry_Table.l0]
    rw [if_pos h1, if_pos h0, if_pos h1, hg, hd]
    simp only [Option.bind_some, tabF]
    by_cases hz : (bE (rd_T42 l (i : Int))).2 = 0
    · rw [if_pos hz, if_pos h3, e2, ih (i + 1) k _ hi' ha' hk', if_pos hz, strOfNums_append, strOfNums_bytesOf]
    · rw [if_neg hz, if_neg hz]
def tabT (l : List S42) : ByteArray × Int := if l.length ≤ 8192 then tabF l ⟨#[]⟩ else (⟨#[]⟩, 7)
theorem table_eq (l : List S42) (hb : l.length ≤ 17592186043904) (k : Nat) (hk : 10000 ≤ k) : entry_Table.f k l = some (tabT l) := by
  unfold entry_Table.f tabT
  by_cases h : l.length ≤ 8192
  · have e8 : wrap64 (8 * (l.length : Int)) = ((8 * l.length : Nat) : Int) := by unfold wrap64; omega
    rw [if_neg (by omega), if_pos h, e8, if_pos (Int.natCast_nonneg _), if_pos (by rw [Int.toNat_natCast]; omega)]
    exact table_l0 l h l.length 0 k [] (by omega) (by simp; omega) (by omega)
  · rw [if_pos (by omega), if_neg h]
theorem reftable_l0 (l : List S42) (hlen : l.length ≤ 8192) : ∀ (d i k : Nat) (acc : ByteArray), i + d = l.length → acc.size + 8 * d ≤ 100000 → d + 1200 < k → caulkref13_Table.l0 k acc l (l.length : Int) (i : Int) = some (tabF (l.drop i) acc) := by
  intro d
  induction d with
  | zero =>
    intro i k acc hi ha hk
    obtain ⟨k, rfl⟩ : ∃ m, k = m + 1 := ⟨k - 1, by omega⟩
    have h1 : ¬ (i : Int) < (l.length : Int) := by omega
    simp only [caulkref13_Table.l0]
    rw [if_neg h1, List.drop_of_length_le (by omega)]; rfl
  | succ d ih =>
    intro i k acc hi ha hk
    obtain ⟨k, rfl⟩ : ∃ m, k = m + 1 := ⟨k - 1, by omega⟩
    have h1 : (i : Int) < (l.length : Int) := by omega
    have h0 : (0 : Int) ≤ (i : Int) := by omega
    have hg : caulkref13_Bytes.f k (rd_T42 l (i : Int)).f0 (rd_T42 l (i : Int)).f1.f0 (rd_T42 l (i : Int)).f1.f1 (rd_T42 l (i : Int)).f2 = some (bE (rd_T42 l (i : Int))) := refbytes_eq _ _ _ _ k (by omega)
    have hd := rdT_drop l i (by omega)
    have hps := bE_size (rd_T42 l (i : Int))
    have h3 : acc.size + (bE (rd_T42 l (i : Int))).1.size ≤ 9223372036854775807 := by omega
    have hi' : i + 1 + d = l.length := by omega
    have ha' : (acc ++ (bE (rd_T42 l (i : Int))).1).size + 8 * d ≤ 100000 := by rw [ByteArray.size_append]; omega
    have hk' : d + 1200 < k := by omega
    have e2 : wrap64 ((i : Int) + 1) = ((i + 1 : Nat) : Int) := by unfold wrap64; omega
    simp only [caulkref13_Table.l0]
    rw [if_pos h1, if_pos h0, if_pos h1, hg, hd]
    simp only [Option.bind_some, tabF]
    by_cases hz : (bE (rd_T42 l (i : Int))).2 = 0
    · rw [if_pos hz, if_pos h3, e2, ih (i + 1) k _ hi' ha' hk', if_pos hz]
    · rw [if_neg hz, if_neg hz]
theorem reftable_eq (l : List S42) (k : Nat) (hk : 10000 ≤ k) : caulkref13_Table.f k l = some (tabT l) := by
  unfold caulkref13_Table.f tabT
  by_cases h : l.length ≤ 8192
  · rw [if_neg (by omega), if_pos h]
    exact reftable_l0 l h l.length 0 k ⟨#[]⟩ (by omega) (by rw [show (⟨#[]⟩ : ByteArray).size = 0 from rfl]; omega) (by omega)
  · rw [if_pos (by omega), if_neg h]
def mkE (p : Int × Int × Int × Int × Int) : S42 := ⟨p.1, ⟨p.2.1, p.2.2.1⟩, p.2.2.2.1⟩
def ptF : Nat → ByteArray → List S42 → List S42 × Int
  | 0, _, acc => (acc, 0)
  | d + 1, s, acc => if (parseE (s.extract 0 8)).2.2.2.2 = 0 then ptF d (s.extract 8 s.size) (acc ++ [mkE (parseE (s.extract 0 8))]) else ([], (parseE (s.extract 0 8)).2.2.2.2)
theorem toList_nil {s : ByteArray} : s.toList = [] ↔ s.size = 0 := by
  rw [Lib.toList_data]
  constructor
  · intro h; rw [← data_length, h]; rfl
  · intro h; exact List.eq_nil_of_length_eq_zero (by rw [data_length, h])
theorem ptable_l0 : ∀ (d k : Nat) (s : ByteArray) (acc : List S42), s.size = 8 * d → acc.length + d ≤ 100000 → d + 200 < k → entry_ParseTable.l0 k s acc = some (ptF d s acc) := by
  intro d
  induction d with
  | zero =>
    intro k s acc hs ha hk
    obtain ⟨k, rfl⟩ : ∃ m, k = m + 1 := ⟨k - 1, by omega⟩
    simp only [entry_ParseTable.l0]
    rw [if_pos (toList_nil.2 hs)]; rfl
  | succ d ih =>
    intro k s acc hs ha hk
    obtain ⟨k, rfl⟩ : ∃ m, k = m + 1 := ⟨k - 1, by omega⟩
    have h1 : ¬ s.toList = [] := fun h => by have := toList_nil.1 h; omega
    have h2 : (8 : Int) ≤ (s.size : Int) := by omega
    have h3 : acc.length < 4398046511104 := by omega
    have hp := parse_eq (s.extract 0 8) k (by omega)
    have hs' : (s.extract 8 s.size).size = 8 * d := by rw [extract_size]; omega
    have ha' : ∀ e : S42, (acc ++ [e]).length + d ≤ 100000 := fun e => by simp; omega
    have hk' : d + 200 < k := by omega
    simp only [entry_ParseTable.l0]
    rw [if_neg h1, if_pos (by decide), if_pos h2, hp]
    simp only [Option.bind_some, ptF]
    by_cases hz : (parseE (s.extract 0 8)).2.2.2.2 = 0
    · rw [if_pos hz, if_pos h3, if_pos hz]
      exact ih k _ _ hs' (ha' _) hk'
    · rw [if_neg hz, if_neg hz]
def ptT (s : ByteArray) : List S42 × Int := if s.size % 8 = 0 ∧ s.size ≤ 65536 then ptF (s.size / 8) s [] else ([], 6)
theorem ptable_eq (s : ByteArray) (k : Nat) (hk : 10000 ≤ k) : entry_ParseTable.f k s = some (ptT s) := by
  obtain ⟨k, rfl⟩ : ∃ m, k = m + 1 := ⟨k - 1, by omega⟩
  unfold entry_ParseTable.f ptT
  have bad : entry_ParseTable.j0 (k + 1) s true = some ([], 6) := by simp [entry_ParseTable.j0]
  by_cases h8 : s.size % 8 = 0
  · rw [if_pos (by omega)]
    by_cases hb : s.size ≤ 65536
    · rw [if_pos ⟨h8, hb⟩, decide_eq_false (by omega)]
      simp only [entry_ParseTable.j0, Bool.false_eq_true, if_false]
      exact ptable_l0 (s.size / 8) k s [] (by omega) (by simp; omega) (by omega)
    · rw [if_neg (fun h => hb h.2), decide_eq_true (by omega), bad]
  · rw [if_neg (by omega), if_neg (fun h => h8 h.1), bad]
theorem bytesOf_cut (s : ByteArray) (a b : Nat) : bytesOf (s.extract a b) = ((bytesOf s).drop a).take (b - a) := by
  unfold bytesOf
  rw [ByteArray.data_extract, Array.toList_extract, List.extract_eq_drop_take', List.map_drop, List.map_take, List.drop_take]
theorem refptable_l0 (s : ByteArray) (hb : s.size ≤ 200000) : ∀ (d j k : Nat) (acc : List S42), s.size = 8 * (j + d) → acc.length + d ≤ 100000 → d + 1300 < k → caulkref13_ParseTable.l0 k s acc ((8 * j : Nat) : Int) = some (ptF d (s.extract (8 * j) s.size) acc) := by
  intro d
  induction d with
  | zero =>
    intro j k acc hs ha hk
    obtain ⟨k, rfl⟩ : ∃ m, k = m + 1 := ⟨k - 1, by omega⟩
    have h1 : ¬ ((8 * j : Nat) : Int) < (s.size : Int) := by omega
    simp only [caulkref13_ParseTable.l0]
    rw [if_neg h1]; rfl
  | succ d ih =>
    intro j k acc hs ha hk
    obtain ⟨k, rfl⟩ : ∃ m, k = m + 1 := ⟨k - 1, by omega⟩
    have h1 : ((8 * j : Nat) : Int) < (s.size : Int) := by omega
    have h0 : (0 : Int) ≤ ((8 * j : Nat) : Int) := by omega
    have h2 : ((8 * j : Nat) : Int) ≤ ((8 * (j + 1) : Nat) : Int) := by omega
    have h2' : ((8 * (j + 1) : Nat) : Int) ≤ (s.size : Int) := by omega
    have h3 : acc.length < 4398046511104 := by omega
    have hx1 : s.extract (8 * j) (8 * (j + 1)) = (s.extract (8 * j) s.size).extract 0 8 := by
      apply bytesOf_inj
      rw [bytesOf_cut, bytesOf_cut, bytesOf_extract, List.drop_zero]
      congr 1
      omega
    have hx2 : (s.extract (8 * j) s.size).extract 8 (s.extract (8 * j) s.size).size = s.extract (8 * (j + 1)) s.size := by
      apply bytesOf_inj
      rw [bytesOf_extract, bytesOf_extract, bytesOf_extract, List.drop_drop]
      congr 1
    have hp := refparse_eq (s.extract (8 * j) (8 * (j + 1))) k (by omega)
    have hs' : s.size = 8 * (j + 1 + d) := by omega
    have ha' : ∀ e : S42, (acc ++ [e]).length + d ≤ 100000 := fun e => by simp; omega
    have hk' : d + 1300 < k := by omega
    have e2 : wrap64 (((8 * j : Nat) : Int) + 8) = ((8 * (j + 1) : Nat) : Int) := by unfold wrap64; omega
    simp only [caulkref13_ParseTable.l0]
    rw [if_pos h1, if_pos h0, e2, if_pos h2, if_pos h2', Int.toNat_natCast, Int.toNat_natCast, hp, hx1]
    simp only [Option.bind_some, ptF]
    by_cases hz : (parseE ((s.extract (8 * j) s.size).extract 0 8)).2.2.2.2 = 0
    · rw [if_pos hz, if_pos h3, if_pos hz, hx2]
      exact ih (j + 1) k _ hs' (ha' _) hk'
    · rw [if_neg hz, if_neg hz]
theorem extract_all (s : ByteArray) : s.extract 0 s.size = s := by
  apply bytesOf_inj; rw [bytesOf_extract]; rfl
theorem refptable_eq (s : ByteArray) (hb : s.size ≤ 200000) (k : Nat) (hk : 30000 ≤ k) : caulkref13_ParseTable.f k s = some (ptT s) := by
  obtain ⟨k, rfl⟩ : ∃ m, k = m + 1 := ⟨k - 1, by omega⟩
  unfold caulkref13_ParseTable.f ptT
  have bad : caulkref13_ParseTable.j0 (k + 1) s true = some ([], 6) := by simp [caulkref13_ParseTable.j0]
  have ew : wrap64 ((s.size : Int) / 8) = (s.size : Int) / 8 := by unfold wrap64; omega
  by_cases h8 : s.size % 8 = 0
  · rw [if_pos (by omega), ew]
    by_cases hb2 : s.size ≤ 65536
    · rw [if_pos ⟨h8, hb2⟩, decide_eq_false (by omega)]
      simp only [caulkref13_ParseTable.j0, Bool.false_eq_true, if_false]
      have := refptable_l0 s hb (s.size / 8) 0 k [] (by omega) (by simp; omega) (by omega)
      rw [show 8 * 0 = 0 from rfl, extract_all] at this
      exact this
    · rw [if_neg (fun h => hb2 h.2), decide_eq_true (by omega), bad]
  · rw [if_neg (by omega), if_neg (fun h => h8 h.1), bad]
theorem same13_l0 (l : List S42) : ∀ (d i k : Nat), i + d = l.length → l.length ≤ 1000000 → d < k → caulkref13_Same.l0 k l l (l.length : Int) (i : Int) = some true := by
  intro d
  induction d with
  | zero =>
    intro i k hi hb hk
    obtain ⟨k, rfl⟩ : ∃ m, k = m + 1 := ⟨k - 1, by omega⟩
    have h1 : ¬ (i : Int) < (l.length : Int) := by omega
    simp only [caulkref13_Same.l0]
    rw [if_neg h1]
  | succ d ih =>
    intro i k hi hb hk
    obtain ⟨k, rfl⟩ : ∃ m, k = m + 1 := ⟨k - 1, by omega⟩
    have h1 : (i : Int) < (l.length : Int) := by omega
    have h0 : (0 : Int) ≤ (i : Int) := by omega
    have ih' := ih (i + 1) k (by omega) hb (by omega)
    have e2 : wrap64 ((i : Int) + 1) = ((i + 1 : Nat) : Int) := by unfold wrap64; omega
    simp only [caulkref13_Same.l0]
    rw [if_pos h1, if_pos h0, if_pos h1, if_pos h1, if_neg (by simp), e2, ih']
theorem same13_self (l : List S42) (hb : l.length ≤ 8192) (k : Nat) (hk : 10000 ≤ k) : caulkref13_Same.f k l l = some true := by
  unfold caulkref13_Same.f
  rw [if_pos rfl]
  exact same13_l0 l l.length 0 k (by omega) (by omega) (by omega)
theorem ptF_len : ∀ (d : Nat) (s : ByteArray) (acc : List S42), (ptF d s acc).1.length ≤ acc.length + d := by
  intro d
  induction d with
  | zero => intro s acc; exact Nat.le_refl _
  | succ d ih =>
    intro s acc
    simp only [ptF]
    split
    · have := ih (s.extract 8 s.size) (acc ++ [mkE (parseE (s.extract 0 8))])
      rw [List.length_append] at this
      simp only [List.length_cons, List.length_nil] at this
      omega
    · exact Nat.zero_le _
theorem ptT_len (s : ByteArray) : (ptT s).1.length ≤ 8192 := by
  unfold ptT
  split
  · rename_i h
    have := ptF_len (s.size / 8) s []
    simp only [List.length_nil] at this
    omega
  · exact Nat.zero_le _
theorem bE_ok {e : S42} (h : (bE e).2 = 0) : goodE e.f0 e.f1.f0 e.f1.f1 e.f2 ∧ e.f0 ≠ 2 ∧ (bE e).1 = strOfNums (digs (numE e.f0 e.f1.f0 e.f1.f1) 8) := by
  unfold bE bytesE at h ⊢
  by_cases hc : goodE e.f0 e.f1.f0 e.f1.f1 e.f2 ∧ e.f0 ≠ 2
  · rw [if_pos hc]; exact ⟨hc.1, hc.2, rfl⟩
  · rw [if_neg hc] at h; exact absurd h (by decide)
theorem num8_of {n : Int} (h : 0 ≤ n ∧ n < 256 ^ 8) : numN (strOfNums (digs n 8)) 0 8 = n := by
  unfold numN
  rw [bytesOf_strOfNums (digs_isY _ _), List.drop_zero, List.take_of_length_le (by rw [digs_length]; exact Nat.le_refl _), numL_digs 8 n (Int.ediv_eq_zero_of_lt h.1 h.2)]
theorem parse_bytes {e : S42} (h : (bE e).2 = 0) : parseE (bE e).1 = (e.f0, e.f1.f0, e.f1.f1, e.f2, 0) ∧ (bE e).1.size = 8 := by
  obtain ⟨g, h2, hb⟩ := bE_ok h
  have hr := numE_range g h2
  rw [hb]
  have hs : (strOfNums (digs (numE e.f0 e.f1.f0 e.f1.f1) 8)).size = 8 := by rw [son_size, digs_length]
  refine ⟨?_, hs⟩
  unfold parseE
  rw [if_pos hs, num8_of hr]
  obtain ⟨k, ⟨s, m⟩, f⟩ := e
  show (if numE k s m = 0 then _ else _) = (k, s, m, f, (0 : Int))
  have g' : goodE k s m f := g
  have h2' : k ≠ 2 := h2
  by_cases h1 : k = 1
  · have hv : numE k s m = s + 1 + 4294967296 * m := by unfold numE; rw [if_pos h1]
    have hbd : 0 ≤ s ∧ s < 2147483648 ∧ 0 ≤ m ∧ m < 255 ∧ f = 0 := by unfold goodE at g'; omega
    rw [hv, if_neg (by omega), show (s + 1 + 4294967296 * m) % 4294967296 - 1 = s from by omega, show (s + 1 + 4294967296 * m) / 4294967296 = m from by omega, if_pos (by unfold goodE; omega), h1, hbd.2.2.2.2]
  · have hz : k = 0 ∧ s = 0 ∧ m = 0 ∧ f = 0 := by unfold goodE at g'; omega
    obtain ⟨rfl, rfl, rfl, rfl⟩ := hz
    rw [if_pos (by decide)]
theorem cut_app (p t : ByteArray) (h : p.size = 8) : (p ++ t).extract 0 8 = p ∧ (p ++ t).extract 8 (p ++ t).size = t := by
  have hl : (bytesOf p).length = 8 := by rw [bytesOf_length, h]
  constructor
  · apply bytesOf_inj
    rw [bytesOf_cut, bytesOf_append, List.drop_zero, List.take_left' (by rw [hl])]
  · apply bytesOf_inj
    rw [bytesOf_extract, bytesOf_append, List.drop_left' hl]
theorem tab_pt : ∀ (l : List S42) (b s : ByteArray), tabF l b = (s, 0) → ∃ t : ByteArray, s = b ++ t ∧ t.size = 8 * l.length ∧ ∀ acc, ptF l.length t acc = (acc ++ l, 0) := by
  intro l
  induction l with
  | nil =>
    intro b s h
    simp only [tabF, Prod.mk.injEq, and_true] at h
    subst h
    exact ⟨⟨#[]⟩, (append_empty b).symm, rfl, fun acc => by simp [ptF]⟩
  | cons e l ih =>
    intro b s h
    simp only [tabF] at h
    by_cases hz : (bE e).2 = 0
    · rw [if_pos hz] at h
      obtain ⟨t, rfl, hts, ht⟩ := ih _ _ h
      obtain ⟨hp, hps⟩ := parse_bytes hz
      obtain ⟨c1, c2⟩ := cut_app (bE e).1 t hps
      refine ⟨(bE e).1 ++ t, by rw [bapp_assoc], by rw [ByteArray.size_append, hps, hts]; simp; omega, fun acc => ?_⟩
      simp only [List.length_cons, ptF]
      rw [c1, hp, c2]
      simp only [if_true]
      rw [ht, List.append_assoc]; rfl
    · rw [if_neg hz] at h
      exact absurd (congrArg Prod.snd h) hz
theorem bytes_parse {s : ByteArray} (hs : s.size = 8) (h : (parseE s).2.2.2.2 = 0) : bE (mkE (parseE s)) = (s, 0) ∧ goodE (mkE (parseE s)).f0 (mkE (parseE s)).f1.f0 (mkE (parseE s)).f1.f1 (mkE (parseE s)).f2 := by
  have hr := num8_range s hs
  have hsp := bytes_num8 s hs
  unfold parseE at h ⊢
  rw [if_pos hs] at h ⊢
  generalize numN s 0 8 = n at *
  by_cases h0 : n = 0
  · rw [if_pos h0]
    refine ⟨?_, by decide⟩
    show bytesE 0 0 0 0 = _
    rw [bytesE_ok (by decide) (by decide), hsp, h0]; rfl
  · rw [if_neg h0] at h ⊢
    by_cases g : goodE 1 (n % 4294967296 - 1) (n / 4294967296) 0
    · rw [if_pos g]
      refine ⟨?_, g⟩
      show bytesE 1 (n % 4294967296 - 1) (n / 4294967296) 0 = _
      have en : numE 1 (n % 4294967296 - 1) (n / 4294967296) = n := by unfold numE; rw [if_pos rfl]; omega
      rw [bytesE_ok g (by decide), en, ← hsp]
    · rw [if_neg g] at h; exact absurd h (by decide)
theorem pt_tab : ∀ (d : Nat) (s : ByteArray) (acc r : List S42), s.size = 8 * d → ptF d s acc = (r, 0) → ∃ l, r = acc ++ l ∧ l.length = d ∧ (∀ e ∈ l, goodE e.f0 e.f1.f0 e.f1.f1 e.f2) ∧ ∀ b, tabF l b = (b ++ s, 0) := by
  intro d
  induction d with
  | zero =>
    intro s acc r hs h
    simp only [ptF, Prod.mk.injEq, and_true] at h
    subst h
    refine ⟨[], by simp, rfl, by simp, fun b => ?_⟩
    have : s = ⟨#[]⟩ := bytesOf_inj (by rw [show bytesOf (⟨#[]⟩ : ByteArray) = [] from rfl]; exact List.eq_nil_of_length_eq_zero (by rw [bytesOf_length]; omega))
    rw [this]; simp only [tabF]; rw [append_empty]
  | succ d ih =>
    intro s acc r hs h
    simp only [ptF] at h
    by_cases hz : (parseE (s.extract 0 8)).2.2.2.2 = 0
    · rw [if_pos hz] at h
      obtain ⟨l, rfl, hl, hg, ht⟩ := ih _ _ _ (by rw [extract_size]; omega) h
      have hps : (s.extract 0 8).size = 8 := by rw [← bytesOf_length, bytesOf_cut, List.length_take, List.drop_zero, bytesOf_length]; omega
      obtain ⟨hb, hgood⟩ := bytes_parse hps hz
      refine ⟨mkE (parseE (s.extract 0 8)) :: l, by simp, by simp [hl], ?_, fun b => ?_⟩
      · intro e he
        rcases List.mem_cons.1 he with rfl | he
        · exact hgood
        · exact hg e he
      · simp only [tabF]
        rw [hb]
        simp only [if_true]
        rw [ht, bapp_assoc]
        congr 2
        apply bytesOf_inj
        rw [bytesOf_append, bytesOf_cut, bytesOf_extract, List.drop_zero, List.take_append_drop]
    · rw [if_neg hz] at h
      exact absurd (congrArg Prod.snd h) hz
theorem ptF_fail : ∀ (d : Nat) (s : ByteArray) (acc : List S42), (ptF d s acc).2 ≠ 0 → (ptF d s acc).1 = [] := by
  intro d
  induction d with
  | zero => intro s acc h; exact absurd rfl h
  | succ d ih =>
    intro s acc h
    simp only [ptF] at h ⊢
    by_cases hz : (parseE (s.extract 0 8)).2.2.2.2 = 0
    · rw [if_pos hz] at h ⊢; exact ih _ _ h
    · rw [if_neg hz]
theorem EntryBack : caulklaw13_EntryBack.Pure := by
  intro l s ⟨hl, _⟩ hs
  obtain ⟨K, hK⟩ : ∃ K : Nat, 30000 ≤ K := ⟨30000, Nat.le_refl _⟩
  obtain ⟨y, w3, hy⟩ : ∃ y w3, ptT s = (y, w3) := ⟨_, _, rfl⟩
  have hylen : y.length ≤ 8192 := by have := ptT_len s; rw [hy] at this; exact this
  -- what is read is right, and has these bytes
  have back : (∀ e ∈ y, goodE e.f0 e.f1.f0 e.f1.f1 e.f2) ∧ (w3 = 0 → tabT y = (s, 0)) := by
    unfold ptT at hy
    by_cases hc : s.size % 8 = 0 ∧ s.size ≤ 65536
    · rw [if_pos hc] at hy
      by_cases h0 : w3 = 0
      · subst h0
        obtain ⟨l', hl', hlen, hg, ht⟩ := pt_tab (s.size / 8) s [] y (by omega) hy
        rw [List.nil_append] at hl'
        subst hl'
        refine ⟨hg, fun _ => ?_⟩
        unfold tabT
        rw [if_pos hylen, ht, empty_append]
      · have := ptF_fail (s.size / 8) s [] (by rw [hy]; exact h0)
        rw [hy] at this
        have hy0 : y = [] := this
        rw [hy0]
        exact ⟨by simp, fun h => absurd h h0⟩
    · rw [if_neg hc] at hy
      simp only [Prod.mk.injEq] at hy
      obtain ⟨rfl, rfl⟩ := hy
      exact ⟨by simp, fun h => absurd h (by decide)⟩
  obtain ⟨hg, hT⟩ := back
  have loop : ∀ (d i k : Nat), i + d = y.length → d < k → caulklaw13_EntryBack.l0 k s w3 (tabT y).1 (tabT y).2 y (y.length : Int) (i : Int) = some true := by
    intro d
    induction d with
    | zero =>
      intro i k hi hk
      obtain ⟨k, rfl⟩ : ∃ m, k = m + 1 := ⟨k - 1, by omega⟩
      have h1 : ¬ (i : Int) < (y.length : Int) := by omega
      simp only [caulklaw13_EntryBack.l0]
      rw [if_neg h1]
      by_cases h0 : w3 = 0
      · rw [if_pos h0, hT h0]; simp
      · rw [if_neg h0]
    | succ d ih =>
      intro i k hi hk
      obtain ⟨k, rfl⟩ : ∃ m, k = m + 1 := ⟨k - 1, by omega⟩
      have h1 : (i : Int) < (y.length : Int) := by omega
      have h0 : (0 : Int) ≤ (i : Int) := by omega
      have ih' := ih (i + 1) k (by omega) (by omega)
      have hlt : i < y.length := by omega
      have hge : goodE (rd_T42 y (i : Int)).f0 (rd_T42 y (i : Int)).f1.f0 (rd_T42 y (i : Int)).f1.f1 (rd_T42 y (i : Int)).f2 := by
        refine hg _ ?_
        unfold rd_T42
        rw [Int.toNat_natCast, List.getD_eq_getElem?_getD, List.getElem?_eq_getElem hlt]
        exact List.getElem_mem hlt
      have e2 : wrap64 ((i : Int) + 1) = ((i + 1 : Nat) : Int) := by unfold wrap64; omega
      simp only [caulklaw13_EntryBack.l0]
      rw [if_pos h1, if_pos h0, if_pos h1, check_eq]
      simp only [Option.bind_some]
      unfold chk
      rw [if_pos hge, if_pos rfl, e2, ih']
  have hj : ∀ k, 8200 ≤ k → caulklaw13_EntryBack.j0 k s y w3 (tabT y).1 (tabT y).2 false = some true := by
    intro k hk
    obtain ⟨k, rfl⟩ : ∃ m, k = m + 1 := ⟨k - 1, by omega⟩
    simp only [caulklaw13_EntryBack.j0, Bool.false_eq_true, if_false]
    exact loop y.length 0 k (by omega) (by omega)
  refine ⟨K, ?_⟩
  unfold caulklaw13_EntryBack.f
  rw [lives13 K (by omega), table_eq l (by omega) K (by omega), ptable_eq s K (by omega)]
  simp only [Option.bind_some, if_true]
  rw [ptable_eq _ K (by omega), hy]
  simp only [Option.bind_some]
  rw [table_eq y (by omega) K (by omega)]
  simp only [Option.bind_some]
  by_cases hw : (tabT l).2 = 0
  · have hlen : l.length ≤ 8192 := by
      unfold tabT at hw
      by_cases h : l.length ≤ 8192
      · exact h
      · rw [if_neg h] at hw; exact absurd hw (by decide)
    obtain ⟨a, w1, ha⟩ : ∃ a w1, tabT l = (a, w1) := ⟨_, _, rfl⟩
    rw [ha] at hw ⊢
    obtain rfl : w1 = 0 := hw
    have hF : tabF l ⟨#[]⟩ = (a, 0) := by unfold tabT at ha; rwa [if_pos hlen] at ha
    obtain ⟨t, ht, hts, hpt⟩ := tab_pt l _ _ hF
    rw [empty_append] at ht
    subst ht
    have hp : ptT a = (l, 0) := by
      unfold ptT
      rw [if_pos ⟨by omega, by omega⟩, show a.size / 8 = l.length from by omega, hpt, List.nil_append]
    have hsz : ((a.size : Int) != wrap64 (8 * (l.length : Int))) = false := by
      rw [show wrap64 (8 * (l.length : Int)) = (a.size : Int) from by unfold wrap64; omega, bne_self_eq_false]
    rw [hp]
    simp only [if_true]
    rw [same13_self l hlen K (by omega)]
    simp only [Option.bind_some, if_true]
    rw [hsz]
    exact hj K (by omega)
  · rw [if_neg hw]
    exact hj K (by omega)
end Go.Proofs.Ytgiljibkjccgfab.Pure
