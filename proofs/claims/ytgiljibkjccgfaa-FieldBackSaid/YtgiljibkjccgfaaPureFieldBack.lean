/- FieldBack: the pure statement: numbers and lists alone. Conditions: those of the statement itself. -/
import Derived.Test.YtgiljibkjccgfaaGx7
import Derived.OpenShut
import Derived.Laws.Bits64b
namespace Go.Proofs.Ytgiljibkjccgfaa.Pure
open Go.RowKit Go.Proofs.Ytgiljibkjccgfaa.G Go.Proofs.YtgiljibkjccgfaaW.PrintWords Go.Proofs.YtgiljibkjccgfaaW.PrintLast Go.Proofs.YtgiljibkjccgfaaW.PrintMore Go.OpenShut
set_option linter.unusedVariables false
set_option linter.unusedSimpArgs false
theorem or_add (i x y : Nat) (hx : x < 2 ^ i) (hy : x + 2 ^ i * y < 18446744073709551616) : Go.bits .or .u64 (x : Int) ((2 ^ i * y : Nat) : Int) = ((x + 2 ^ i * y : Nat) : Int) := by
  rw [Go.bits_or_u64_nat _ _ (by omega) (by omega), Nat.or_comm, ← Nat.two_pow_add_eq_or_of_lt hx, Nat.add_comm]
/-- A byte. -/
def isY (a : Int) : Prop := 0 ≤ a ∧ a ≤ 255
theorem bytesOf_isY (s : ByteArray) : ∀ x ∈ bytesOf s, isY x := by
  intro x hx
  simp only [bytesOf, List.mem_map] at hx
  obtain ⟨b, _, rfl⟩ := hx
  have := b.toNat_lt
  unfold isY; omega
theorem bytesOf_inj {a b : ByteArray} (h : bytesOf a = bytesOf b) : a = b := by
  have : a.data.toList = b.data.toList := by
    apply List.ext_getElem?
    intro i
    have h2 := congrArg (fun l => l[i]?) h
    simp only [bytesOf, List.getElem?_map] at h2
    cases h3 : a.data.toList[i]? <;> cases h4 : b.data.toList[i]? <;> rw [h3, h4] at h2 <;> simp at h2 ⊢
    exact UInt8.toNat_inj.1 (by omega)
  cases a; cases b; simp at this; simp [this]
theorem bytesOf_strOfNums {xs : List Int} (h : ∀ x ∈ xs, isY x) : bytesOf (strOfNums xs) = xs := by
  unfold bytesOf strOfNums
  simp only [List.map_map]
  conv => rhs; rw [← List.map_id xs]
  apply List.map_congr_left
  intro x hx
  have := h x hx
  unfold isY at this
  simp only [Function.comp, UInt8.toNat_ofNat', id]
  omega
theorem bytesOf_append (a b : ByteArray) : bytesOf (a ++ b) = bytesOf a ++ bytesOf b := by
  unfold bytesOf; rw [ByteArray.data_append]; simp
theorem strOfNums_bytesOf (a : ByteArray) : strOfNums (bytesOf a) = a := bytesOf_inj (bytesOf_strOfNums (bytesOf_isY a))
theorem strOfNums_append (xs ys : List Int) : strOfNums (xs ++ ys) = strOfNums xs ++ strOfNums ys := by
  have : (strOfNums (xs ++ ys)).data = (strOfNums xs ++ strOfNums ys).data := by rw [ByteArray.data_append]; simp [strOfNums]
  exact ByteArray.ext this
theorem son_size (xs : List Int) : (strOfNums xs).size = xs.length := by
  show (strOfNums xs).data.size = _; simp [strOfNums]
theorem bt_get (s : ByteArray) (i : Nat) : bt s (i : Int) = (bytesOf s).getD i 0 := by
  rw [← rd_bytesOf]; rfl
theorem bytesOf_extract (s : ByteArray) (i : Nat) : bytesOf (s.extract i s.size) = (bytesOf s).drop i := by
  unfold bytesOf
  rw [ByteArray.data_extract]
  have : s.size = s.data.size := rfl
  rw [this, Array.toList_extract, List.extract_eq_drop_take', List.map_drop, ← Array.length_toList, List.take_length]
theorem empty_append (s : ByteArray) : (⟨#[]⟩ : ByteArray) ++ s = s := by
  apply bytesOf_inj; rw [bytesOf_append]; rfl
theorem append_empty (s : ByteArray) : s ++ (⟨#[]⟩ : ByteArray) = s := by
  apply bytesOf_inj; rw [bytesOf_append, show bytesOf (⟨#[]⟩ : ByteArray) = [] from rfl, List.append_nil]
theorem bapp_assoc (a b c : ByteArray) : (a ++ b) ++ c = a ++ (b ++ c) := by
  apply bytesOf_inj; simp only [bytesOf_append, List.append_assoc]

/-! numbers and their bytes -/
def digs (n : Int) : Nat → List Int
  | 0 => []
  | d + 1 => n % 256 :: digs (n / 256) d
theorem digs_length (d : Nat) : ∀ n, (digs n d).length = d := by
  induction d with
  | zero => intro n; rfl
  | succ d ih => intro n; simp [digs, ih]
theorem digs_isY (d : Nat) : ∀ n, ∀ x ∈ digs n d, isY x := by
  induction d with
  | zero => intro n x hx; simp [digs] at hx
  | succ d ih =>
    intro n x hx
    simp only [digs, List.mem_cons] at hx
    rcases hx with rfl | hx
    · unfold isY; omega
    · exact ih _ x hx
def numL : List Int → Int
  | [] => 0
  | x :: xs => x + 256 * numL xs
theorem pow256_pos (d : Nat) : (0 : Int) < 256 ^ d := Int.pow_pos (by decide)
theorem div_pow_succ (n : Int) (d : Nat) : n / 256 ^ (d + 1) = n / 256 / 256 ^ d := by
  rw [Int.pow_succ, Int.mul_comm, Int.ediv_ediv_of_nonneg (by decide)]
theorem numL_digs (d : Nat) : ∀ n : Int, n / 256 ^ d = 0 → numL (digs n d) = n := by
  induction d with
  | zero => intro n h; simp at h; simp [digs, numL, h]
  | succ d ih =>
    intro n h
    rw [div_pow_succ] at h
    simp only [digs, numL]
    rw [ih _ h]
    omega
theorem numL_range : ∀ l : List Int, (∀ x ∈ l, isY x) → 0 ≤ numL l ∧ numL l < 256 ^ l.length := by
  intro l
  induction l with
  | nil => intro _; exact ⟨Int.le_refl _, by decide⟩
  | cons x l ih =>
    intro h
    obtain ⟨h1, h2⟩ := ih (fun y hy => h y (List.mem_cons_of_mem _ hy))
    have hx := h x (List.mem_cons_self ..)
    unfold isY at hx
    simp only [numL, List.length_cons]
    rw [Int.pow_succ]
    omega
theorem digs_numL : ∀ l : List Int, (∀ x ∈ l, isY x) → digs (numL l) l.length = l := by
  intro l
  induction l with
  | nil => intro _; rfl
  | cons x l ih =>
    intro h
    have hx := h x (List.mem_cons_self ..)
    unfold isY at hx
    simp only [numL, List.length_cons, digs]
    rw [show (x + 256 * numL l) % 256 = x from by omega, show (x + 256 * numL l) / 256 = numL l from by omega, ih (fun y hy => h y (List.mem_cons_of_mem _ hy))]

/-! widths -/
def okW (w : Int) : Prop := w = 1 ∨ w = 2 ∨ w = 4 ∨ w = 8
instance (w : Int) : Decidable (okW w) := by unfold okW; exact inferInstance
theorem okW_nat {w : Int} (h : okW w) : ∃ m : Nat, w = (m : Int) ∧ 1 ≤ m ∧ m ≤ 8 := ⟨w.toNat, by unfold okW at h; omega, by unfold okW at h; omega, by unfold okW at h; omega⟩
theorem width_eq (w : Int) : field_width.f w = some (decide (okW w)) := by
  unfold field_width.f okW
  by_cases h1 : w = 1
  · rw [if_pos h1]; simp [h1]
  rw [if_neg h1]
  by_cases h2 : w = 2
  · rw [if_pos h2]; simp [h2]
  rw [if_neg h2]
  by_cases h3 : w = 4
  · rw [if_pos h3]; simp [h3]
  rw [if_neg h3]
  by_cases h4 : w = 8
  · rw [if_pos h4]; simp [h4]
  · rw [if_neg h4]; simp [h1, h2, h3, h4]
theorem refwidth_eq (w : Int) : caulkref07_width.f w = some (decide (okW w)) := by
  unfold caulkref07_width.f okW
  by_cases h1 : w = 1
  · rw [if_pos h1]; simp [h1]
  rw [if_neg h1]
  by_cases h2 : w = 2
  · rw [if_pos h2]; simp [h2]
  rw [if_neg h2]
  by_cases h3 : w = 4
  · rw [if_pos h3]; simp [h3]
  rw [if_neg h3]
  by_cases h4 : w = 8
  · simp [h4]
  · simp [h1, h2, h3, h4]

/-! put -/
def isU (n : Int) : Prop := 0 ≤ n ∧ n ≤ 18446744073709551615
def putF (w n : Int) : ByteArray × Int := if okW w ∧ n / 256 ^ w.toNat = 0 then (strOfNums (digs n w.toNat), 0) else (⟨#[]⟩, 1)
theorem shr_eq (n : Int) (i : Nat) (hi : i ≤ 8) : shr .u64 n ((8 * i : Nat) : Int) = n / 256 ^ i := by
  unfold shr
  rw [Int.toNat_natCast, Nat.min_eq_left (by simp [IntKind.bits]; omega), Int.pow_mul]
  rfl
theorem put_l0 (n : Int) (m : Nat) (hm : m ≤ 8) : ∀ (d i k : Nat) (acc : List Int), i + d = m → acc.length + d ≤ 1000 → d < k → field_put.l0 k acc n (m : Int) (i : Int) = some (acc ++ digs (n / 256 ^ i) d) := by
  intro d
  induction d with
  | zero =>
    intro i k acc hi ha hk
    obtain ⟨k, rfl⟩ : ∃ m, k = m + 1 := ⟨k - 1, by omega⟩
    simp only [field_put.l0]
    rw [if_neg (by omega)]
    simp [digs]
  | succ d ih =>
    intro i k acc hi ha hk
    obtain ⟨k, rfl⟩ : ∃ m, k = m + 1 := ⟨k - 1, by omega⟩
    have h1 : (i : Int) < (m : Int) := by omega
    have h2 : (0 : Int) ≤ ((8 * i : Nat) : Int) := Int.natCast_nonneg _
    have h3 : acc.length < 140737488355328 := by omega
    have ih' := ih (i + 1) k (acc ++ [n / 256 ^ i % 256]) (by omega) (by simp; omega) (by omega)
    have e1 : wrap64 (8 * (i : Int)) = ((8 * i : Nat) : Int) := by unfold wrap64; omega
    have e2 : wrap64 ((i : Int) + 1) = ((i + 1 : Nat) : Int) := by unfold wrap64; omega
    simp only [field_put.l0]
    rw [if_pos h1, e1, if_pos h2, if_pos h3, shr_eq n i (by omega), e2, ih', List.append_assoc, List.singleton_append]
    simp only [digs]
    rw [Int.ediv_ediv_of_nonneg (Int.le_of_lt (pow256_pos i)), ← Int.pow_succ]
theorem put_eq {w n : Int} (hn : isU n) (k : Nat) (hk : 20 ≤ k) : field_Put.f k w n = some (putF w n) := by
  unfold field_Put.f
  rw [width_eq]
  simp only [Option.bind_some]
  by_cases hw : okW w
  · rw [decide_eq_true hw, if_pos rfl]
    obtain ⟨m, rfl, hm1, hm8⟩ := okW_nat hw
    have hp : field_put.f k [] (m : Int) n = some (digs n m) := by
      unfold field_put.f
      have := put_l0 n m hm8 m 0 k [] (by omega) (by simp; omega) (by omega)
      simpa using this
    have e1 : wrap64 (8 * (m : Int)) = ((8 * m : Nat) : Int) := by unfold wrap64; omega
    rw [hp, e1]
    unfold putF
    rw [Int.toNat_natCast]
    by_cases h8 : (m : Int) < 8
    · rw [if_pos h8, if_pos (Int.natCast_nonneg _), shr_eq n m (by omega)]
      by_cases h0 : n / 256 ^ m = 0
      · rw [if_pos h0, if_pos ⟨hw, h0⟩]; rfl
      · rw [if_neg h0, if_neg (fun h => h0 h.2)]
    · rw [if_neg h8]
      obtain rfl : m = 8 := by omega
      have h0 : n / 256 ^ 8 = 0 := by unfold isU at hn; rw [show (256 : Int) ^ 8 = 18446744073709551616 from rfl]; omega
      rw [if_pos ⟨hw, h0⟩]; rfl
  · rw [decide_eq_false hw]
    unfold putF
    rw [if_neg (fun h : okW w ∧ n / 256 ^ w.toNat = 0 => hw h.1)]; rfl
theorem refput_l0 (w : Int) (m : Nat) (hm : w = (m : Int)) (hm8 : m ≤ 8) : ∀ (d i k : Nat) (n : Int) (acc : List Int), i + d = m → isU n → acc.length + d ≤ 1000 → d < k → caulkref07_Put.l0 k w n acc (i : Int) = some (if n / 256 ^ d = 0 then (strOfNums (acc ++ digs n d), 0) else (⟨#[]⟩, 1)) := by
  intro d
  induction d with
  | zero =>
    intro i k n acc hi hn ha hk
    obtain ⟨k, rfl⟩ : ∃ m, k = m + 1 := ⟨k - 1, by omega⟩
    have h1 : ¬ (i : Int) < w := by omega
    simp only [caulkref07_Put.l0]
    rw [if_neg h1]
    unfold isU at hn
    by_cases h0 : n > 0
    · rw [if_pos h0, if_neg (by simp; omega)]
    · rw [if_neg h0, if_pos (by simp; omega)]; simp [digs]
  | succ d ih =>
    intro i k n acc hi hn ha hk
    obtain ⟨k, rfl⟩ : ∃ m, k = m + 1 := ⟨k - 1, by omega⟩
    have h1 : (i : Int) < w := by omega
    have h3 : acc.length < 140737488355328 := by omega
    unfold isU at hn
    have hn2 : isU (n / 256) := by unfold isU; omega
    have ih' := ih (i + 1) k (n / 256) (acc ++ [n % 256]) (by omega) hn2 (by simp; omega) (by omega)
    have e3 : IntKind.u64.wrap (Int.tdiv n 256) = n / 256 := by rw [IntKind.wrap_u64, Int.tdiv_eq_ediv_of_nonneg hn.1]; omega
    have e4 : Int.tmod n 256 % 256 = n % 256 := by rw [Int.tmod_eq_emod_of_nonneg hn.1]; omega
    have e2 : wrap64 ((i : Int) + 1) = ((i + 1 : Nat) : Int) := by unfold wrap64; omega
    simp only [caulkref07_Put.l0]
    rw [if_pos h1, if_pos h3, e3, e4, e2, ih', div_pow_succ, List.append_assoc, List.singleton_append]
    rfl
theorem refput_eq {w n : Int} (hn : isU n) (k : Nat) (hk : 20 ≤ k) : caulkref07_Put.f k w n = some (putF w n) := by
  unfold caulkref07_Put.f
  rw [refwidth_eq]
  simp only [Option.bind_some]
  by_cases hw : okW w
  · rw [decide_eq_true hw, if_pos rfl]
    obtain ⟨m, rfl, hm1, hm8⟩ := okW_nat hw
    have := refput_l0 (m : Int) m rfl hm8 m 0 k n [] (by omega) hn (by simp; omega) (by omega)
    rw [show ((0 : Nat) : Int) = 0 from rfl, List.nil_append] at this
    rw [this]
    unfold putF
    rw [Int.toNat_natCast]
    by_cases h0 : n / 256 ^ m = 0
    · rw [if_pos h0, if_pos ⟨hw, h0⟩]
    · rw [if_neg h0, if_neg (fun h => h0 h.2)]
  · rw [decide_eq_false hw]
    unfold putF
    rw [if_neg (fun h : okW w ∧ n / 256 ^ w.toNat = 0 => hw h.1)]; rfl

/-! get -/
def numN (s : ByteArray) (i d : Nat) : Int := numL (((bytesOf s).drop i).take d)
theorem numN_succ (s : ByteArray) (i d : Nat) (h : i < s.size) : numN s i (d + 1) = bt s i + 256 * numN s (i + 1) d := by
  have hl : i < (bytesOf s).length := by rw [bytesOf_length]; exact h
  unfold numN
  rw [List.drop_eq_getElem_cons hl, List.take_succ_cons]
  simp only [numL]
  rw [bt_get, List.getD_eq_getElem?_getD, List.getElem?_eq_getElem hl]; rfl
theorem numN_range (s : ByteArray) (i d : Nat) (h : i + d ≤ s.size) : 0 ≤ numN s i d ∧ numN s i d < 256 ^ d := by
  have hl : (((bytesOf s).drop i).take d).length = d := by simp [bytesOf_length]; omega
  have := numL_range (((bytesOf s).drop i).take d) (fun x hx => bytesOf_isY s x (List.mem_of_mem_drop (List.mem_of_mem_take hx)))
  rw [hl] at this
  exact this
def getF (w : Int) (s : ByteArray) : Int × Int := if okW w then (if (s.size : Int) < w then (0, 5) else (numN s 0 w.toNat, 0)) else (0, 1)
theorem pow256_le8 (d : Nat) (h : d ≤ 8) : (256 : Int) ^ d ≤ 18446744073709551616 := by
  rcases (by omega : d = 0 ∨ d = 1 ∨ d = 2 ∨ d = 3 ∨ d = 4 ∨ d = 5 ∨ d = 6 ∨ d = 7 ∨ d = 8) with rfl | rfl | rfl | rfl | rfl | rfl | rfl | rfl | rfl <;> decide
theorem get_l0 (s : ByteArray) (m : Nat) (hm : m ≤ 8) (hs : m ≤ s.size) : ∀ (d i k : Nat) (v : Int), i + d = m → 0 ≤ v → v < 256 ^ i → d < k → field_Get.l0 k s v (m : Int) (i : Int) = some (v + 256 ^ i * numN s i d, 0) := by
  intro d
  induction d with
  | zero =>
    intro i k v hi h0 hv hk
    obtain ⟨k, rfl⟩ : ∃ m, k = m + 1 := ⟨k - 1, by omega⟩
    have h1 : ¬ (i : Int) < (m : Int) := by omega
    simp only [field_Get.l0]
    rw [if_neg h1]
    simp [numN, numL]
  | succ d ih =>
    intro i k v hi h0 hv hk
    obtain ⟨k, rfl⟩ : ∃ m, k = m + 1 := ⟨k - 1, by omega⟩
    have h1 : (i : Int) < (m : Int) := by omega
    have h2 : (i : Int) < (s.size : Int) := by omega
    have hi0 : (0 : Int) ≤ (i : Int) := by omega
    have h4 : (0 : Int) ≤ ((8 * i : Nat) : Int) := Int.natCast_nonneg _
    have hr := bt_range s i
    have hpi : (256 : Int) ^ (i + 1) ≤ 18446744073709551616 := pow256_le8 _ (by omega)
    have hp1 : (256 : Int) ^ (i + 1) = 256 ^ i * 256 := Int.pow_succ ..
    have hpos := pow256_pos i
    have hmul : 256 ^ i * bt s i ≤ 256 ^ i * 255 := Int.mul_le_mul_of_nonneg_left hr.2 (Int.le_of_lt hpos)
    have hmul0 : 0 ≤ 256 ^ i * bt s i := Int.mul_nonneg (Int.le_of_lt hpos) hr.1
    have hnew : v + 256 ^ i * bt s i < 256 ^ (i + 1) := by rw [hp1]; omega
    have ih' := ih (i + 1) k (v + 256 ^ i * bt s i) (by omega) (by omega) hnew (by omega)
    have e3 : shl .u64 (IntKind.u64.wrap (bt s i)) ((8 * i : Nat) : Int) = 256 ^ i * bt s i := by
      unfold shl
      rw [Int.toNat_natCast, Nat.min_eq_left (by simp [IntKind.bits]; omega), IntKind.wrap_u64, IntKind.wrap_u64, Int.pow_mul, show ((2 : Int) ^ 8) = 256 from rfl, Int.emod_eq_of_lt hr.1 (by omega), Int.mul_comm, Int.emod_eq_of_lt hmul0 (by omega)]
    have e5 : Go.bits .or .u64 v (256 ^ i * bt s i) = v + 256 ^ i * bt s i := by
      have ep : (256 : Int) ^ i = ((2 ^ (8 * i) : Nat) : Int) := by
        rw [Nat.pow_mul, Int.natCast_pow]; rfl
      have hor := or_add (8 * i)
      clear e3 ih ih'
      rw [ep] at hv hnew ⊢
      generalize 2 ^ (8 * i) = P at *
      obtain ⟨vn, rfl⟩ := Int.eq_ofNat_of_zero_le h0
      obtain ⟨bn, hb⟩ := Int.eq_ofNat_of_zero_le hr.1
      rw [hb] at hnew ⊢
      have hv' : vn < P := by omega
      have hn2 : ((vn + P * bn : Nat) : Int) < 18446744073709551616 := by
        rw [Int.natCast_add, Int.natCast_mul]; omega
      have := hor vn bn hv' (by omega)
      rw [Int.natCast_add, Int.natCast_mul] at this
      exact this
    have hsz : i < s.size := by omega
    have e1 : wrap64 (8 * (i : Int)) = ((8 * i : Nat) : Int) := by unfold wrap64; omega
    have e2 : wrap64 ((i : Int) + 1) = ((i + 1 : Nat) : Int) := by unfold wrap64; omega
    simp only [field_Get.l0]
    rw [if_pos h1, if_pos hi0, if_pos h2, e1, if_pos h4, e3, e5, e2, ih', numN_succ s i d hsz, hp1, Int.mul_add, ← Int.mul_assoc, Int.add_assoc]
theorem get_eq (w : Int) (s : ByteArray) (k : Nat) (hk : 20 ≤ k) : field_Get.f k w s = some (getF w s) := by
  unfold field_Get.f
  rw [width_eq]
  simp only [Option.bind_some]
  by_cases hw : okW w
  · rw [decide_eq_true hw, if_pos rfl]
    obtain ⟨m, rfl, hm1, hm8⟩ := okW_nat hw
    unfold getF
    rw [if_pos hw]
    by_cases h : (s.size : Int) < (m : Int)
    · rw [if_pos h, if_pos h]
    · rw [if_neg h, if_neg h]
      have := get_l0 s m hm8 (by omega) m 0 k 0 (by omega) (Int.le_refl _) (by decide) (by omega)
      rw [show ((0 : Nat) : Int) = 0 from rfl] at this
      rw [this, Int.toNat_natCast]
      simp
  · rw [decide_eq_false hw]
    unfold getF
    rw [if_neg hw]; rfl
theorem refget_l0 (s : ByteArray) (m : Nat) (hm : m ≤ 8) (hs : m ≤ s.size) (hbig : s.size ≤ 4611686018427387904) : ∀ (j d k : Nat), j + d = m → j < k → caulkref07_Get.l0 k s (numN s j d) ((j : Int) - 1) = some (numN s 0 m, 0) := by
  intro j
  induction j with
  | zero =>
    intro d k hj hk
    obtain ⟨k, rfl⟩ : ∃ m, k = m + 1 := ⟨k - 1, by omega⟩
    simp only [caulkref07_Get.l0]
    rw [if_neg (by decide), show d = m from by omega]
  | succ j ih =>
    intro d k hj hk
    obtain ⟨k, rfl⟩ : ∃ m, k = m + 1 := ⟨k - 1, by omega⟩
    have ej : ((j + 1 : Nat) : Int) - 1 = (j : Int) := by omega
    have hr := bt_range s j
    have hn := numN_range s (j + 1) d (by omega)
    have hp : (256 : Int) ^ d ≤ 72057594037927936 := by
      rcases (by omega : d = 0 ∨ d = 1 ∨ d = 2 ∨ d = 3 ∨ d = 4 ∨ d = 5 ∨ d = 6 ∨ d = 7) with rfl | rfl | rfl | rfl | rfl | rfl | rfl | rfl <;> decide
    have h1 : (j : Int) ≥ 0 := by omega
    have h0 : (0 : Int) ≤ (j : Int) := by omega
    have h2 : (j : Int) < (s.size : Int) := by omega
    have ih' := ih (d + 1) k (by omega) (by omega)
    have hs' := numN_succ s j d (by omega)
    generalize numN s (j + 1) d = v at *
    have e1 : IntKind.u64.wrap ((IntKind.u64.wrap (256 * v)) + (IntKind.u64.wrap (bt s j))) = bt s j + 256 * v := by
      rw [IntKind.wrap_u64, IntKind.wrap_u64, IntKind.wrap_u64]; omega
    have e2 : wrap64 ((j : Int) - 1) = (j : Int) - 1 := by unfold wrap64; omega
    rw [ej]
    simp only [caulkref07_Get.l0]
    rw [if_pos h1, if_pos h0, if_pos h2, e1, e2, ← hs', ih']
theorem refget_eq (w : Int) (s : ByteArray) (hbig : s.size ≤ 4611686018427387904) (k : Nat) (hk : 20 ≤ k) : caulkref07_Get.f k w s = some (getF w s) := by
  unfold caulkref07_Get.f
  rw [refwidth_eq]
  simp only [Option.bind_some]
  by_cases hw : okW w
  · rw [decide_eq_true hw, if_pos rfl]
    obtain ⟨m, rfl, hm1, hm8⟩ := okW_nat hw
    unfold getF
    rw [if_pos hw]
    by_cases h : (s.size : Int) < (m : Int)
    · rw [if_pos h, if_pos h]
    · rw [if_neg h, if_neg h]
      have := refget_l0 s m hm8 (by omega) hbig m 0 k (by omega) (by omega)
      rw [show numN s m 0 = 0 from rfl] at this
      rw [show wrap64 ((m : Int) - 1) = (m : Int) - 1 from by unfold wrap64; omega, this, Int.toNat_natCast]
  · rw [decide_eq_false hw]
    unfold getF
    rw [if_neg hw]; rfl
/-! several numbers -/
def allF : List Int → ByteArray → List Int → List Int × ByteArray × Int
  | [], s, acc => (acc, s, 0)
  | w :: ws, s, acc => if (getF w s).2 = 0 then allF ws (s.extract w.toNat s.size) (acc ++ [(getF w s).1]) else ([], ⟨#[]⟩, (getF w s).2)
theorem getF_ok {w : Int} {s : ByteArray} (h : (getF w s).2 = 0) : okW w ∧ w.toNat ≤ s.size ∧ (getF w s).1 = numN s 0 w.toNat := by
  unfold getF at h ⊢
  by_cases hw : okW w
  · rw [if_pos hw] at h ⊢
    obtain ⟨m, rfl, hm1, hm8⟩ := okW_nat hw
    by_cases hs : (s.size : Int) < (m : Int)
    · rw [if_pos hs] at h; exact absurd h (by decide)
    · rw [if_neg hs] at h ⊢; exact ⟨hw, by rw [Int.toNat_natCast]; omega, rfl⟩
  · rw [if_neg hw] at h; exact absurd h (by decide)
theorem extract_size (s : ByteArray) (i : Nat) : (s.extract i s.size).size = s.size - i := by
  rw [← bytesOf_length, bytesOf_extract, List.length_drop, bytesOf_length]
theorem rd_drop (ws : List Int) (i : Nat) (h : i < ws.length) : ws.drop i = rd ws (i : Int) :: ws.drop (i + 1) := by
  rw [List.drop_eq_getElem_cons h]
  congr 1
  unfold rd
  rw [Int.toNat_natCast, List.getD_eq_getElem?_getD, List.getElem?_eq_getElem h]; rfl
theorem all_l0 (ws : List Int) (hlen : ws.length ≤ 1000) : ∀ (d i k : Nat) (s : ByteArray) (acc : List Int), i + d = ws.length → acc.length + d ≤ 1000 → d + 20 < k → field_All.l0 k s acc ws (ws.length : Int) (i : Int) = some (allF (ws.drop i) s acc) := by
  intro d
  induction d with
  | zero =>
    intro i k s acc hi ha hk
    obtain ⟨k, rfl⟩ : ∃ m, k = m + 1 := ⟨k - 1, by omega⟩
    have h1 : ¬ (i : Int) < (ws.length : Int) := by omega
    simp only [field_All.l0]
    rw [if_neg h1, List.drop_of_length_le (by omega)]; rfl
  | succ d ih =>
    intro i k s acc hi ha hk
    obtain ⟨k, rfl⟩ : ∃ m, k = m + 1 := ⟨k - 1, by omega⟩
    have h1 : (i : Int) < (ws.length : Int) := by omega
    have h0 : (0 : Int) ≤ (i : Int) := by omega
    have h3 : acc.length < 17592186044416 := by omega
    have hg := get_eq (rd ws (i : Int)) s k (by omega)
    have hd := rd_drop ws i (by omega)
    have hi' : i + 1 + d = ws.length := by omega
    have ha' : ∀ x : Int, (acc ++ [x]).length + d ≤ 1000 := fun x => by simp; omega
    have hk' : d + 20 < k := by omega
    have e2 : wrap64 ((i : Int) + 1) = ((i + 1 : Nat) : Int) := by unfold wrap64; omega
    simp only [field_All.l0]
    rw [if_pos h1, if_pos h0, if_pos h1, hg, hd]
    simp only [Option.bind_some, allF]
    by_cases hz : (getF (rd ws (i : Int)) s).2 = 0
    · obtain ⟨hw, hsz, _⟩ := getF_ok hz
      obtain ⟨m, hm, hm1, hm8⟩ := okW_nat hw
      have h5 : 0 ≤ rd ws (i : Int) := by rw [hm]; omega
      have h6 : rd ws (i : Int) ≤ (s.size : Int) := by rw [hm] at hsz ⊢; rw [Int.toNat_natCast] at hsz; omega
      rw [if_pos hz, if_pos h3, if_pos h5, if_pos h6, e2, ih (i + 1) k _ _ hi' (ha' _) hk', if_pos hz]
    · rw [if_neg hz, if_neg hz]
theorem all_eq (s : ByteArray) (ws : List Int) (hlen : ws.length ≤ 500) (k : Nat) (hk : 1000 ≤ k) : field_All.f k s ws = some (allF ws s []) := by
  have := all_l0 ws (by omega) ws.length 0 k s [] (by omega) (by simp; omega) (by omega)
  simpa [field_All.f] using this
theorem refall_l0 (ws : List Int) (hlen : ws.length ≤ 1000) : ∀ (d i k : Nat) (s : ByteArray) (acc : List Int), s.size ≤ 4611686018427387904 → i + d = ws.length → acc.length + d ≤ 1000 → d + 20 < k → caulkref07_All.l0 k s acc ws (ws.length : Int) (i : Int) = some (allF (ws.drop i) s acc) := by
  intro d
  induction d with
  | zero =>
    intro i k s acc hb hi ha hk
    obtain ⟨k, rfl⟩ : ∃ m, k = m + 1 := ⟨k - 1, by omega⟩
    have h1 : ¬ (i : Int) < (ws.length : Int) := by omega
    simp only [caulkref07_All.l0]
    rw [if_neg h1, List.drop_of_length_le (by omega)]; rfl
  | succ d ih =>
    intro i k s acc hb hi ha hk
    obtain ⟨k, rfl⟩ : ∃ m, k = m + 1 := ⟨k - 1, by omega⟩
    have h1 : (i : Int) < (ws.length : Int) := by omega
    have h0 : (0 : Int) ≤ (i : Int) := by omega
    have h3 : acc.length < 17592186044416 := by omega
    have hg := refget_eq (rd ws (i : Int)) s hb k (by omega)
    have hd := rd_drop ws i (by omega)
    have hi' : i + 1 + d = ws.length := by omega
    have ha' : ∀ x : Int, (acc ++ [x]).length + d ≤ 1000 := fun x => by simp; omega
    have hk' : d + 20 < k := by omega
    have hb' : (s.extract (rd ws (i : Int)).toNat s.size).size ≤ 4611686018427387904 := by rw [extract_size]; omega
    have e2 : wrap64 ((i : Int) + 1) = ((i + 1 : Nat) : Int) := by unfold wrap64; omega
    simp only [caulkref07_All.l0]
    rw [if_pos h1, if_pos h0, if_pos h1, hg, hd]
    simp only [Option.bind_some, allF]
    by_cases hz : (getF (rd ws (i : Int)) s).2 = 0
    · obtain ⟨hw, hsz, _⟩ := getF_ok hz
      obtain ⟨m, hm, hm1, hm8⟩ := okW_nat hw
      have h5 : 0 ≤ rd ws (i : Int) := by rw [hm]; omega
      have h6 : rd ws (i : Int) ≤ (s.size : Int) := by rw [hm] at hsz ⊢; rw [Int.toNat_natCast] at hsz; omega
      rw [if_pos hz, if_pos h3, if_pos h5, if_pos h6, e2, ih (i + 1) k _ _ hb' hi' (ha' _) hk', if_pos hz]
    · rw [if_neg hz, if_neg hz]
theorem refall_eq (s : ByteArray) (hb : s.size ≤ 4611686018427387904) (ws : List Int) (hlen : ws.length ≤ 500) (k : Nat) (hk : 1000 ≤ k) : caulkref07_All.f k s ws = some (allF ws s []) := by
  have := refall_l0 ws (by omega) ws.length 0 k s [] hb (by omega) (by simp; omega) (by omega)
  simpa [caulkref07_All.f] using this

def joinF : List Int → List Int → ByteArray → ByteArray × Int
  | w :: ws, v :: vs, b => if (putF w v).2 = 0 then joinF ws vs (b ++ (putF w v).1) else (⟨#[]⟩, (putF w v).2)
  | _, _, b => (b, 0)
theorem putF_size (w v : Int) : (putF w v).1.size ≤ 8 := by
  unfold putF
  split
  · rename_i h
    obtain ⟨m, rfl, _, hm8⟩ := okW_nat h.1
    show (strOfNums _).size ≤ 8
    rw [son_size, digs_length]; omega
  · decide
theorem join_l0 (ws vs : List Int) (hlen : ws.length ≤ 1000) (hl2 : vs.length = ws.length) (hv : ∀ v ∈ vs, isU v) : ∀ (d i k : Nat) (acc : List Int), i + d = ws.length → acc.length + 8 * d ≤ 10000 → d + 20 < k → field_Join.l0 k vs acc ws (ws.length : Int) (i : Int) = some (joinF (ws.drop i) (vs.drop i) (strOfNums acc)) := by
  intro d
  induction d with
  | zero =>
    intro i k acc hi ha hk
    obtain ⟨k, rfl⟩ : ∃ m, k = m + 1 := ⟨k - 1, by omega⟩
    have h1 : ¬ (i : Int) < (ws.length : Int) := by omega
    simp only [field_Join.l0]
    rw [if_neg h1, List.drop_of_length_le (by omega)]; rfl
  | succ d ih =>
    intro i k acc hi ha hk
    obtain ⟨k, rfl⟩ : ∃ m, k = m + 1 := ⟨k - 1, by omega⟩
    have h1 : (i : Int) < (ws.length : Int) := by omega
    have h0 : (0 : Int) ≤ (i : Int) := by omega
    have h4 : (i : Int) < (vs.length : Int) := by omega
    have hu : isU (rd vs (i : Int)) := by
      have hlt : i < vs.length := by omega
      unfold rd
      rw [Int.toNat_natCast, List.getD_eq_getElem?_getD, List.getElem?_eq_getElem hlt]
      exact hv _ (List.getElem_mem hlt)
    have hg := put_eq (w := rd ws (i : Int)) hu k (by omega)
    have hd := rd_drop ws i (by omega)
    have hd2 := rd_drop vs i (by omega)
    have hps := putF_size (rd ws (i : Int)) (rd vs (i : Int))
    have h3 : acc.length + (putF (rd ws (i : Int)) (rd vs (i : Int))).1.size < 140737488355328 := by omega
    have hi' : i + 1 + d = ws.length := by omega
    have ha' : (acc ++ bytesOf (putF (rd ws (i : Int)) (rd vs (i : Int))).1).length + 8 * d ≤ 10000 := by rw [List.length_append, bytesOf_length]; omega
    have hk' : d + 20 < k := by omega
    have e2 : wrap64 ((i : Int) + 1) = ((i + 1 : Nat) : Int) := by unfold wrap64; omega
    simp only [field_Join.l0]
    rw [if_pos h1, if_pos h0, if_pos h1, if_pos h4, hg, hd, hd2]
    simp only [Option.bind_some, joinF]
    by_cases hz : (putF (rd ws (i : Int)) (rd vs (i : Int))).2 = 0
    · rw [if_pos hz, if_pos h3, e2, ih (i + 1) k _ hi' ha' hk', if_pos hz, strOfNums_append, strOfNums_bytesOf]
    · rw [if_neg hz, if_neg hz]
def joinT (ws vs : List Int) : ByteArray × Int := if ws.length = vs.length then joinF ws vs ⟨#[]⟩ else (⟨#[]⟩, 2)
theorem join_eq (ws vs : List Int) (hlen : ws.length ≤ 500) (hv : ∀ v ∈ vs, isU v) (k : Nat) (hk : 1000 ≤ k) : field_Join.f k ws vs = some (joinT ws vs) := by
  unfold field_Join.f joinT
  by_cases h : ws.length = vs.length
  · rw [if_pos (by omega), if_pos h]
    exact join_l0 ws vs (by omega) h.symm hv ws.length 0 k [] (by omega) (by simp; omega) (by omega)
  · rw [if_neg (by omega), if_neg h]
theorem refjoin_l0 (ws vs : List Int) (hlen : ws.length ≤ 1000) (hl2 : vs.length = ws.length) (hv : ∀ v ∈ vs, isU v) : ∀ (d i k : Nat) (acc : ByteArray), i + d = ws.length → acc.size + 8 * d ≤ 10000 → d + 20 < k → caulkref07_Join.l0 k vs acc ws (ws.length : Int) (i : Int) = some (joinF (ws.drop i) (vs.drop i) acc) := by
  intro d
  induction d with
  | zero =>
    intro i k acc hi ha hk
    obtain ⟨k, rfl⟩ : ∃ m, k = m + 1 := ⟨k - 1, by omega⟩
    have h1 : ¬ (i : Int) < (ws.length : Int) := by omega
    simp only [caulkref07_Join.l0]
    rw [if_neg h1, List.drop_of_length_le (by omega)]; rfl
  | succ d ih =>
    intro i k acc hi ha hk
    obtain ⟨k, rfl⟩ : ∃ m, k = m + 1 := ⟨k - 1, by omega⟩
    have h1 : (i : Int) < (ws.length : Int) := by omega
    have h0 : (0 : Int) ≤ (i : Int) := by omega
    have h4 : (i : Int) < (vs.length : Int) := by omega
    have hu : isU (rd vs (i : Int)) := by
      have hlt : i < vs.length := by omega
      unfold rd
      rw [Int.toNat_natCast, List.getD_eq_getElem?_getD, List.getElem?_eq_getElem hlt]
      exact hv _ (List.getElem_mem hlt)
    have hg := refput_eq (w := rd ws (i : Int)) hu k (by omega)
    have hd := rd_drop ws i (by omega)
    have hd2 := rd_drop vs i (by omega)
    have hps := putF_size (rd ws (i : Int)) (rd vs (i : Int))
    have h3 : acc.size + (putF (rd ws (i : Int)) (rd vs (i : Int))).1.size ≤ 9223372036854775807 := by omega
    have hi' : i + 1 + d = ws.length := by omega
    have ha' : (acc ++ (putF (rd ws (i : Int)) (rd vs (i : Int))).1).size + 8 * d ≤ 10000 := by rw [ByteArray.size_append]; omega
    have hk' : d + 20 < k := by omega
    have e2 : wrap64 ((i : Int) + 1) = ((i + 1 : Nat) : Int) := by unfold wrap64; omega
    simp only [caulkref07_Join.l0]
    rw [if_pos h1, if_pos h0, if_pos h1, if_pos h4, hg, hd, hd2]
    simp only [Option.bind_some, joinF]
    by_cases hz : (putF (rd ws (i : Int)) (rd vs (i : Int))).2 = 0
    · rw [if_pos hz, if_pos h3, e2, ih (i + 1) k _ hi' ha' hk', if_pos hz]
    · rw [if_neg hz, if_neg hz]
theorem refjoin_eq (ws vs : List Int) (hlen : ws.length ≤ 500) (hv : ∀ v ∈ vs, isU v) (k : Nat) (hk : 1000 ≤ k) : caulkref07_Join.f k ws vs = some (joinT ws vs) := by
  unfold caulkref07_Join.f joinT
  by_cases h : ws.length = vs.length
  · rw [if_pos (by omega), if_pos h]
    have := refjoin_l0 ws vs (by omega) h.symm hv ws.length 0 k ⟨#[]⟩ (by omega) (by simp [ByteArray.size]; omega) (by omega)
    simpa using this
  · rw [if_neg (by omega), if_neg h]
theorem uwrap_isU (x : Int) : isU (IntKind.u64.wrap x) := by rw [IntKind.wrap_u64]; unfold isU; omega
def ptrF (a b c : Int) : ByteArray × Int := if a < 0 then (⟨#[]⟩, 1) else if b < 0 then (⟨#[]⟩, 1) else joinF [4, 4, 4] [IntKind.u64.wrap a, IntKind.u64.wrap b, IntKind.u64.wrap c] ⟨#[]⟩
theorem ptr_eq (a b c : Int) (k : Nat) (hk : 1000 ≤ k) : field_Ptr.f k a b c = some (ptrF a b c) := by
  unfold field_Ptr.f ptrF
  by_cases ha : a < 0
  · rw [if_pos ha, if_pos ha]
  rw [if_neg ha, if_neg ha]
  by_cases hb : b < 0
  · rw [if_pos hb, if_pos hb]
  rw [if_neg hb, if_neg hb, join_eq _ _ (by decide) (by simp [uwrap_isU]) k hk]
  rfl
theorem refptr_eq (a b c : Int) (k : Nat) (hk : 1000 ≤ k) : caulkref07_Ptr.f k a b c = some (ptrF a b c) := by
  unfold caulkref07_Ptr.f ptrF
  by_cases ha : a < 0
  · rw [if_pos ha, if_pos ha]
  rw [if_neg ha, if_neg ha]
  by_cases hb : b < 0
  · rw [if_pos hb, if_pos hb]
  rw [if_neg hb, if_neg hb, refjoin_eq _ _ (by decide) (by simp [uwrap_isU]) k hk]
  rfl
theorem allF_length : ∀ (ws : List Int) (s : ByteArray) (acc : List Int), (allF ws s acc).2.2 = 0 → (allF ws s acc).1.length = acc.length + ws.length := by
  intro ws
  induction ws with
  | nil => intro s acc _; rfl
  | cons w ws ih =>
    intro s acc h
    simp only [allF] at h ⊢
    by_cases hz : (getF w s).2 = 0
    · rw [if_pos hz] at h ⊢
      rw [ih _ _ h]; simp; omega
    · rw [if_neg hz] at h; exact absurd h hz
def getptrF (s : ByteArray) : Int × Int × Int × Int := if (allF [4, 4, 4] s []).2.2 = 0 then (wrap64 (rd (allF [4, 4, 4] s []).1 0), wrap64 (rd (allF [4, 4, 4] s []).1 1), rd (allF [4, 4, 4] s []).1 2 % 4294967296, 0) else (0, 0, 0, (allF [4, 4, 4] s []).2.2)
theorem getptr_eq (s : ByteArray) (k : Nat) (hk : 1000 ≤ k) : field_GetPtr.f k s = some (getptrF s) := by
  unfold field_GetPtr.f getptrF
  rw [all_eq s [4, 4, 4] (by decide) k hk]
  simp only [Option.bind_some]
  by_cases h : (allF [4, 4, 4] s []).2.2 = 0
  · have hl := allF_length _ _ _ h
    simp only [List.length_nil, List.length_cons, Nat.zero_add, Nat.reduceAdd] at hl
    rw [if_pos h, if_pos h, if_pos (by omega), if_pos (by omega), if_pos (by omega)]
  · rw [if_neg h, if_neg h]
theorem refgetptr_eq (s : ByteArray) (hb : s.size ≤ 4611686018427387904) (k : Nat) (hk : 1000 ≤ k) : caulkref07_GetPtr.f k s = some (getptrF s) := by
  unfold caulkref07_GetPtr.f getptrF
  rw [refall_eq s hb [4, 4, 4] (by decide) k hk]
  simp only [Option.bind_some]
  by_cases h : (allF [4, 4, 4] s []).2.2 = 0
  · have hl := allF_length _ _ _ h
    simp only [List.length_nil, List.length_cons, Nat.zero_add, Nat.reduceAdd] at hl
    rw [if_pos h, if_pos h, if_pos (by omega), if_pos (by omega), if_pos (by omega)]
  · rw [if_neg h, if_neg h]
theorem text_eq (s : ByteArray) (hs : s.size ≤ 140737488351232) : field_Text.f s = caulkref07_Text.f s := by
  unfold field_Text.f caulkref07_Text.f
  by_cases h : (s.size : Int) > 32
  · rw [if_pos h, if_pos h]
  · rw [if_neg h, if_neg h]
    simp only [Option.bind_some]
    rw [if_pos (by simp; omega), if_pos (by rw [son_size]; simp; omega), strOfNums_append, strOfNums_bytesOf]
theorem text_some (s : ByteArray) (hs : s.size ≤ 140737488351232) : ∃ r, field_Text.f s = some r := by
  unfold field_Text.f
  by_cases h : (s.size : Int) > 32
  · rw [if_pos h]; exact ⟨_, rfl⟩
  · rw [if_neg h]
    simp only [Option.bind_some]
    rw [if_pos (by simp; omega)]; exact ⟨_, rfl⟩
theorem same_l0 (xs : List Int) : ∀ (d i k : Nat), i + d = xs.length → xs.length ≤ 1000000 → d < k → caulkref07_Same.l0 k xs xs (xs.length : Int) (i : Int) = some true := by
  intro d
  induction d with
  | zero =>
    intro i k hi hb hk
    obtain ⟨k, rfl⟩ : ∃ m, k = m + 1 := ⟨k - 1, by omega⟩
    have h1 : ¬ (i : Int) < (xs.length : Int) := by omega
    simp only [caulkref07_Same.l0]
    rw [if_neg h1]
  | succ d ih =>
    intro i k hi hb hk
    obtain ⟨k, rfl⟩ : ∃ m, k = m + 1 := ⟨k - 1, by omega⟩
    have h1 : (i : Int) < (xs.length : Int) := by omega
    have h0 : (0 : Int) ≤ (i : Int) := by omega
    have ih' := ih (i + 1) k (by omega) hb (by omega)
    have e2 : wrap64 ((i : Int) + 1) = ((i + 1 : Nat) : Int) := by unfold wrap64; omega
    simp only [caulkref07_Same.l0]
    rw [if_pos h1, if_pos h0, if_pos h1, if_pos h1, if_pos (by trivial), e2, ih']
theorem same_self (xs : List Int) (hb : xs.length ≤ 900) (k : Nat) (hk : 1000 ≤ k) : caulkref07_Same.f k xs xs = some true := by
  unfold caulkref07_Same.f
  rw [if_pos rfl]
  exact same_l0 xs xs.length 0 k (by omega) (by omega) (by omega)
theorem lives07_at : caulklaw07_lives.f 60 = some true := by decide +kernel
theorem lives07 (k : Nat) (hk : 1000 ≤ k) : caulklaw07_lives.f k = some true := at_rounds (g := fun k => caulklaw07_lives.f k) caulklaw07_lives.mono (by omega) lives07_at
theorem putF_ok {w v : Int} (h : (putF w v).2 = 0) : okW w ∧ v / 256 ^ w.toNat = 0 ∧ (putF w v).1 = strOfNums (digs v w.toNat) := by
  unfold putF at h ⊢
  by_cases hc : okW w ∧ v / 256 ^ w.toNat = 0
  · rw [if_pos hc]; exact ⟨hc.1, hc.2, rfl⟩
  · rw [if_neg hc] at h; exact absurd h (by decide)
theorem put_get {w v : Int} (h : (putF w v).2 = 0) (rest : ByteArray) : getF w ((putF w v).1 ++ rest) = (v, 0) ∧ ((putF w v).1 ++ rest).extract w.toNat ((putF w v).1 ++ rest).size = rest := by
  obtain ⟨hw, hv, hp⟩ := putF_ok h
  rw [hp]
  have hb : bytesOf (strOfNums (digs v w.toNat)) = digs v w.toNat := bytesOf_strOfNums (digs_isY _ _)
  have hlen : (digs v w.toNat).length = w.toNat := digs_length _ _
  have hsz : (strOfNums (digs v w.toNat) ++ rest).size = w.toNat + rest.size := by rw [ByteArray.size_append, son_size, hlen]
  constructor
  · unfold getF
    obtain ⟨m, hm, hm1, hm8⟩ := okW_nat hw
    rw [if_pos hw, if_neg (by rw [hsz]; rw [hm, Int.toNat_natCast]; omega)]
    unfold numN
    rw [bytesOf_append, hb, List.drop_zero, List.take_left' hlen, numL_digs _ _ hv]
  · apply bytesOf_inj
    rw [bytesOf_extract, bytesOf_append, hb, List.drop_left' hlen]
theorem join_all : ∀ (ws vs : List Int) (b s : ByteArray), ws.length = vs.length → joinF ws vs b = (s, 0) → ∃ t, s = b ++ t ∧ ∀ rest acc, allF ws (t ++ rest) acc = (acc ++ vs, rest, 0) := by
  intro ws
  induction ws with
  | nil =>
    intro vs b s hl hj
    obtain rfl : vs = [] := List.eq_nil_of_length_eq_zero hl.symm
    simp only [joinF, Prod.mk.injEq, and_true] at hj
    subst hj
    exact ⟨⟨#[]⟩, (append_empty b).symm, fun rest acc => by rw [empty_append, List.append_nil]; rfl⟩
  | cons w ws ih =>
    intro vs b s hl hj
    match vs, hl with
    | v :: vs, hl =>
    simp only [joinF] at hj
    by_cases hz : (putF w v).2 = 0
    · rw [if_pos hz] at hj
      obtain ⟨t, rfl, ht⟩ := ih vs _ s (by simpa using hl) hj
      refine ⟨(putF w v).1 ++ t, by rw [bapp_assoc], fun rest acc => ?_⟩
      obtain ⟨g1, g2⟩ := put_get hz (t ++ rest)
      simp only [allF]
      rw [bapp_assoc, g1, if_pos rfl, g2, ht, List.append_assoc]; rfl
    · rw [if_neg hz] at hj
      exact absurd (congrArg Prod.snd hj) hz
theorem get_put {w : Int} {s : ByteArray} (h : (getF w s).2 = 0) : putF w (getF w s).1 = (strOfNums ((bytesOf s).take w.toNat), 0) ∧ strOfNums ((bytesOf s).take w.toNat) ++ s.extract w.toNat s.size = s ∧ 0 ≤ (getF w s).1 ∧ (getF w s).1 < 256 ^ w.toNat ∧ w.toNat ≤ 8 ∧ ((bytesOf s).take w.toNat).length = w.toNat := by
  obtain ⟨hw, hs, hg⟩ := getF_ok h
  obtain ⟨m, hm, hm1, hm8⟩ := okW_nat hw
  have hlen : ((bytesOf s).take w.toNat).length = w.toNat := by rw [List.length_take, bytesOf_length]; omega
  have hY : ∀ x ∈ (bytesOf s).take w.toNat, isY x := fun x hx => bytesOf_isY s x (List.mem_of_mem_take hx)
  have hr := numL_range _ hY
  rw [hlen] at hr
  have hd := digs_numL _ hY
  rw [hlen] at hd
  rw [hg]
  unfold numN
  rw [List.drop_zero]
  refine ⟨?_, ?_, hr.1, hr.2, by omega, hlen⟩
  · unfold putF
    rw [if_pos ⟨hw, Int.ediv_eq_zero_of_lt hr.1 hr.2⟩, hd]
  · apply bytesOf_inj
    rw [bytesOf_append, bytesOf_strOfNums hY, bytesOf_extract, List.take_append_drop]
theorem all_join : ∀ (ws : List Int) (s : ByteArray) (acc r : List Int) (rest : ByteArray), allF ws s acc = (r, rest, 0) → ∃ vs, r = acc ++ vs ∧ vs.length = ws.length ∧ (∀ v ∈ vs, isU v) ∧ (∀ m : Int, (∀ w ∈ ws, w = m) → ∀ v ∈ vs, 0 ≤ v ∧ v < 256 ^ m.toNat) ∧ ∃ t : ByteArray, t.size = (ws.map Int.toNat).sum ∧ (∀ b, joinF ws vs b = (b ++ t, 0)) ∧ t ++ rest = s := by
  intro ws
  induction ws with
  | nil =>
    intro s acc r rest h
    simp only [allF, Prod.mk.injEq, and_true] at h
    obtain ⟨rfl, rfl⟩ := h
    exact ⟨[], by simp, rfl, by simp, by simp, ⟨#[]⟩, rfl, fun b => by simp only [joinF]; rw [append_empty], empty_append s⟩
  | cons w ws ih =>
    intro s acc r rest h
    simp only [allF] at h
    by_cases hz : (getF w s).2 = 0
    · rw [if_pos hz] at h
      obtain ⟨vs, rfl, hl, hu, hm, t, hsz, hj, ht⟩ := ih _ _ _ _ h
      obtain ⟨g1, g2, g3, g4, g5, g6⟩ := get_put hz
      refine ⟨(getF w s).1 :: vs, by simp, by simp [hl], ?_, ?_, strOfNums ((bytesOf s).take w.toNat) ++ t, ?_, fun b => ?_, ?_⟩
      · intro v hv
        rcases List.mem_cons.1 hv with rfl | hv
        · have := pow256_le8 w.toNat g5
          unfold isU; omega
        · exact hu v hv
      · intro m hm' v hv
        rcases List.mem_cons.1 hv with rfl | hv
        · rw [← hm' w (List.mem_cons_self ..)]; exact ⟨g3, g4⟩
        · exact hm m (fun w' hw' => hm' w' (List.mem_cons_of_mem _ hw')) v hv
      · rw [ByteArray.size_append, son_size, g6, hsz]; simp
      · simp only [joinF]
        rw [g1]
        simp only [if_true]
        rw [hj, bapp_assoc]
      · rw [bapp_assoc, ht, g2]
    · rw [if_neg hz] at h
      exact absurd (congrArg (fun x => x.2.2) h) hz
theorem allF_fail : ∀ (ws : List Int) (s : ByteArray) (acc : List Int), (allF ws s acc).2.2 ≠ 0 → (allF ws s acc).1 = [] := by
  intro ws
  induction ws with
  | nil => intro s acc h; exact absurd rfl h
  | cons w ws ih =>
    intro s acc h
    simp only [allF] at h ⊢
    by_cases hz : (getF w s).2 = 0
    · rw [if_pos hz] at h ⊢; exact ih _ _ h
    · rw [if_neg hz]
theorem joinF_size : ∀ (ws vs : List Int) (b : ByteArray), (joinF ws vs b).1.size ≤ b.size + 8 * ws.length := by
  intro ws
  induction ws with
  | nil => intro vs b; cases vs <;> simp [joinF]
  | cons w ws ih =>
    intro vs b
    cases vs with
    | nil => simp [joinF]
    | cons v vs =>
      simp only [joinF]
      split
      · have := ih vs (b ++ (putF w v).1)
        rw [ByteArray.size_append] at this
        have h8 := putF_size w v
        simp only [List.length_cons]; omega
      · show (⟨#[]⟩ : ByteArray).size ≤ _
        exact Nat.zero_le _
theorem joinT_size (ws vs : List Int) : (joinT ws vs).1.size ≤ 8 * ws.length := by
  unfold joinT
  split
  · have := joinF_size ws vs ⟨#[]⟩
    rw [show (⟨#[]⟩ : ByteArray).size = 0 from rfl] at this
    omega
  · exact Nat.zero_le _
theorem ptrF_size (a b c : Int) : (ptrF a b c).1.size ≤ 24 := by
  unfold ptrF
  split
  · exact Nat.zero_le _
  · split
    · exact Nat.zero_le _
    · exact joinF_size [4, 4, 4] _ ⟨#[]⟩
theorem FieldBack : caulklaw07_FieldBack.Pure := by
  intro ws vs s a b c ⟨hw, hw2⟩ ⟨hv, hv2⟩ hs wa wb wc
  have hvu : ∀ v ∈ vs, isU v := fun v h => by have := bounds_u64 (hv2 v h); unfold isU; omega
  have ba := bounds_i64 wa
  have bb := bounds_i64 wb
  have bc := bounds_u32 wc
  obtain ⟨K, hK⟩ : ∃ K : Nat, 1000 ≤ K := ⟨1000, Nat.le_refl _⟩
  -- the pointers
  have h1 : caulklaw07_FieldBack.j1 (K + 1) s false a b c = some true := by
    have hps := ptrF_size a b c
    have hsz : (ptrF a b c).1.size + s.size ≤ 9223372036854775807 := by omega
    have tail : ∀ (_ : (getptrF s).2.2.2 = 0), (ptrF (getptrF s).1 (getptrF s).2.1 (getptrF s).2.2.1).2 = 0 ∧ (12 : Int) ≤ (s.size : Int) ∧ (ptrF (getptrF s).1 (getptrF s).2.1 (getptrF s).2.2.1).1 = s.extract 0 12 := by
      intro hg
      have hz : (allF [4, 4, 4] s []).2.2 = 0 := by
        by_cases hz : (allF [4, 4, 4] s []).2.2 = 0
        · exact hz
        · unfold getptrF at hg; rw [if_neg hz] at hg; exact absurd hg hz
      obtain ⟨xs, rest, e0, hA⟩ : ∃ xs rest e0, allF [4, 4, 4] s [] = (xs, rest, e0) := ⟨_, _, _, rfl⟩
      rw [hA] at hz
      obtain rfl : e0 = 0 := hz
      obtain ⟨us, hus, hl, _, hm, t, ht1, ht2, ht3⟩ := all_join _ _ _ _ _ hA
      rw [List.nil_append] at hus
      subst hus
      match xs, hl with
      | [x, y, z], _ =>
      have hm4 := hm 4 (by simp)
      have hx := hm4 x (by simp)
      have hy := hm4 y (by simp)
      have hzz := hm4 z (by simp)
      rw [show (256 : Int) ^ (4 : Int).toNat = 4294967296 from rfl] at hx hy hzz
      have w1 : wrap64 x = x := by unfold wrap64; omega
      have w2 : wrap64 y = y := by unfold wrap64; omega
      have w3 : z % 4294967296 = z := by omega
      have hgp : getptrF s = (x, y, z, 0) := by
        unfold getptrF
        rw [hA, if_pos rfl]
        show (wrap64 x, wrap64 y, z % 4294967296, (0 : Int)) = _
        rw [w1, w2, w3]
      rw [hgp]
      have hp : ptrF x y z = (t, 0) := by
        unfold ptrF
        rw [if_neg (by omega), if_neg (by omega), show IntKind.u64.wrap x = x from by rw [IntKind.wrap_u64]; omega, show IntKind.u64.wrap y = y from by rw [IntKind.wrap_u64]; omega, show IntKind.u64.wrap z = z from by rw [IntKind.wrap_u64]; omega, ht2, empty_append]
      have ht12 : t.size = 12 := by rw [ht1]; rfl
      have hss : s.size = 12 + rest.size := by rw [← ht3, ByteArray.size_append, ht12]
      show (ptrF x y z).2 = 0 ∧ _ ∧ (ptrF x y z).1 = _
      rw [hp]
      refine ⟨rfl, by omega, ?_⟩
      apply bytesOf_inj
      have : bytesOf (s.extract 0 12) = (bytesOf s).take 12 := by
        unfold bytesOf
        rw [ByteArray.data_extract, Array.toList_extract, List.extract_eq_drop_take']
        simp
      rw [this, ← ht3, bytesOf_append, List.take_left' (by rw [bytesOf_length, ht12])]
    simp only [caulklaw07_FieldBack.j1, Bool.false_eq_true, if_false]
    rw [ptr_eq a b c K hK]
    simp only [Option.bind_some]
    rw [if_pos hsz, getptr_eq _ K hK, getptr_eq s K hK]
    simp only [Option.bind_some]
    rw [ptr_eq _ _ _ K hK]
    simp only [Option.bind_some]
    have fin : (if (getptrF s).2.2.2 = 0 then (if (ptrF (getptrF s).1 (getptrF s).2.1 (getptrF s).2.2.1).2 = 0 then (if (0 : Int) ≤ 12 then (if (12 : Int) ≤ (s.size : Int) then (some ((ptrF (getptrF s).1 (getptrF s).2.1 (getptrF s).2.2.1).1.toList == (s.extract 0 12).toList)) else none) else none) else none) else (some true)) = some true := by
      by_cases hg : (getptrF s).2.2.2 = 0
      · obtain ⟨t1, t2, t3⟩ := tail hg
        rw [if_pos hg, if_pos t1, if_pos (by decide), if_pos t2, t3]; simp
      · rw [if_neg hg]
    by_cases he : (ptrF a b c).2 = 0
    · rw [if_pos he]
      have hab : ¬ a < 0 ∧ ¬ b < 0 ∧ joinF [4, 4, 4] [IntKind.u64.wrap a, IntKind.u64.wrap b, IntKind.u64.wrap c] ⟨#[]⟩ = ptrF a b c := by
        unfold ptrF at he ⊢
        by_cases h1 : a < 0
        · rw [if_pos h1] at he; exact absurd he (by decide)
        · rw [if_neg h1] at he ⊢
          by_cases h2 : b < 0
          · rw [if_pos h2] at he; exact absurd he (by decide)
          · rw [if_neg h2]; exact ⟨h1, h2, rfl⟩
      obtain ⟨n1, n2, hj⟩ := hab
      obtain ⟨u, e5, hu⟩ : ∃ u e5, ptrF a b c = (u, e5) := ⟨_, _, rfl⟩
      rw [hu] at hj he
      obtain rfl : e5 = 0 := he
      obtain ⟨t, ht, hall⟩ := join_all [4, 4, 4] [IntKind.u64.wrap a, IntKind.u64.wrap b, IntKind.u64.wrap c] _ _ rfl hj
      rw [empty_append] at ht
      subst ht
      have hA := hall s []
      have wa1 : IntKind.u64.wrap a = a := by rw [IntKind.wrap_u64]; omega
      have wb1 : IntKind.u64.wrap b = b := by rw [IntKind.wrap_u64]; omega
      have wc1 : IntKind.u64.wrap c = c := by rw [IntKind.wrap_u64]; omega
      have wa2 : wrap64 a = a := by unfold wrap64; omega
      have wb2 : wrap64 b = b := by unfold wrap64; omega
      have wc2 : c % 4294967296 = c := by omega
      rw [List.nil_append, wa1, wb1, wc1] at hA
      have hgp : getptrF (u ++ s) = (a, b, c, 0) := by
        unfold getptrF
        rw [hA, if_pos rfl]
        show (wrap64 a, wrap64 b, c % 4294967296, (0 : Int)) = _
        rw [wa2, wb2, wc2]
      rw [hu]
      show (if (getptrF (u ++ s)).2.2.2 = 0 then _ else none) = some true
      rw [hgp]
      simp only [if_true, beq_self_eq_true, Bool.and_self]
      exact fin
    · rw [if_neg he]; exact fin
  -- numbers of bytes, and their bytes again
  have h0 : ws.length ≤ 200 → caulklaw07_FieldBack.j0 (K + 2) ws s false a b c = some true := by
    intro hl
    simp only [caulklaw07_FieldBack.j0, Bool.false_eq_true, if_false]
    rw [all_eq s ws (by omega) (K + 1) (by omega)]
    simp only [Option.bind_some]
    by_cases hz : (allF ws s []).2.2 = 0
    · obtain ⟨xs, rest, e0, hA⟩ : ∃ xs rest e0, allF ws s [] = (xs, rest, e0) := ⟨_, _, _, rfl⟩
      rw [hA] at hz
      obtain rfl : e0 = 0 := hz
      obtain ⟨us, hus, hl2, hu, _, t, ht1, ht2, ht3⟩ := all_join _ _ _ _ _ hA
      rw [List.nil_append] at hus
      subst hus
      rw [hA, join_eq ws xs (by omega) hu (K + 1) (by omega)]
      have hjT : joinT ws xs = (t, 0) := by
        unfold joinT
        rw [if_pos hl2.symm, ht2, empty_append]
      rw [hjT]
      have hsz : t.size + rest.size ≤ 9223372036854775807 := by rw [← ByteArray.size_append, ht3]; omega
      simp only [Option.bind_some, if_true]
      rw [if_pos hsz, ht3, bne_self_eq_false]
      exact h1
    · rw [allF_fail _ _ _ hz, join_eq ws [] (by omega) (by simp) (K + 1) (by omega)]
      simp only [Option.bind_some]
      rw [if_neg hz]
      exact h1
  refine ⟨K + 2, ?_⟩
  unfold caulklaw07_FieldBack.f
  rw [lives07 (K + 2) (by omega)]
  simp only [Option.bind_some, if_true]
  by_cases h : (ws.length : Int) > 200
  · rw [if_pos h]
  · have hl : ws.length ≤ 200 := by omega
    have hjs := joinT_size ws vs
    have hsz : (joinT ws vs).1.size + s.size ≤ 9223372036854775807 := by omega
    rw [if_neg h, join_eq ws vs (by omega) hvu (K + 2) (by omega)]
    simp only [Option.bind_some]
    rw [if_pos hsz, all_eq _ ws (by omega) (K + 2) (by omega)]
    simp only [Option.bind_some]
    by_cases he : (joinT ws vs).2 = 0
    · have hlen : ws.length = vs.length := by
        unfold joinT at he
        by_cases hlen : ws.length = vs.length
        · exact hlen
        · rw [if_neg hlen] at he; exact absurd he (by decide)
      obtain ⟨u, e1, hu⟩ : ∃ u e1, joinT ws vs = (u, e1) := ⟨_, _, rfl⟩
      rw [hu] at he
      obtain rfl : e1 = 0 := he
      have hj : joinF ws vs ⟨#[]⟩ = (u, 0) := by unfold joinT at hu; rwa [if_pos hlen] at hu
      obtain ⟨t, ht, hall⟩ := join_all ws vs _ _ hlen hj
      rw [empty_append] at ht
      subst ht
      rw [hu, hall s [], List.nil_append]
      simp only [if_true]
      rw [same_self vs (by omega) (K + 2) (by omega)]
      simp only [Option.bind_some, if_true]
      rw [bne_self_eq_false]
      exact h0 hl
    · rw [if_neg he]; exact h0 hl
end Go.Proofs.Ytgiljibkjccgfaa.Pure
