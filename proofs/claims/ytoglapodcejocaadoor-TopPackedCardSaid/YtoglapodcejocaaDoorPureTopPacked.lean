/- TopPacked: the pure statement: numbers and lists alone. Conditions: those of the statement itself. -/
import Derived.OpenShut
import Derived.OpenShut
import Derived.Laws.Bits64b
import Derived.Lib.Strings
import Derived.Lib.IndexBytes
import Derived.Test.YtoglapodcejocaaDoorTopPacked
namespace Go.Proofs.YtoglapodcejocaaDoor.Pure
open Go.RowKit Go.Proofs.YtoglapodcejocaaDoor.G Go.Proofs.YtoglapodcejocaaDoorW.PrintWords Go.Proofs.YtoglapodcejocaaDoorW.PrintLast Go.Proofs.YtoglapodcejocaaDoorW.PrintMore Go.OpenShut
set_option linter.unusedVariables false
set_option linter.unusedSimpArgs false
theorem or_add (i x y : Nat) (hx : x < 2 ^ i) (hy : x + 2 ^ i * y < 18446744073709551616) : Go.bits .or .u64 (x : Int) ((2 ^ i * y : Nat) : Int) = ((x + 2 ^ i * y : Nat) : Int) := by
  rw [Go.bits_or_u64_nat _ _ (by omega) (by omega), Nat.or_comm, ← Nat.two_pow_add_eq_or_of_lt hx, Nat.add_comm]
def isY (a : Int) : Prop := 0 ≤ a ∧ a ≤ 255
theorem bytesOf_isY (s : ByteArray) : ∀ x ∈ bytesOf s, isY x := by
  intro x hx
  simp only [bytesOf, List.mem_map] at hx
  obtain ⟨b, _, rfl⟩ := hx
  have := b.toNat_lt
  unfold isY; omega
theorem bytesOf_inj {a b : ByteArray} (h : bytesOf a = bytesOf b) : a = b := by
  have : a.data.toList = b.data.toList := by
    apply List.ext_getElem?
    intro i
    have h2 := congrArg (fun l => l[i]?) h
    simp only [bytesOf, List.getElem?_map] at h2
    cases h3 : a.data.toList[i]? <;> cases h4 : b.data.toList[i]? <;> rw [h3, h4] at h2 <;> simp at h2 ⊢
    exact UInt8.toNat_inj.1 (by omega)
  cases a; cases b; simp at this; simp [this]
theorem bytesOf_strOfNums {xs : List Int} (h : ∀ x ∈ xs, isY x) : bytesOf (strOfNums xs) = xs := by
  unfold bytesOf strOfNums
  simp only [List.map_map]
  conv => rhs; rw [← List.map_id xs]
  apply List.map_congr_left
  intro x hx
  have := h x hx
  unfold isY at this
  simp only [Function.comp, UInt8.toNat_ofNat', id]
  omega
theorem bytesOf_append (a b : ByteArray) : bytesOf (a ++ b) = bytesOf a ++ bytesOf b := by
  unfold bytesOf; rw [ByteArray.data_append]; simp
theorem strOfNums_bytesOf (a : ByteArray) : strOfNums (bytesOf a) = a := bytesOf_inj (bytesOf_strOfNums (bytesOf_isY a))
theorem strOfNums_append (xs ys : List Int) : strOfNums (xs ++ ys) = strOfNums xs ++ strOfNums ys := by
  have : (strOfNums (xs ++ ys)).data = (strOfNums xs ++ strOfNums ys).data := by rw [ByteArray.data_append]; simp [strOfNums]
  exact ByteArray.ext this
theorem son_size (xs : List Int) : (strOfNums xs).size = xs.length := by
  show (strOfNums xs).data.size = _; simp [strOfNums]
theorem bt_get (s : ByteArray) (i : Nat) : bt s (i : Int) = (bytesOf s).getD i 0 := by
  rw [← rd_bytesOf]; rfl
theorem bytesOf_extract (s : ByteArray) (i : Nat) : bytesOf (s.extract i s.size) = (bytesOf s).drop i := by
  unfold bytesOf
  rw [ByteArray.data_extract]
  have : s.size = s.data.size := rfl
  rw [this, Array.toList_extract, List.extract_eq_drop_take', List.map_drop, ← Array.length_toList, List.take_length]
theorem empty_append (s : ByteArray) : (⟨#[]⟩ : ByteArray) ++ s = s := by
  apply bytesOf_inj; rw [bytesOf_append]; rfl
theorem append_empty (s : ByteArray) : s ++ (⟨#[]⟩ : ByteArray) = s := by
  apply bytesOf_inj; rw [bytesOf_append, show bytesOf (⟨#[]⟩ : ByteArray) = [] from rfl, List.append_nil]
theorem bapp_assoc (a b c : ByteArray) : (a ++ b) ++ c = a ++ (b ++ c) := by
  apply bytesOf_inj; simp only [bytesOf_append, List.append_assoc]

def digs (n : Int) : Nat → List Int
  | 0 => []
  | d + 1 => n % 256 :: digs (n / 256) d
theorem digs_length (d : Nat) : ∀ n, (digs n d).length = d := by
  induction d with
  | zero => intro n; rfl
  | succ d ih => intro n; simp [digs, ih]
theorem digs_isY (d : Nat) : ∀ n, ∀ x ∈ digs n d, isY x := by
  induction d with
  | zero => intro n x hx; simp [digs] at hx
  | succ d ih =>
    intro n x hx
    simp only [digs, List.mem_cons] at hx
    rcases hx with rfl | hx
    · unfold isY; omega
    · exact ih _ x hx
def numL : List Int → Int
  | [] => 0
  | x :: xs => x + 256 * numL xs
theorem pow256_pos (d : Nat) : (0 : Int) < 256 ^ d := Int.pow_pos (by decide)
theorem div_pow_succ (n : Int) (d : Nat) : n / 256 ^ (d + 1) = n / 256 / 256 ^ d := by
  rw [Int.pow_succ, Int.mul_comm, Int.ediv_ediv_of_nonneg (by decide)]
theorem numL_digs (d : Nat) : ∀ n : Int, n / 256 ^ d = 0 → numL (digs n d) = n := by
  induction d with
  | zero => intro n h; simp at h; simp [digs, numL, h]
  | succ d ih =>
    intro n h
    rw [div_pow_succ] at h
    simp only [digs, numL]
    rw [ih _ h]
    omega
theorem numL_range : ∀ l : List Int, (∀ x ∈ l, isY x) → 0 ≤ numL l ∧ numL l < 256 ^ l.length := by
  intro l
  induction l with
  | nil => intro _; exact ⟨Int.le_refl _, by decide⟩
  | cons x l ih =>
    intro h
    obtain ⟨h1, h2⟩ := ih (fun y hy => h y (List.mem_cons_of_mem _ hy))
    have hx := h x (List.mem_cons_self ..)
    unfold isY at hx
    simp only [numL, List.length_cons]
    rw [Int.pow_succ]
    omega
theorem digs_numL : ∀ l : List Int, (∀ x ∈ l, isY x) → digs (numL l) l.length = l := by
  intro l
  induction l with
  | nil => intro _; rfl
  | cons x l ih =>
    intro h
    have hx := h x (List.mem_cons_self ..)
    unfold isY at hx
    simp only [numL, List.length_cons, digs]
    rw [show (x + 256 * numL l) % 256 = x from by omega, show (x + 256 * numL l) / 256 = numL l from by omega, ih (fun y hy => h y (List.mem_cons_of_mem _ hy))]

def okW (w : Int) : Prop := w = 1 ∨ w = 2 ∨ w = 4 ∨ w = 8
instance (w : Int) : Decidable (okW w) := by unfold okW; exact inferInstance
theorem okW_nat {w : Int} (h : okW w) : ∃ m : Nat, w = (m : Int) ∧ 1 ≤ m ∧ m ≤ 8 := ⟨w.toNat, by unfold okW at h; omega, by unfold okW at h; omega, by unfold okW at h; omega⟩
theorem width_eq (w : Int) : field_width.f w = some (decide (okW w)) := by
  unfold field_width.f okW
  by_cases h1 : w = 1
  · rw [if_pos h1]; simp [h1]
  rw [if_neg h1]
  by_cases h2 : w = 2
  · rw [if_pos h2]; simp [h2]
  rw [if_neg h2]
  by_cases h3 : w = 4
  · rw [if_pos h3]; simp [h3]
  rw [if_neg h3]
  by_cases h4 : w = 8
  · rw [if_pos h4]; simp [h4]
  · rw [if_neg h4]; simp [h1, h2, h3, h4]
def isU (n : Int) : Prop := 0 ≤ n ∧ n ≤ 18446744073709551615
def putF (w n : Int) : ByteArray × Int := if okW w ∧ n / 256 ^ w.toNat = 0 then (strOfNums (digs n w.toNat), 0) else (⟨#[]⟩, 1)
theorem shr_eq (n : Int) (i : Nat) (hi : i ≤ 8) : shr .u64 n ((8 * i : Nat) : Int) = n / 256 ^ i := by
  unfold shr
  rw [Int.toNat_natCast, Nat.min_eq_left (by simp [IntKind.bits]; omega), Int.pow_mul]
  rfl
theorem put_l0 (n : Int) (m : Nat) (hm : m ≤ 8) : ∀ (d i k : Nat) (acc : List Int), i + d = m → acc.length + d ≤ 1000 → d < k → field_put.l0 k acc n (m : Int) (i : Int) = some (acc ++ digs (n / 256 ^ i) d) := by
  intro d
  induction d with
  | zero =>
    intro i k acc hi ha hk
    obtain ⟨k, rfl⟩ : ∃ m, k = m + 1 := ⟨k - 1, by omega⟩
    simp only [field_put.l0]
    rw [if_neg (by omega)]
    simp [digs]
  | succ d ih =>
    intro i k acc hi ha hk
    obtain ⟨k, rfl⟩ : ∃ m, k = m + 1 := ⟨k - 1, by omega⟩
    have h1 : (i : Int) < (m : Int) := by omega
    have h2 : (0 : Int) ≤ ((8 * i : Nat) : Int) := Int.natCast_nonneg _
    have h3 : acc.length < 140737488355328 := by omega
    have ih' := ih (i + 1) k (acc ++ [n / 256 ^ i % 256]) (by omega) (by simp; omega) (by omega)
    have e1 : wrap64 (8 * (i : Int)) = ((8 * i : Nat) : Int) := by unfold wrap64; omega
    have e2 : wrap64 ((i : Int) + 1) = ((i + 1 : Nat) : Int) := by unfold wrap64; omega
    simp only [field_put.l0]
    rw [if_pos h1, e1, if_pos h2, if_pos h3, shr_eq n i (by omega), e2, ih', List.append_assoc, List.singleton_append]
    simp only [digs]
    rw [Int.ediv_ediv_of_nonneg (Int.le_of_lt (pow256_pos i)), ← Int.pow_succ]
theorem put_eq {w n : Int} (hn : isU n) (k : Nat) (hk : 20 ≤ k) : field_Put.f k w n = some (putF w n) := by
  unfold field_Put.f
  rw [width_eq]
  simp only [Option.bind_some]
  by_cases hw : okW w
  · rw [decide_eq_true hw, if_pos rfl]
    obtain ⟨m, rfl, hm1, hm8⟩ := okW_nat hw
    have hp : field_put.f k [] (m : Int) n = some (digs n m) := by
      unfold field_put.f
      have := put_l0 n m hm8 m 0 k [] (by omega) (by simp; omega) (by omega)
      simpa using this
    have e1 : wrap64 (8 * (m : Int)) = ((8 * m : Nat) : Int) := by unfold wrap64; omega
    rw [hp, e1]
    unfold putF
    rw [Int.toNat_natCast]
    by_cases h8 : (m : Int) < 8
    · rw [if_pos h8, if_pos (Int.natCast_nonneg _), shr_eq n m (by omega)]
      by_cases h0 : n / 256 ^ m = 0
      · rw [if_pos h0, if_pos ⟨hw, h0⟩]; rfl
      · rw [if_neg h0, if_neg (fun h => h0 h.2)]
    · rw [if_neg h8]
      obtain rfl : m = 8 := by omega
      have h0 : n / 256 ^ 8 = 0 := by unfold isU at hn; rw [show (256 : Int) ^ 8 = 18446744073709551616 from rfl]; omega
      rw [if_pos ⟨hw, h0⟩]; rfl
  · rw [decide_eq_false hw]
    unfold putF
    rw [if_neg (fun h : okW w ∧ n / 256 ^ w.toNat = 0 => hw h.1)]; rfl
def numN (s : ByteArray) (i d : Nat) : Int := numL (((bytesOf s).drop i).take d)
theorem numN_succ (s : ByteArray) (i d : Nat) (h : i < s.size) : numN s i (d + 1) = bt s i + 256 * numN s (i + 1) d := by
  have hl : i < (bytesOf s).length := by rw [bytesOf_length]; exact h
  unfold numN
  rw [List.drop_eq_getElem_cons hl, List.take_succ_cons]
  simp only [numL]
  rw [bt_get, List.getD_eq_getElem?_getD, List.getElem?_eq_getElem hl]; rfl
theorem numN_range (s : ByteArray) (i d : Nat) (h : i + d ≤ s.size) : 0 ≤ numN s i d ∧ numN s i d < 256 ^ d := by
  have hl : (((bytesOf s).drop i).take d).length = d := by simp [bytesOf_length]; omega
  have := numL_range (((bytesOf s).drop i).take d) (fun x hx => bytesOf_isY s x (List.mem_of_mem_drop (List.mem_of_mem_take hx)))
  rw [hl] at this
  exact this
def getF (w : Int) (s : ByteArray) : Int × Int := if okW w then (if (s.size : Int) < w then (0, 5) else (numN s 0 w.toNat, 0)) else (0, 1)
theorem pow256_le8 (d : Nat) (h : d ≤ 8) : (256 : Int) ^ d ≤ 18446744073709551616 := by
  rcases (by omega : d = 0 ∨ d = 1 ∨ d = 2 ∨ d = 3 ∨ d = 4 ∨ d = 5 ∨ d = 6 ∨ d = 7 ∨ d = 8) with rfl | rfl | rfl | rfl | rfl | rfl | rfl | rfl | rfl <;> decide
theorem get_l0 (s : ByteArray) (m : Nat) (hm : m ≤ 8) (hs : m ≤ s.size) : ∀ (d i k : Nat) (v : Int), i + d = m → 0 ≤ v → v < 256 ^ i → d < k → field_Get.l0 k s v (m : Int) (i : Int) = some (v + 256 ^ i * numN s i d, 0) := by
  intro d
  induction d with
  | zero =>
    intro i k v hi h0 hv hk
    obtain ⟨k, rfl⟩ : ∃ m, k = m + 1 := ⟨k - 1, by omega⟩
    have h1 : ¬ (i : Int) < (m : Int) := by omega
    simp only [field_Get.l0]
    rw [if_neg h1]
    simp [numN, numL]
  | succ d ih =>
    intro i k v hi h0 hv hk
    obtain ⟨k, rfl⟩ : ∃ m, k = m + 1 := ⟨k - 1, by omega⟩
    have h1 : (i : Int) < (m : Int) := by omega
    have h2 : (i : Int) < (s.size : Int) := by omega
    have hi0 : (0 : Int) ≤ (i : Int) := by omega
    have h4 : (0 : Int) ≤ ((8 * i : Nat) : Int) := Int.natCast_nonneg _
    have hr := bt_range s i
    have hpi : (256 : Int) ^ (i + 1) ≤ 18446744073709551616 := pow256_le8 _ (by omega)
    have hp1 : (256 : Int) ^ (i + 1) = 256 ^ i * 256 := Int.pow_succ ..
    have hpos := pow256_pos i
    have hmul : 256 ^ i * bt s i ≤ 256 ^ i * 255 := Int.mul_le_mul_of_nonneg_left hr.2 (Int.le_of_lt hpos)
    have hmul0 : 0 ≤ 256 ^ i * bt s i := Int.mul_nonneg (Int.le_of_lt hpos) hr.1
    have hnew : v + 256 ^ i * bt s i < 256 ^ (i + 1) := by rw [hp1]; omega
    have ih' := ih (i + 1) k (v + 256 ^ i * bt s i) (by omega) (by omega) hnew (by omega)
    have e3 : shl .u64 (IntKind.u64.wrap (bt s i)) ((8 * i : Nat) : Int) = 256 ^ i * bt s i := by
      unfold shl
      rw [Int.toNat_natCast, Nat.min_eq_left (by simp [IntKind.bits]; omega), IntKind.wrap_u64, IntKind.wrap_u64, Int.pow_mul, show ((2 : Int) ^ 8) = 256 from rfl, Int.emod_eq_of_lt hr.1 (by omega), Int.mul_comm, Int.emod_eq_of_lt hmul0 (by omega)]
    have e5 : Go.bits .or .u64 v (256 ^ i * bt s i) = v + 256 ^ i * bt s i := by
      have ep : (256 : Int) ^ i = ((2 ^ (8 * i) : Nat) : Int) := by
        rw [Nat.pow_mul, Int.natCast_pow]; rfl
      have hor := or_add (8 * i)
      clear e3 ih ih'
      rw [ep] at hv hnew ⊢
      generalize 2 ^ (8 * i) = P at *
      obtain ⟨vn, rfl⟩ := Int.eq_ofNat_of_zero_le h0
      obtain ⟨bn, hb⟩ := Int.eq_ofNat_of_zero_le hr.1
      rw [hb] at hnew ⊢
      have hv' : vn < P := by omega
      have hn2 : ((vn + P * bn : Nat) : Int) < 18446744073709551616 := by
        rw [Int.natCast_add, Int.natCast_mul]; omega
      have := hor vn bn hv' (by omega)
      rw [Int.natCast_add, Int.natCast_mul] at this
      exact this
    have hsz : i < s.size := by omega
    have e1 : wrap64 (8 * (i : Int)) = ((8 * i : Nat) : Int) := by unfold wrap64; omega
    have e2 : wrap64 ((i : Int) + 1) = ((i + 1 : Nat) : Int) := by unfold wrap64; omega
    simp only [field_Get.l0]
    rw [if_pos h1, if_pos hi0, if_pos h2, e1, if_pos h4, e3, e5, e2, ih', numN_succ s i d hsz, hp1, Int.mul_add, ← Int.mul_assoc, Int.add_assoc]
theorem get_eq (w : Int) (s : ByteArray) (k : Nat) (hk : 20 ≤ k) : field_Get.f k w s = some (getF w s) := by
  unfold field_Get.f
  rw [width_eq]
  simp only [Option.bind_some]
  by_cases hw : okW w
  · rw [decide_eq_true hw, if_pos rfl]
    obtain ⟨m, rfl, hm1, hm8⟩ := okW_nat hw
    unfold getF
    rw [if_pos hw]
    by_cases h : (s.size : Int) < (m : Int)
    · rw [if_pos h, if_pos h]
    · rw [if_neg h, if_neg h]
      have := get_l0 s m hm8 (by omega) m 0 k 0 (by omega) (Int.le_refl _) (by decide) (by omega)
      rw [show ((0 : Nat) : Int) = 0 from rfl] at this
      rw [this, Int.toNat_natCast]
      simp
  · rw [decide_eq_false hw]
    unfold getF
    rw [if_neg hw]; rfl
def allF : List Int → ByteArray → List Int → List Int × ByteArray × Int
  | [], s, acc => (acc, s, 0)
  | w :: ws, s, acc => if (getF w s).2 = 0 then allF ws (s.extract w.toNat s.size) (acc ++ [(getF w s).1]) else ([], ⟨#[]⟩, (getF w s).2)
theorem getF_ok {w : Int} {s : ByteArray} (h : (getF w s).2 = 0) : okW w ∧ w.toNat ≤ s.size ∧ (getF w s).1 = numN s 0 w.toNat := by
  unfold getF at h ⊢
  by_cases hw : okW w
  · rw [if_pos hw] at h ⊢
    obtain ⟨m, rfl, hm1, hm8⟩ := okW_nat hw
    by_cases hs : (s.size : Int) < (m : Int)
    · rw [if_pos hs] at h; exact absurd h (by decide)
    · rw [if_neg hs] at h ⊢; exact ⟨hw, by rw [Int.toNat_natCast]; omega, rfl⟩
  · rw [if_neg hw] at h; exact absurd h (by decide)
theorem extract_size (s : ByteArray) (i : Nat) : (s.extract i s.size).size = s.size - i := by
  rw [← bytesOf_length, bytesOf_extract, List.length_drop, bytesOf_length]
theorem rd_drop (ws : List Int) (i : Nat) (h : i < ws.length) : ws.drop i = rd ws (i : Int) :: ws.drop (i + 1) := by
  rw [List.drop_eq_getElem_cons h]
  congr 1
  unfold rd
  rw [Int.toNat_natCast, List.getD_eq_getElem?_getD, List.getElem?_eq_getElem h]; rfl
def joinF : List Int → List Int → ByteArray → ByteArray × Int
  | w :: ws, v :: vs, b => if (putF w v).2 = 0 then joinF ws vs (b ++ (putF w v).1) else (⟨#[]⟩, (putF w v).2)
  | _, _, b => (b, 0)
theorem putF_size (w v : Int) : (putF w v).1.size ≤ 8 := by
  unfold putF
  split
  · rename_i h
    obtain ⟨m, rfl, _, hm8⟩ := okW_nat h.1
    show (strOfNums _).size ≤ 8
    rw [son_size, digs_length]; omega
  · decide
def joinT (ws vs : List Int) : ByteArray × Int := if ws.length = vs.length then joinF ws vs ⟨#[]⟩ else (⟨#[]⟩, 2)
theorem all_l0 (ws : List Int) (hlen : ws.length ≤ 1000) : ∀ (d i k : Nat) (s : ByteArray) (acc : List Int), i + d = ws.length → acc.length + d ≤ 1000 → d + 20 < k → field_All.l0 k s acc ws (ws.length : Int) (i : Int) = some (allF (ws.drop i) s acc) := by
  intro d
  induction d with
  | zero =>
    intro i k s acc hi ha hk
    obtain ⟨k, rfl⟩ : ∃ m, k = m + 1 := ⟨k - 1, by omega⟩
    have h1 : ¬ (i : Int) < (ws.length : Int) := by omega
    simp only [field_All.l0]
    rw [if_neg h1, List.drop_of_length_le (by omega)]; rfl
  | succ d ih =>
    intro i k s acc hi ha hk
    obtain ⟨k, rfl⟩ : ∃ m, k = m + 1 := ⟨k - 1, by omega⟩
    have h1 : (i : Int) < (ws.length : Int) := by omega
    have h0 : (0 : Int) ≤ (i : Int) := by omega
    have h3 : acc.length < 17592186044416 := by omega
    have hg := get_eq (rd ws (i : Int)) s k (by omega)
    have hd := rd_drop ws i (by omega)
    have hi' : i + 1 + d = ws.length := by omega
    have ha' : ∀ x : Int, (acc ++ [x]).length + d ≤ 1000 := fun x => by simp; omega
    have hk' : d + 20 < k := by omega
    have e2 : wrap64 ((i : Int) + 1) = ((i + 1 : Nat) : Int) := by unfold wrap64; omega
    simp only [field_All.l0]
    rw [if_pos h1, if_pos h0, if_pos h1, hg, hd]
    simp only [Option.bind_some, allF]
    by_cases hz : (getF (rd ws (i : Int)) s).2 = 0
    · obtain ⟨hw, hsz, _⟩ := getF_ok hz
      obtain ⟨m, hm, hm1, hm8⟩ := okW_nat hw
      have h5 : 0 ≤ rd ws (i : Int) := by rw [hm]; omega
      have h6 : rd ws (i : Int) ≤ (s.size : Int) := by rw [hm] at hsz ⊢; rw [Int.toNat_natCast] at hsz; omega
      rw [if_pos hz, if_pos h3, if_pos h5, if_pos h6, e2, ih (i + 1) k _ _ hi' (ha' _) hk', if_pos hz]
    · rw [if_neg hz, if_neg hz]
theorem all_eq (s : ByteArray) (ws : List Int) (hlen : ws.length ≤ 500) (k : Nat) (hk : 1000 ≤ k) : field_All.f k s ws = some (allF ws s []) := by
  have := all_l0 ws (by omega) ws.length 0 k s [] (by omega) (by simp; omega) (by omega)
  simpa [field_All.f] using this
theorem join_l0 (ws vs : List Int) (hlen : ws.length ≤ 1000) (hl2 : vs.length = ws.length) (hv : ∀ v ∈ vs, isU v) : ∀ (d i k : Nat) (acc : List Int), i + d = ws.length → acc.length + 8 * d ≤ 10000 → d + 20 < k → field_Join.l0 k vs acc ws (ws.length : Int) (i : Int) = some (joinF (ws.drop i) (vs.drop i) (strOfNums acc)) := by
  intro d
  induction d with
  | zero =>
    intro i k acc hi ha hk
    obtain ⟨k, rfl⟩ : ∃ m, k = m + 1 := ⟨k - 1, by omega⟩
    have h1 : ¬ (i : Int) < (ws.length : Int) := by omega
    simp only [field_Join.l0]
    rw [if_neg h1, List.drop_of_length_le (by omega)]; rfl
  | succ d ih =>
    intro i k acc hi ha hk
    obtain ⟨k, rfl⟩ : ∃ m, k = m + 1 := ⟨k - 1, by omega⟩
    have h1 : (i : Int) < (ws.length : Int) := by omega
    have h0 : (0 : Int) ≤ (i : Int) := by omega
    have h4 : (i : Int) < (vs.length : Int) := by omega
    have hu : isU (rd vs (i : Int)) := by
      have hlt : i < vs.length := by omega
      unfold rd
      rw [Int.toNat_natCast, List.getD_eq_getElem?_getD, List.getElem?_eq_getElem hlt]
      exact hv _ (List.getElem_mem hlt)
    have hg := put_eq (w := rd ws (i : Int)) hu k (by omega)
    have hd := rd_drop ws i (by omega)
    have hd2 := rd_drop vs i (by omega)
    have hps := putF_size (rd ws (i : Int)) (rd vs (i : Int))
    have h3 : acc.length + (putF (rd ws (i : Int)) (rd vs (i : Int))).1.size < 140737488355328 := by omega
    have hi' : i + 1 + d = ws.length := by omega
    have ha' : (acc ++ bytesOf (putF (rd ws (i : Int)) (rd vs (i : Int))).1).length + 8 * d ≤ 10000 := by rw [List.length_append, bytesOf_length]; omega
    have hk' : d + 20 < k := by omega
    have e2 : wrap64 ((i : Int) + 1) = ((i + 1 : Nat) : Int) := by unfold wrap64; omega
    simp only [field_Join.l0]
    rw [if_pos h1, if_pos h0, if_pos h1, if_pos h4, hg, hd, hd2]
    simp only [Option.bind_some, joinF]
    by_cases hz : (putF (rd ws (i : Int)) (rd vs (i : Int))).2 = 0
    · rw [if_pos hz, if_pos h3, e2, ih (i + 1) k _ hi' ha' hk', if_pos hz, strOfNums_append, strOfNums_bytesOf]
    · rw [if_neg hz, if_neg hz]
theorem join_eq (ws vs : List Int) (hlen : ws.length ≤ 500) (hv : ∀ v ∈ vs, isU v) (k : Nat) (hk : 1000 ≤ k) : field_Join.f k ws vs = some (joinT ws vs) := by
  unfold field_Join.f joinT
  by_cases h : ws.length = vs.length
  · rw [if_pos (by omega), if_pos h]
    exact join_l0 ws vs (by omega) h.symm hv ws.length 0 k [] (by omega) (by simp; omega) (by omega)
  · rw [if_neg (by omega), if_neg h]
theorem allF_length : ∀ (ws : List Int) (s : ByteArray) (acc : List Int), (allF ws s acc).2.2 = 0 → (allF ws s acc).1.length = acc.length + ws.length := by
  intro ws
  induction ws with
  | nil => intro s acc _; rfl
  | cons w ws ih =>
    intro s acc h
    simp only [allF] at h ⊢
    by_cases hz : (getF w s).2 = 0
    · rw [if_pos hz] at h ⊢
      rw [ih _ _ h]; simp; omega
    · rw [if_neg hz] at h; exact absurd h hz
theorem putF_ok {w v : Int} (h : (putF w v).2 = 0) : okW w ∧ v / 256 ^ w.toNat = 0 ∧ (putF w v).1 = strOfNums (digs v w.toNat) := by
  unfold putF at h ⊢
  by_cases hc : okW w ∧ v / 256 ^ w.toNat = 0
  · rw [if_pos hc]; exact ⟨hc.1, hc.2, rfl⟩
  · rw [if_neg hc] at h; exact absurd h (by decide)
theorem put_get {w v : Int} (h : (putF w v).2 = 0) (rest : ByteArray) : getF w ((putF w v).1 ++ rest) = (v, 0) ∧ ((putF w v).1 ++ rest).extract w.toNat ((putF w v).1 ++ rest).size = rest := by
  obtain ⟨hw, hv, hp⟩ := putF_ok h
  rw [hp]
  have hb : bytesOf (strOfNums (digs v w.toNat)) = digs v w.toNat := bytesOf_strOfNums (digs_isY _ _)
  have hlen : (digs v w.toNat).length = w.toNat := digs_length _ _
  have hsz : (strOfNums (digs v w.toNat) ++ rest).size = w.toNat + rest.size := by rw [ByteArray.size_append, son_size, hlen]
  constructor
  · unfold getF
    obtain ⟨m, hm, hm1, hm8⟩ := okW_nat hw
    rw [if_pos hw, if_neg (by rw [hsz]; rw [hm, Int.toNat_natCast]; omega)]
    unfold numN
    rw [bytesOf_append, hb, List.drop_zero, List.take_left' hlen, numL_digs _ _ hv]
  · apply bytesOf_inj
    rw [bytesOf_extract, bytesOf_append, hb, List.drop_left' hlen]
theorem join_all : ∀ (ws vs : List Int) (b s : ByteArray), ws.length = vs.length → joinF ws vs b = (s, 0) → ∃ t, s = b ++ t ∧ ∀ rest acc, allF ws (t ++ rest) acc = (acc ++ vs, rest, 0) := by
  intro ws
  induction ws with
  | nil =>
    intro vs b s hl hj
    obtain rfl : vs = [] := List.eq_nil_of_length_eq_zero hl.symm
    simp only [joinF, Prod.mk.injEq, and_true] at hj
    subst hj
    exact ⟨⟨#[]⟩, (append_empty b).symm, fun rest acc => by rw [empty_append, List.append_nil]; rfl⟩
  | cons w ws ih =>
    intro vs b s hl hj
    match vs, hl with
    | v :: vs, hl =>
    simp only [joinF] at hj
    by_cases hz : (putF w v).2 = 0
    · rw [if_pos hz] at hj
      obtain ⟨t, rfl, ht⟩ := ih vs _ s (by simpa using hl) hj
      refine ⟨(putF w v).1 ++ t, by rw [bapp_assoc], fun rest acc => ?_⟩
      obtain ⟨g1, g2⟩ := put_get hz (t ++ rest)
      simp only [allF]
      rw [bapp_assoc, g1, if_pos rfl, g2, ht, List.append_assoc]; rfl
    · rw [if_neg hz] at hj
      exact absurd (congrArg Prod.snd hj) hz
theorem get_put {w : Int} {s : ByteArray} (h : (getF w s).2 = 0) : putF w (getF w s).1 = (strOfNums ((bytesOf s).take w.toNat), 0) ∧ strOfNums ((bytesOf s).take w.toNat) ++ s.extract w.toNat s.size = s ∧ 0 ≤ (getF w s).1 ∧ (getF w s).1 < 256 ^ w.toNat ∧ w.toNat ≤ 8 ∧ ((bytesOf s).take w.toNat).length = w.toNat := by
  obtain ⟨hw, hs, hg⟩ := getF_ok h
  obtain ⟨m, hm, hm1, hm8⟩ := okW_nat hw
  have hlen : ((bytesOf s).take w.toNat).length = w.toNat := by rw [List.length_take, bytesOf_length]; omega
  have hY : ∀ x ∈ (bytesOf s).take w.toNat, isY x := fun x hx => bytesOf_isY s x (List.mem_of_mem_take hx)
  have hr := numL_range _ hY
  rw [hlen] at hr
  have hd := digs_numL _ hY
  rw [hlen] at hd
  rw [hg]
  unfold numN
  rw [List.drop_zero]
  refine ⟨?_, ?_, hr.1, hr.2, by omega, hlen⟩
  · unfold putF
    rw [if_pos ⟨hw, Int.ediv_eq_zero_of_lt hr.1 hr.2⟩, hd]
  · apply bytesOf_inj
    rw [bytesOf_append, bytesOf_strOfNums hY, bytesOf_extract, List.take_append_drop]
theorem all_join : ∀ (ws : List Int) (s : ByteArray) (acc r : List Int) (rest : ByteArray), allF ws s acc = (r, rest, 0) → ∃ vs, r = acc ++ vs ∧ vs.length = ws.length ∧ (∀ v ∈ vs, isU v) ∧ (∀ m : Int, (∀ w ∈ ws, w = m) → ∀ v ∈ vs, 0 ≤ v ∧ v < 256 ^ m.toNat) ∧ ∃ t : ByteArray, t.size = (ws.map Int.toNat).sum ∧ (∀ b, joinF ws vs b = (b ++ t, 0)) ∧ t ++ rest = s := by
  intro ws
  induction ws with
  | nil =>
    intro s acc r rest h
    simp only [allF, Prod.mk.injEq, and_true] at h
    obtain ⟨rfl, rfl⟩ := h
    exact ⟨[], by simp, rfl, by simp, by simp, ⟨#[]⟩, rfl, fun b => by simp only [joinF]; rw [append_empty], empty_append s⟩
  | cons w ws ih =>
    intro s acc r rest h
    simp only [allF] at h
    by_cases hz : (getF w s).2 = 0
    · rw [if_pos hz] at h
      obtain ⟨vs, rfl, hl, hu, hm, t, hsz, hj, ht⟩ := ih _ _ _ _ h
      obtain ⟨g1, g2, g3, g4, g5, g6⟩ := get_put hz
      refine ⟨(getF w s).1 :: vs, by simp, by simp [hl], ?_, ?_, strOfNums ((bytesOf s).take w.toNat) ++ t, ?_, fun b => ?_, ?_⟩
      · intro v hv
        rcases List.mem_cons.1 hv with rfl | hv
        · have := pow256_le8 w.toNat g5
          unfold isU; omega
        · exact hu v hv
      · intro m hm' v hv
        rcases List.mem_cons.1 hv with rfl | hv
        · rw [← hm' w (List.mem_cons_self ..)]; exact ⟨g3, g4⟩
        · exact hm m (fun w' hw' => hm' w' (List.mem_cons_of_mem _ hw')) v hv
      · rw [ByteArray.size_append, son_size, g6, hsz]; simp
      · simp only [joinF]
        rw [g1]
        simp only [if_true]
        rw [hj, bapp_assoc]
      · rw [bapp_assoc, ht, g2]
    · rw [if_neg hz] at h
      exact absurd (congrArg (fun x => x.2.2) h) hz
theorem allF_fail : ∀ (ws : List Int) (s : ByteArray) (acc : List Int), (allF ws s acc).2.2 ≠ 0 → (allF ws s acc).1 = [] := by
  intro ws
  induction ws with
  | nil => intro s acc h; exact absurd rfl h
  | cons w ws ih =>
    intro s acc h
    simp only [allF] at h ⊢
    by_cases hz : (getF w s).2 = 0
    · rw [if_pos hz] at h ⊢; exact ih _ _ h
    · rw [if_neg hz]
theorem joinF_size : ∀ (ws vs : List Int) (b : ByteArray), (joinF ws vs b).1.size ≤ b.size + 8 * ws.length := by
  intro ws
  induction ws with
  | nil => intro vs b; cases vs <;> simp [joinF]
  | cons w ws ih =>
    intro vs b
    cases vs with
    | nil => simp [joinF]
    | cons v vs =>
      simp only [joinF]
      split
      · have := ih vs (b ++ (putF w v).1)
        rw [ByteArray.size_append] at this
        have h8 := putF_size w v
        simp only [List.length_cons]; omega
      · show (⟨#[]⟩ : ByteArray).size ≤ _
        exact Nat.zero_le _
theorem joinT_size (ws vs : List Int) : (joinT ws vs).1.size ≤ 8 * ws.length := by
  unfold joinT
  split
  · have := joinF_size ws vs ⟨#[]⟩
    rw [show (⟨#[]⟩ : ByteArray).size = 0 from rfl] at this
    omega
  · exact Nat.zero_le _
/-! ### zeros: packing -/
theorem ex_take (s : ByteArray) (n : Nat) : (s.extract 0 n).data.toList = s.data.toList.take n := by
  rw [ByteArray.data_extract]
  simp
theorem ex_drop (s : ByteArray) (n : Nat) : (s.extract n s.size).data.toList = s.data.toList.drop n := Lib.extract_to_end s n
theorem size_list (s : ByteArray) : s.data.toList.length = s.size := rfl
theorem fM_eq (s : ByteArray) : fM s = min s.data.toList.length 65535 := rfl
theorem mem_tw {α : Type} (p : α → Bool) (l : List α) : ∀ b ∈ l.takeWhile p, p b = true := by
  induction l with
  | nil => intro b hb; simp at hb
  | cons a l ih =>
    intro b hb
    by_cases h : p a = true
    · rw [List.takeWhile_cons_of_pos h] at hb
      rcases List.mem_cons.1 hb with rfl | hb
      · exact h
      · exact ih b hb
    · rw [List.takeWhile_cons_of_neg h] at hb
      simp at hb
/-- The bytes 00 ahead. -/
theorem fZ_spec (s : ByteArray) : fZ s ≤ fM s ∧ s.data.toList.take (fZ s) = List.replicate (fZ s) 0 ∧ (fZ s < fM s → s.data.toList[fZ s]? ≠ some 0) := by
  obtain ⟨l, hl⟩ : ∃ l, l = s.data.toList := ⟨_, rfl⟩
  have hm : fM s ≤ l.length := by rw [fM_eq, ← hl]; omega
  have hT : (fT s).size = ((l.take (fM s)).dropWhile (· == 0)).length := by
    show (Lib.trimLeftB (s.extract 0 (fM s)).data.toList 0).length = _
    unfold Lib.trimLeftB
    rw [ex_take, ← hl]
  have hsum := congrArg List.length (List.takeWhile_append_dropWhile (p := (· == (0 : UInt8))) (l := l.take (fM s)))
  rw [List.length_append, List.length_take, Nat.min_eq_left hm] at hsum
  have hz : fZ s = ((l.take (fM s)).takeWhile (· == 0)).length := by unfold fZ; rw [hT]; omega
  have happ : (l.take (fM s)).takeWhile (· == (0 : UInt8)) ++ (l.take (fM s)).dropWhile (· == 0) = l.take (fM s) := List.takeWhile_append_dropWhile
  have hle : fZ s ≤ fM s := by omega
  rw [← hl]
  have ht : l.take (fZ s) = (l.take (fM s)).takeWhile (· == 0) := by
    have : l.take (fZ s) = (l.take (fM s)).take (fZ s) := by rw [List.take_take, Nat.min_eq_left hle]
    rw [this, ← happ, hz, List.take_left]
    rw [happ]
  refine ⟨hle, ?_, fun hlt => ?_⟩
  · rw [ht, hz]
    refine List.eq_replicate_iff.2 ⟨rfl, fun b hb => ?_⟩
    have := mem_tw _ _ b hb
    simpa using this
  · have hne : (l.take (fM s)).dropWhile (· == (0 : UInt8)) ≠ [] := by
      intro e
      rw [e] at hsum
      simp at hsum
      omega
    have e1 : l[fZ s]? = (l.take (fM s))[fZ s]? := by rw [List.getElem?_take, if_pos hlt]
    rw [e1, ← happ, hz, List.getElem?_append_right (Nat.le_refl _), Nat.sub_self]
    have hh := List.head?_dropWhile_not (· == (0 : UInt8)) (l.take (fM s))
    cases hd : (l.take (fM s)).dropWhile (· == (0 : UInt8)) with
    | nil => exact absurd hd hne
    | cons b t =>
      rw [hd] at hh
      simp at hh
      simp [hh]
theorem index_hit (sub : List UInt8) : ∀ s : List UInt8, 0 ≤ Lib.index s sub → Lib.occAt s sub (Lib.index s sub).toNat = true ∧ (Lib.index s sub).toNat ≤ s.length
  | [], h => by
    unfold Lib.index at h ⊢
    by_cases e : sub.isEmpty = true
    · rw [if_pos e]
      unfold Lib.occAt
      rw [List.isEmpty_iff.1 e]
      simp
    · rw [if_neg e] at h; omega
  | b :: l, h => by
    unfold Lib.index at h ⊢
    by_cases e : sub.isPrefixOf (b :: l) = true
    · rw [if_pos e]
      exact ⟨by unfold Lib.occAt; exact e, by simp⟩
    · rw [if_neg e] at h ⊢
      by_cases e2 : (Lib.index l sub == -1) = true
      · rw [if_pos e2] at h; omega
      · rw [if_neg e2] at h ⊢
        have hg := Lib.index_ge l sub
        have hne : Lib.index l sub ≠ -1 := by simpa using e2
        obtain ⟨h1, h2⟩ := index_hit sub l (by omega)
        rw [show (Lib.index l sub + 1).toNat = (Lib.index l sub).toNat + 1 from by omega]
        refine ⟨?_, by simp only [List.length_cons]; omega⟩
        unfold Lib.occAt at h1 ⊢
        rw [List.drop_succ_cons]
        exact h1
def fB (s : ByteArray) : ByteArray := (fS s).extract 0 (fN s)
def fR (s : ByteArray) : ByteArray := (fS s).extract (fN s) (fS s).size
theorem fS_list (s : ByteArray) : (fS s).data.toList = s.data.toList.drop (fZ s) := ex_drop s _
theorem fS_size (s : ByteArray) : (fS s).size = s.size - fZ s := by rw [← size_list, fS_list, List.length_drop, size_list]
theorem fZ_le (s : ByteArray) : fZ s ≤ s.size ∧ fZ s ≤ 65535 := by have := (fZ_spec s).1; unfold fM at this; omega
theorem fN_le (s : ByteArray) : fN s ≤ (fS s).size ∧ fN s ≤ 65535 := by unfold fN; split <;> omega
theorem fB_size (s : ByteArray) : (fB s).size = fN s := by rw [← size_list]; unfold fB; rw [ex_take, List.length_take, size_list]; have := fN_le s; omega
theorem fR_size (s : ByteArray) : (fR s).size = s.size - fZ s - fN s := by rw [← size_list]; unfold fR; rw [ex_drop, List.length_drop, size_list, fS_size]
theorem bytes_map (s : ByteArray) : bytesOf s = s.data.toList.map fun x => ((x.toNat : Nat) : Int) := rfl
theorem whole_eq (s : ByteArray) : bytesOf s = List.replicate (fZ s) 0 ++ (bytesOf (fB s) ++ bytesOf (fR s)) := by
  rw [bytes_map s, bytes_map (fB s), bytes_map (fR s)]
  unfold fB fR
  rw [ex_take, ex_drop, ← List.map_append, List.take_append_drop, fS_list]
  have := (fZ_spec s).2.1
  conv => lhs; rw [← List.take_append_drop (fZ s) s.data.toList]
  rw [List.map_append, this, List.map_replicate]
  rfl
theorem fR_lt (s : ByteArray) (h : 0 < s.size) : (fR s).size < s.size := by
  rw [fR_size]
  have h1 := fZ_le s
  by_cases hz : fZ s = 0
  · have hm : fZ s < fM s := by unfold fM; omega
    have h0 := (fZ_spec s).2.2 hm
    have hs : (fS s).data.toList = s.data.toList := by rw [fS_list, hz, List.drop_zero]
    have hsz : (fS s).size = s.size := by rw [fS_size, hz]; omega
    have hn : 0 < fN s := by
      unfold fN
      by_cases hp : 0 ≤ fI s
      · rw [if_pos hp]
        have hne : (fI s).toNat ≠ 0 := by
          intro e
          obtain ⟨ho, _⟩ := index_hit [0, 0, 0, 0] (fS s).data.toList hp
          rw [show (Lib.index (fS s).data.toList [0, 0, 0, 0]).toNat = 0 from e, hs] at ho
          rw [hz] at h0
          exact h0 (Lib.occAt_head rfl ho)
        omega
      · rw [if_neg hp]; omega
    omega
  · omega
/-- What is left begins with a row of bytes 00, or is nothing. -/
theorem fR_row (s : ByteArray) (h : s.size ≤ 65535) : (fR s).size = 0 ∨ Lib.occAt (fR s).data.toList [0, 0, 0, 0] 0 = true := by
  have h1 := fS_size s
  by_cases hp : 0 ≤ fI s
  · obtain ⟨ho, hle⟩ := index_hit [0, 0, 0, 0] (fS s).data.toList hp
    rw [size_list] at hle
    have hn : fN s = (fI s).toNat := by
      unfold fN
      rw [if_pos hp]
      have : (fI s).toNat ≤ (fS s).size := hle
      omega
    right
    unfold fR
    rw [ex_drop, hn]
    unfold Lib.occAt at ho ⊢
    rw [List.drop_zero]
    exact ho
  · left
    have hn : fN s = (fS s).size := by unfold fN; rw [if_neg hp]; omega
    rw [fR_size]; omega
theorem row_four (s : ByteArray) (h : Lib.occAt s.data.toList [0, 0, 0, 0] 0 = true) : 4 ≤ fZ s := by
  have hroom := (Lib.occAt_room h).resolve_right (by simp)
  simp only [List.length_cons, List.length_nil] at hroom
  rw [size_list] at hroom
  have hp : [0, 0, 0, 0] <+: s.data.toList := by
    unfold Lib.occAt at h
    rw [List.drop_zero] at h
    exact List.isPrefixOf_iff_prefix.1 h
  obtain ⟨t, ht⟩ := hp
  by_cases hlt : fZ s < 4
  · exfalso
    refine (fZ_spec s).2.2 (by unfold fM; omega) ?_
    rw [← ht]
    rcases (by omega : fZ s = 0 ∨ fZ s = 1 ∨ fZ s = 2 ∨ fZ s = 3) with e | e | e | e <;> rw [e] <;> rfl
  · omega
/-- The packed form. -/
def packN : Nat → ByteArray → List Int
  | 0, _ => []
  | k + 1, s => if s.size = 0 then [] else digs (fZ s : Int) 2 ++ (digs ((fB s).size : Int) 2 ++ (bytesOf (fB s) ++ packN k (fR s)))
def partsN : Nat → ByteArray → List S88
  | 0, _ => []
  | k + 1, s => if s.size = 0 then [] else ⟨(fZ s : Int), fB s⟩ :: partsN k (fR s)
theorem packN_zero (n : Nat) {s : ByteArray} (h : s.size = 0) : packN n s = [] := by cases n with | zero => rfl | succ n => unfold packN; rw [if_pos h]
theorem partsN_zero (n : Nat) {s : ByteArray} (h : s.size = 0) : partsN n s = [] := by cases n with | zero => rfl | succ n => unfold partsN; rw [if_pos h]
theorem packN_isY : ∀ (n : Nat) (s : ByteArray), ∀ x ∈ packN n s, isY x
  | 0, s => fun x hx => by simp [packN] at hx
  | n + 1, s => fun x hx => by
    unfold packN at hx
    by_cases h : s.size = 0
    · rw [if_pos h] at hx; simp at hx
    · rw [if_neg h] at hx
      rcases List.mem_append.1 hx with hx | hx
      · exact digs_isY _ _ x hx
      · rcases List.mem_append.1 hx with hx | hx
        · exact digs_isY _ _ x hx
        · rcases List.mem_append.1 hx with hx | hx
          · exact bytesOf_isY _ x hx
          · exact packN_isY n (fR s) x hx
theorem packN_len : ∀ (n : Nat) (s : ByteArray), s.size ≤ n → (packN n s).length ≤ 5 * s.size
  | 0, s, h => by simp [packN]
  | n + 1, s, h => by
    unfold packN
    by_cases h0 : s.size = 0
    · rw [if_pos h0]; simp
    · rw [if_neg h0]
      have hr := fR_lt s (by omega)
      have ih := packN_len n (fR s) (by omega)
      have h1 := fR_size s
      have h2 := fB_size s
      have h3 := fZ_le s
      have h4 := fN_le s
      have h5 := fS_size s
      simp only [List.length_append, digs_length, bytesOf_length]
      omega
theorem packN_short : ∀ (n : Nat) (s : ByteArray), s.size ≤ n → s.size ≤ 65535 → (packN n s).length ≤ s.size + 4 ∧ (Lib.occAt s.data.toList [0, 0, 0, 0] 0 = true → (packN n s).length ≤ s.size)
  | 0, s, h, _ => by simp [packN]
  | n + 1, s, h, hs => by
    unfold packN
    by_cases h0 : s.size = 0
    · rw [if_pos h0]; simp
    · rw [if_neg h0]
      have hr := fR_lt s (by omega)
      obtain ⟨ih1, ih2⟩ := packN_short n (fR s) (by omega) (by omega)
      have h1 := fR_size s
      have h2 := fB_size s
      have h3 := fZ_le s
      have h4 := fN_le s
      have h5 := fS_size s
      have ih3 : (packN n (fR s)).length ≤ (fR s).size := by
        rcases fR_row s hs with e | e
        · rw [packN_zero n e]; simp
        · exact ih2 e
      simp only [List.length_append, digs_length, bytesOf_length]
      refine ⟨by omega, fun ho => ?_⟩
      have := row_four s ho
      omega
theorem flat_eq : ∀ (n : Nat) (s : ByteArray), s.size ≤ n → (partsN n s).flatMap (fun x => List.replicate x.f0.toNat 0 ++ bytesOf x.f1) = bytesOf s
  | 0, s, h => by
    have : bytesOf s = [] := List.eq_nil_of_length_eq_zero (by rw [bytesOf_length]; omega)
    rw [this]; rfl
  | n + 1, s, h => by
    unfold partsN
    by_cases h0 : s.size = 0
    · have : bytesOf s = [] := List.eq_nil_of_length_eq_zero (by rw [bytesOf_length]; omega)
      rw [if_pos h0, this]; rfl
    · rw [if_neg h0, List.flatMap_cons, flat_eq n (fR s) (by have := fR_lt s (by omega); omega), whole_eq s, Int.toNat_natCast, List.append_assoc]
theorem partsN_len : ∀ (n : Nat) (s : ByteArray), s.size ≤ n → (partsN n s).length ≤ s.size
  | 0, s, h => by simp [partsN]
  | n + 1, s, h => by
    unfold partsN
    by_cases h0 : s.size = 0
    · rw [if_pos h0]; simp
    · rw [if_neg h0]
      have hr := fR_lt s (by omega)
      have ih := partsN_len n (fR s) (by omega)
      simp only [List.length_cons]
      omega
/-! the program's Pack -/
theorem toList_nil (s : ByteArray) : s.toList = ([] : List UInt8) ↔ s.size = 0 := by
  rw [Lib.toList_data]
  constructor
  · intro h; rw [← size_list, h]; rfl
  · intro h; exact List.eq_nil_of_length_eq_zero (by rw [size_list]; exact h)
theorem uw (n : Nat) (h : n ≤ 65535) : IntKind.u64.wrap ((n : Nat) : Int) = (n : Int) := by rw [IntKind.wrap_u64]; omega
theorem put2 (n : Nat) (h : n ≤ 65535) : putF 2 (n : Int) = (strOfNums (digs (n : Int) 2), 0) := by
  unfold putF
  rw [if_pos ⟨.inr (.inl rfl), by show (n : Int) / 256 ^ 2 = 0; omega⟩]
  rfl
theorem join22 (a b : Nat) (ha : a ≤ 65535) (hb : b ≤ 65535) {k : Nat} (hk : 1000 ≤ k) : ∃ t, field_Join.f k ([2, 2] : List Int) ([(a : Int), (b : Int)] : List Int) = some (t, 0) ∧ bytesOf t = digs (a : Int) 2 ++ digs (b : Int) 2 := by
  rw [join_eq _ _ (by simp) (by intro v hv; simp at hv; unfold isU; omega) k hk]
  unfold joinT
  rw [if_pos (by rfl)]
  unfold joinF
  rw [put2 a ha, if_pos rfl]
  unfold joinF
  rw [put2 b hb, if_pos rfl]
  unfold joinF
  refine ⟨_, rfl, ?_⟩
  rw [bytesOf_append, bytesOf_append, bytesOf_strOfNums (digs_isY _ _), bytesOf_strOfNums (digs_isY _ _)]
  rfl
theorem first_eq (s : ByteArray) (h : s.size < 4294967281) : zeros_first.f s = some ((fZ s : Int), fB s, fR s) := if_pos h
/-- How a part, and what is left, are to the whole. -/
theorem part_sizes (s : ByteArray) (h : s.size ≠ 0) : fZ s ≤ 65535 ∧ (fB s).size ≤ 65535 ∧ (fR s).size < s.size ∧ fZ s + (fB s).size + (fR s).size = s.size := by
  have hr := fR_lt s (by omega)
  have h1 := fR_size s
  have h2 := fB_size s
  have h3 := fZ_le s
  have h4 := fN_le s
  have h5 := fS_size s
  generalize (fR s).size = r at *
  generalize (fB s).size = b at *
  generalize (fS s).size = t at *
  generalize fZ s = z at *
  generalize fN s = n at *
  generalize s.size = m at *
  omega
theorem packN_cons (n : Nat) (s : ByteArray) (h : s.size ≠ 0) : packN (n + 1) s = digs (fZ s : Int) 2 ++ (digs ((fB s).size : Int) 2 ++ (bytesOf (fB s) ++ packN n (fR s))) := by
  conv => lhs; unfold packN
  rw [if_neg h]
theorem partsN_cons (n : Nat) (s : ByteArray) (h : s.size ≠ 0) : partsN (n + 1) s = ⟨(fZ s : Int), fB s⟩ :: partsN n (fR s) := by
  conv => lhs; unfold partsN
  rw [if_neg h]
theorem pack_stop (k : Nat) (s : ByteArray) (acc : List Int) (h : s.size = 0) : zeros_Pack.l0 (k + 1) s acc = some (strOfNums acc, 0) := by
  unfold zeros_Pack.l0
  rw [if_pos ((toList_nil s).2 h)]
theorem pack_round (k z : Nat) (s b r : ByteArray) (acc : List Int) (h : s.size ≠ 0) (hf : zeros_first.f s = some ((z : Int), b, r)) (hz : z ≤ 65535) (hb : b.size ≤ 65535) (ha : acc.length ≤ 10000000000) (hk : 1000 ≤ k) :
    zeros_Pack.l0 (k + 1) s acc = zeros_Pack.l0 k r (acc ++ (digs (z : Int) 2 ++ (digs (b.size : Int) 2 ++ bytesOf b))) := by
  obtain ⟨t, ht, htb⟩ := join22 z b.size hz hb (k := k) hk
  have hts : t.size = 4 := by rw [← bytesOf_length, htb]; simp [digs_length]
  have hl : (acc ++ bytesOf t).length = acc.length + 4 := by rw [List.length_append, bytesOf_length, hts]
  conv => lhs; unfold zeros_Pack.l0
  rw [if_neg (fun e => h ((toList_nil s).1 e)), hf]
  simp only [Option.bind_some]
  rw [uw _ hz, uw _ hb, ht]
  simp only [Option.bind_some, if_true]
  rw [if_pos (by omega), if_pos (by omega), htb]
  simp only [List.append_assoc]
theorem pack_l (n : Nat) : ∀ (k : Nat) (s : ByteArray) (acc : List Int), s.size ≤ n → s.size ≤ 1048576 → acc.length + 5 * s.size ≤ 10000000000 → n + 1000 < k → zeros_Pack.l0 k s acc = some (strOfNums (acc ++ packN n s), 0) := by
  induction n with
  | zero =>
    intro k s acc hn hs ha hk
    obtain ⟨k, rfl⟩ : ∃ m, k = m + 1 := ⟨k - 1, by omega⟩
    rw [pack_stop k s acc (by omega), packN_zero 0 (by omega), List.append_nil]
  | succ n ih =>
    intro k s acc hn hs ha hk
    obtain ⟨k, rfl⟩ : ∃ m, k = m + 1 := ⟨k - 1, by omega⟩
    by_cases h0 : s.size = 0
    · rw [pack_stop k s acc h0, packN_zero (n + 1) h0, List.append_nil]
    · obtain ⟨q1, q2, q3, q4⟩ := part_sizes s h0
      have hf := first_eq s (by omega)
      rw [packN_cons n s h0]
      generalize fZ s = z at *
      generalize fB s = b at *
      generalize fR s = r at *
      have hl : (acc ++ (digs (z : Int) 2 ++ (digs (b.size : Int) 2 ++ bytesOf b))).length = acc.length + 4 + b.size := by
        simp only [List.length_append, digs_length, bytesOf_length]
        omega
      rw [pack_round k z s b r acc h0 hf q1 q2 (by omega) (by omega), ih k r _ (by omega) (by omega) (by rw [hl]; omega) (by omega)]
      simp only [List.append_assoc]
theorem pack_eq (s : ByteArray) (hs : s.size ≤ 1048576) {k : Nat} (hk : s.size + 1000 < k) : zeros_Pack.f k s = some (strOfNums (packN s.size s), 0) := by
  unfold zeros_Pack.f
  rw [if_neg (by omega), pack_l s.size k s [] (Nat.le_refl _) hs (by simp; omega) hk]
  rfl
/-! the program's Unpack -/
theorem drop_son (x y : List Int) (hx : ∀ z ∈ x ++ y, isY z) : (strOfNums (x ++ y)).extract x.length (strOfNums (x ++ y)).size = strOfNums y := by
  apply bytesOf_inj
  rw [bytesOf_extract, bytesOf_strOfNums hx, bytesOf_strOfNums (fun z hz => hx z (List.mem_append.2 (.inr hz))), List.drop_left]
theorem take_son (x y : List Int) (hx : ∀ z ∈ x ++ y, isY z) : (strOfNums (x ++ y)).extract 0 x.length = strOfNums x := by
  apply bytesOf_inj
  rw [bytesOf_strOfNums (fun z hz => hx z (List.mem_append.2 (.inl hz))), bytes_map, ex_take, List.map_take, ← bytes_map, bytesOf_strOfNums hx, List.take_left]
theorem get2 (n : Nat) (h : n ≤ 65535) (y : List Int) (hy : ∀ z ∈ digs (n : Int) 2 ++ y, isY z) : getF 2 (strOfNums (digs (n : Int) 2 ++ y)) = ((n : Int), 0) := by
  unfold getF
  rw [if_pos (.inr (.inl rfl)), if_neg (by rw [son_size, List.length_append, digs_length]; omega)]
  unfold numN
  rw [bytesOf_strOfNums hy, List.drop_zero, show (2 : Int).toNat = (digs (n : Int) 2).length from by rw [digs_length]; rfl, List.take_left, numL_digs 2 _ (by show (n : Int) / 256 ^ 2 = 0; omega)]
theorem all22 (a b : Nat) (ha : a ≤ 65535) (hb : b ≤ 65535) (y : List Int) (hy : ∀ z ∈ y, isY z) {k : Nat} (hk : 1000 ≤ k) : field_All.f k (strOfNums (digs (a : Int) 2 ++ (digs (b : Int) 2 ++ y))) ([2, 2] : List Int) = some ([(a : Int), (b : Int)], strOfNums y, 0) := by
  have y2 : ∀ z ∈ digs (b : Int) 2 ++ y, isY z := fun z hz => (List.mem_append.1 hz).elim (digs_isY _ _ z) (hy z)
  have y1 : ∀ z ∈ digs (a : Int) 2 ++ (digs (b : Int) 2 ++ y), isY z := fun z hz => (List.mem_append.1 hz).elim (digs_isY _ _ z) (y2 z)
  have d1 := drop_son _ _ y1
  have d2 := drop_son _ _ y2
  rw [digs_length] at d1 d2
  rw [all_eq _ _ (by simp) k hk]
  unfold allF
  rw [get2 a ha _ y1, if_pos rfl]
  unfold allF
  rw [show (2 : Int).toNat = 2 from rfl, d1, get2 b hb _ y2, if_pos rfl]
  unfold allF
  rw [d2]
  rfl
theorem w64 (x : Int) (h0 : 0 ≤ x) (h1 : x ≤ 1000000000) : wrap64 x = x := by unfold wrap64; omega
theorem rd2 (x y : Int) : rd ([x, y] : List Int) 0 = x ∧ rd ([x, y] : List Int) 1 = y := ⟨rfl, rfl⟩
theorem w_facts (z b : Nat) (a : Int) (hz : z ≤ 65535) (hb : b ≤ 65535) (ha : 0 ≤ a) (hab : a + ((z : Int) + (b : Int)) ≤ 10000000) : wrap64 (z : Int) = (z : Int) ∧ wrap64 (b : Int) = (b : Int) ∧ wrap64 ((z : Int) + (b : Int)) = (z : Int) + (b : Int) ∧ wrap64 (a + ((z : Int) + (b : Int))) = a + ((z : Int) + (b : Int)) :=
  ⟨by unfold wrap64; omega, by unfold wrap64; omega, by unfold wrap64; omega, by unfold wrap64; omega⟩
theorem parts_stop (k : Nat) (s : ByteArray) (ps : List S88) (a : Int) (h : s.size = 0) : zeros_parts.l0 (k + 1) s ps a = some (ps, a, 0) := by
  unfold zeros_parts.l0
  rw [if_pos ((toList_nil s).2 h)]
theorem parts_round (k z : Nat) (b : ByteArray) (q : List Int) (hq : ∀ x ∈ q, isY x) (ps : List S88) (a : Int) (hz : z ≤ 65535) (hb : b.size ≤ 65535) (hp : ps.length ≤ 10000000) (ha : 0 ≤ a) (hab : a + ((z : Int) + (b.size : Int)) ≤ 10000000) (hk : 1000 ≤ k) :
    zeros_parts.l0 (k + 1) (strOfNums (digs (z : Int) 2 ++ (digs (b.size : Int) 2 ++ (bytesOf b ++ q)))) ps a = zeros_parts.l0 k (strOfNums q) (ps ++ [⟨(z : Int), b⟩]) (a + ((z : Int) + (b.size : Int))) := by
  have hy : ∀ z ∈ bytesOf b ++ q, isY z := fun z hz => (List.mem_append.1 hz).elim (bytesOf_isY _ z) (hq z)
  have hd := drop_son _ _ hy
  have ht := take_son _ _ hy
  rw [bytesOf_length] at hd ht
  have hsz : (strOfNums (bytesOf b ++ q)).size = b.size + q.length := by rw [son_size, List.length_append, bytesOf_length]
  have hall := all22 z b.size hz hb (bytesOf b ++ q) hy (k := k) hk
  have hnz : ¬ (strOfNums (digs (z : Int) 2 ++ (digs (b.size : Int) 2 ++ (bytesOf b ++ q)))).toList = ([] : List UInt8) := by
    intro e
    have := (toList_nil _).1 e
    rw [son_size, List.length_append, digs_length] at this
    omega
  have c1 : ¬ (b.size : Int) > ((strOfNums (bytesOf b ++ q)).size : Int) := by rw [hsz]; omega
  have c2 : (b.size : Int) ≤ ((strOfNums (bytesOf b ++ q)).size : Int) := by omega
  have c3 : (0 : Int) ≤ (b.size : Int) := by omega
  have c4 : ps.length < 5864062014805 := by omega
  clear hsz hq hy
  obtain ⟨r0, r1⟩ := rd2 (z : Int) (b.size : Int)
  obtain ⟨w0, w1, w2, w3⟩ := w_facts z b.size a hz hb ha hab
  conv => lhs; unfold zeros_parts.l0
  rw [if_neg hnz, hall, Option.bind_some]
  dsimp only
  rw [if_pos rfl, r0, r1, w0, w1, w2, w3, show ([(z : Int), (b.size : Int)] : List Int).length = 2 from rfl, if_pos (show (1 : Int) < ((2 : Nat) : Int) from by decide), if_neg c1, if_pos (show (0 : Int) < ((2 : Nat) : Int) from by decide), if_pos c3, if_pos c2, if_pos c4, Int.toNat_natCast, hd, ht, strOfNums_bytesOf]
theorem parts_l (n : Nat) : ∀ (k : Nat) (s : ByteArray) (ps : List S88) (a : Int), s.size ≤ n → s.size ≤ 1048576 → ps.length + s.size ≤ 10000000 → 0 ≤ a → a + s.size ≤ 10000000 → n + 1000 < k → zeros_parts.l0 k (strOfNums (packN n s)) ps a = some (ps ++ partsN n s, a + (s.size : Int), 0) := by
  induction n with
  | zero =>
    intro k s ps a hn hs hp ha hb hk
    have h0 : s.size = 0 := by omega
    obtain ⟨k, rfl⟩ : ∃ m, k = m + 1 := ⟨k - 1, by omega⟩
    rw [packN_zero 0 h0, partsN_zero 0 h0, parts_stop k _ ps a rfl, List.append_nil, h0]
    simp
  | succ n ih =>
    intro k s ps a hn hs hp ha hb hk
    obtain ⟨k, rfl⟩ : ∃ m, k = m + 1 := ⟨k - 1, by omega⟩
    by_cases h0 : s.size = 0
    · rw [packN_zero (n + 1) h0, partsN_zero (n + 1) h0, parts_stop k _ ps a rfl, List.append_nil, h0]
      simp
    · obtain ⟨q1, q2, q3, q4⟩ := part_sizes s h0
      rw [packN_cons n s h0, partsN_cons n s h0]
      have hy := packN_isY n (fR s)
      generalize fZ s = z at *
      generalize fB s = b at *
      generalize fR s = r at *
      rw [parts_round k z b _ hy ps a q1 q2 (by omega) ha (by omega) (by omega), ih k r _ _ (by omega) (by omega) (by simp; omega) (by omega) (by omega) (by omega)]
      congr 2
      · simp
      · congr 1
        omega
theorem rd_T88_nat (l : List S88) (i : Nat) (h : i < l.length) : rd_T88 l (i : Int) = l[i] := by
  unfold rd_T88
  rw [Int.toNat_natCast, List.getD_eq_getElem?_getD, List.getElem?_eq_getElem h]
  rfl
theorem unpack_l (ps : List S88) (hz : ∀ x ∈ ps, 0 ≤ x.f0) (hlen : ps.length ≤ 10000000) : ∀ (d i k : Nat) (acc : List Int), i + d = ps.length → acc.length + ((ps.drop i).flatMap (fun x => List.replicate x.f0.toNat 0 ++ bytesOf x.f1)).length ≤ 10000000 → d < k → zeros_Unpack.l0 k acc ps (ps.length : Int) (i : Int) = some (strOfNums (acc ++ (ps.drop i).flatMap (fun x => List.replicate x.f0.toNat 0 ++ bytesOf x.f1)), 0)
  | 0, i, k, acc, hi, hb, hk => by
    obtain ⟨k, rfl⟩ : ∃ m, k = m + 1 := ⟨k - 1, by omega⟩
    simp only [zeros_Unpack.l0]
    rw [if_neg (by omega), List.drop_of_length_le (by omega)]
    simp
  | d + 1, i, k, acc, hi, hb, hk => by
    obtain ⟨k, rfl⟩ : ∃ m, k = m + 1 := ⟨k - 1, by omega⟩
    have hlt : i < ps.length := by omega
    have hx := hz _ (List.getElem_mem hlt)
    have hd : ps.drop i = ps[i] :: ps.drop (i + 1) := List.drop_eq_getElem_cons hlt
    have hw : wrap64 ((i : Int) + 1) = ((i + 1 : Nat) : Int) := by unfold wrap64; omega
    rw [hd, List.flatMap_cons] at hb ⊢
    have hb2 := hb
    simp only [List.length_append, List.length_replicate, bytesOf_length] at hb
    have hlf : (acc ++ List.replicate (ps[i].f0).toNat (0 : Int)).length = acc.length + (ps[i].f0).toNat := by simp
    simp only [zeros_Unpack.l0]
    rw [if_pos (by omega), if_pos (by omega), if_pos (by omega), rd_T88_nat ps i hlt, if_pos hx, if_pos (by omega)]
    simp only [Option.bind_some]
    rw [if_pos (by rw [hlf]; omega), hw, unpack_l ps hz hlen d (i + 1) k _ (by omega) (by rw [List.length_append, hlf, bytesOf_length]; omega) (by omega)]
    simp only [List.append_assoc]
theorem partsN_pos : ∀ (n : Nat) (s : ByteArray), ∀ x ∈ partsN n s, 0 ≤ x.f0
  | 0, s => fun x hx => by simp [partsN] at hx
  | n + 1, s => fun x hx => by
    unfold partsN at hx
    by_cases h : s.size = 0
    · rw [if_pos h] at hx; simp at hx
    · rw [if_neg h] at hx
      rcases List.mem_cons.1 hx with rfl | hx
      · exact Int.natCast_nonneg _
      · exact partsN_pos n (fR s) x hx
/-- What is packed is unpacked as it was. -/
theorem unpack_eq (s : ByteArray) (hs : s.size ≤ 1048576) {k : Nat} (hk : s.size + 1000 < k) : zeros_Unpack.f k (strOfNums (packN s.size s)) = some (s, 0) := by
  unfold zeros_Unpack.f zeros_parts.f
  have hl := partsN_len s.size s (Nat.le_refl _)
  have hf := flat_eq s.size s (Nat.le_refl _)
  rw [parts_l s.size k s [] 0 (Nat.le_refl _) hs (by simp; omega) (by omega) (by omega) (by omega)]
  simp only [Option.bind_some, if_true, List.nil_append, Int.zero_add]
  have := unpack_l (partsN s.size s) (partsN_pos _ _) (by omega) (partsN s.size s).length 0 k [] (by omega) (by rw [List.drop_zero, hf, bytesOf_length]; simp; omega) (by omega)
  rw [List.drop_zero, hf, List.nil_append, strOfNums_bytesOf] at this
  rw [if_neg (by omega), if_pos (by omega), if_pos (by omega)]
  exact this
theorem begins_eq : caulktop_begins.f = some true := by decide +kernel
theorem TopPacked : caulktop_TopPacked.Pure := by
  intro a0 l1 l2 _ h1 h2
  refine ⟨2100, ?_⟩
  unfold caulktop_TopPacked.f
  refine if_pos ⟨begins_eq, fun x hx => h1.2 x hx, fun s => strOfNums (packN s.size s), fun s hs hz => ⟨pack_eq s (by omega) (by omega), unpack_eq s (by omega) (by omega)⟩⟩
end Go.Proofs.YtoglapodcejocaaDoor.Pure
