/- TopMended: the pure statement: numbers and lists alone. Conditions: those of the statement itself. -/
import Derived.Test.YteiiaonpdamkhaaDoorGx7
import Derived.OpenShut
import Derived.Test.YteiiaonpdamkhaaDoorLocFix
import Derived.Test.YteiiaonpdamkhaaDoorMatCheck
import Derived.Lib.TrimByte
import Derived.Lib.Bytes
import Derived.Test.YteiiaonpdamkhaaDoorDedTrim
import Derived.Test.YteiiaonpdamkhaaDoorCrcMath
import Derived.Test.YteiiaonpdamkhaaDoorCrcAdd
namespace Go.Proofs.YteiiaonpdamkhaaDoor.Pure
open Go.RowKit Go.Proofs.YteiiaonpdamkhaaDoor.G Go.Proofs.YteiiaonpdamkhaaDoorW.PrintWords Go.Proofs.YteiiaonpdamkhaaDoorW.PrintLast Go.Proofs.YteiiaonpdamkhaaDoorW.PrintMore Go.OpenShut
set_option linter.unusedVariables false
set_option linter.unusedSimpArgs false
theorem isB_of {a : Int} (h : (Lit.int .u8 a).wf = true) : isB a := by have := bounds_u8 h; unfold isB; omega
theorem mulI_isB (a b : Int) : isB (mulI a b) := el_range _
theorem gfmul {a b : Int} (ha : isB a) (hb : isB b) : gf_Mul.f a b = some (mulI a b) := if_pos ⟨ha, hb⟩
theorem el_mulI (a b : Int) : el (mulI a b) = GfM.mul (el a) (el b) := el_nat _
theorem mulI_nat (a b : BitVec 8) : mulI (a.toNat : Int) (b.toNat : Int) = ((GfM.mul a b).toNat : Int) := by unfold mulI; rw [el_nat, el_nat]
theorem asel {a : Int} (h : isB a) : ∃ x : BitVec 8, a = (x.toNat : Int) := ⟨el a, (el_back h.1 h.2).symm⟩
theorem isB_nat (x : BitVec 8) : isB (x.toNat : Int) := el_range x
theorem el_ne {x : BitVec 8} (h : (x.toNat : Int) ≠ 0) : x ≠ 0#8 := by intro e; apply h; rw [e]; rfl
theorem ne_el {x : BitVec 8} (h : x ≠ 0#8) : (x.toNat : Int) ≠ 0 := by intro e; apply h; apply BitVec.eq_of_toNat_eq; simp; omega
/-- The inverse. -/
def invI (a : Int) : Int := ((GfM.inv (el a)).toNat : Int)
theorem invI_isB (a : Int) : isB (invI a) := el_range _
theorem cauf (k m : Nat) (h1 : 1 ≤ k) (h2 : 1 ≤ m) (h3 : k + m ≤ 255) : matrix_Cauchy.f (k : Int) (m : Int) = some (mxL m k (cauX k), 0) := by
  unfold matrix_Cauchy.f
  rw [if_pos (by omega), Int.toNat_natCast, Int.toNat_natCast]
theorem rd_L2_mxL {n p : Nat} (A : GfM.Mx) {i : Nat} (hi : i < n) : rd_L2 (mxL n p A) (i : Int) = rowL p (A i) := by
  rw [rd_L2_nat, List.getD_eq_getElem?_getD, mxL_get n p A i hi]; rfl
theorem rowL_set (p : Nat) (f : Nat → GfM.F) (j : Nat) (x : GfM.F) : (rowL p f).set j (x.toNat : Int) = rowL p (fun c => if c = j then x else f c) := by
  apply rowL_ext
  · rw [List.length_set, rowL_length]
  · intro c hc
    by_cases e : c = j
    · subst e
      rw [List.getD_eq_getElem?_getD, List.getElem?_set_self (by rw [rowL_length]; exact hc), if_pos rfl]; rfl
    · rw [List.getD_eq_getElem?_getD, List.getElem?_set_ne (fun e' => e e'.symm), ← List.getD_eq_getElem?_getD, rowL_get p f c hc, if_neg e]
theorem mxL_set {n p : Nat} (A : GfM.Mx) {i : Nat} (hi : i < n) (j : Nat) (x : GfM.F) : (mxL n p A).set i ((rowL p (A i)).set j (x.toNat : Int)) = mxL n p (fun r c => if r = i ∧ c = j then x else A r c) := by
  rw [rowL_set]
  apply List.ext_getElem?
  intro r
  by_cases hr : r < n
  · rw [mxL_get _ _ _ r hr]
    by_cases e : r = i
    · subst e
      rw [List.getElem?_set_self (by rw [mxL_length]; exact hr)]
      exact congrArg some (rowL_congr fun c _ => by by_cases e : c = j <;> simp [e])
    · rw [List.getElem?_set_ne (fun e' => e e'.symm), mxL_get _ _ _ r hr]
      exact congrArg some (rowL_congr fun c _ => by rw [if_neg (fun hh => e hh.1)])
  · rw [List.getElem?_eq_none (by rw [List.length_set, mxL_length]; omega), List.getElem?_eq_none (by rw [mxL_length]; omega)]
theorem rd_rowL {p : Nat} (f : Nat → GfM.F) {j : Nat} (hj : j < p) : rd (rowL p f) (j : Int) = ((f j).toNat : Int) := by
  unfold rd
  rw [Int.toNat_natCast, rowL_get p f j hj]
/-! ### rs over plain matrices -/
theorem bytesOf_isB (s : ByteArray) : ∀ x ∈ bytesOf s, isB x := by
  intro x hx
  simp only [bytesOf, List.mem_map] at hx
  obtain ⟨b, _, rfl⟩ := hx
  have := b.toNat_lt
  exact ⟨by omega, by omega⟩
theorem son_bytesOf (s : ByteArray) : strOfNums (bytesOf s) = s := by
  have : (strOfNums (bytesOf s)).data.toList = s.data.toList := by
    unfold strOfNums bytesOf
    simp only [List.map_map]
    conv => rhs; rw [← List.map_id s.data.toList]
    apply List.map_congr_left
    intro x hx
    simp
  cases s with
  | mk d =>
    cases h : strOfNums (bytesOf ⟨d⟩) with
    | mk e =>
      rw [h] at this
      exact congrArg ByteArray.mk (Array.toList_inj.1 this)
/-- Pieces of p bytes each. -/
def mxS (n p : Nat) (A : GfM.Mx) : List ByteArray := (List.range n).map fun i => strX p (A i)
theorem mxS_length (n p : Nat) (A : GfM.Mx) : (mxS n p A).length = n := by simp [mxS]
theorem mxS_get (n p : Nat) (A : GfM.Mx) (i : Nat) (hi : i < n) : (mxS n p A)[i]? = some (strX p (A i)) := by simp [mxS, hi]
theorem strX_congr {p : Nat} {f f' : Nat → GfM.F} (h : ∀ j, j < p → f j = f' j) : strX p f = strX p f' := by unfold strX; rw [rowL_congr h]
theorem mxS_congr {n p : Nat} {A A' : GfM.Mx} (h : ∀ i, i < n → ∀ j, j < p → A i j = A' i j) : mxS n p A = mxS n p A' := by
  unfold mxS
  apply List.map_congr_left
  intro i hi
  exact strX_congr (h i (List.mem_range.1 hi))
theorem rdS {n p : Nat} (A : GfM.Mx) {i : Nat} (hi : i < n) : rdOf ByteArray.empty (mxS n p A) (i : Int) = strX p (A i) := by
  unfold rdOf
  rw [Int.toNat_natCast, List.getD_eq_getElem?_getD, mxS_get n p A i hi]; rfl
theorem rdOf_nat (l : List ByteArray) (i : Nat) : rdOf ByteArray.empty l (i : Int) = l.getD i ByteArray.empty := by unfold rdOf; rw [Int.toNat_natCast]
/-- Pieces as a matrix. -/
def toB (l : List ByteArray) : GfM.Mx := fun i j => el ((bytesOf (l.getD i ByteArray.empty)).getD j 0)
theorem strX_back (s : ByteArray) (f : Nat → GfM.F) (h : ∀ j, j < s.size → f j = el ((bytesOf s).getD j 0)) : strX s.size f = s := by
  unfold strX
  have e : bytesOf s = rowL s.size f := rowL_ext (bytesOf_length s) (fun j hj => by
    have hm : (bytesOf s).getD j 0 ∈ bytesOf s := by rw [List.getD_eq_getElem?_getD, List.getElem?_eq_getElem (by rw [bytesOf_length]; exact hj)]; exact List.getElem_mem _
    have := bytesOf_isB s _ hm
    rw [h j hj]
    exact (el_back this.1 this.2).symm)
  rw [← e, son_bytesOf]
theorem mxS_toB {l : List ByteArray} {p : Nat} (h : ∀ s ∈ l, s.size = p) : mxS l.length p (toB l) = l := by
  apply List.ext_getElem?
  intro i
  by_cases hi : i < l.length
  · rw [mxS_get _ _ _ i hi, List.getElem?_eq_getElem hi]
    have hs := h _ (List.getElem_mem hi)
    congr 1
    rw [← hs]
    have e : l.getD i ByteArray.empty = l[i] := by rw [List.getD_eq_getElem?_getD, List.getElem?_eq_getElem hi]; rfl
    exact strX_back _ _ (fun j _ => by unfold toB; rw [e])
  · rw [List.getElem?_eq_none (by rw [mxS_length]; omega), List.getElem?_eq_none (by omega)]
theorem rscheck (a0 a1 : Int) : rs_Check.f a0 a1 = some (if 1 ≤ a0 ∧ a0 ≤ 255 ∧ 0 ≤ a1 ∧ a1 ≤ 255 - a0 then 0 else 1) := by
  unfold rs_Check.f
  by_cases h1 : a0 < 1
  · rw [if_pos h1, if_neg (by omega)]
  · rw [if_neg h1]
    by_cases h2 : a1 < 0
    · rw [if_pos h2, if_neg (by omega)]
    · rw [if_neg h2]
      by_cases h3 : a0 > 255
      · rw [if_pos h3, if_neg (by omega)]
      · rw [if_neg h3]
        have hw : wrap64 (255 - a0) = 255 - a0 := by unfold wrap64; omega
        rw [hw]
        by_cases h4 : a1 > 255 - a0
        · rw [if_pos h4, if_neg (by omega)]
        · rw [if_neg h4, if_pos (by omega)]
/-- Pieces are of one length, and not too long. -/
def Fits (l : List ByteArray) : Prop := ∀ s ∈ l, s.size = (l.getD 0 ByteArray.empty).size ∧ s.size ≤ 65536
instance (l : List ByteArray) : Decidable (Fits l) := by unfold Fits; infer_instance
theorem rsfits_l0 (l : List ByteArray) (hl : l.length ≤ 17592186044416) (K : Nat) : ∀ (d i : Nat), i + d = l.length → rs_fits.l0 (K + d + 1) l l (l.length : Int) (i : Int) = some (decide (∀ s ∈ l.drop i, s.size = (l.getD 0 ByteArray.empty).size ∧ s.size ≤ 65536))
  | 0, i, h => by
    have f0 : ¬ (i : Int) < (l.length : Int) := by omega
    show (if (i : Int) < (l.length : Int) then _ else some true) = _
    rw [if_neg f0, List.drop_of_length_le (by omega)]
    simp
  | d + 1, i, h => by
    have hi : i < l.length := by omega
    have f0 : (i : Int) < (l.length : Int) := by omega
    have f1 : (0 : Int) ≤ (i : Int) := by omega
    have f2 : (0 : Int) < (l.length : Int) := by omega
    have hw : wrap64 ((i : Int) + 1) = ((i + 1 : Nat) : Int) := by unfold wrap64; omega
    have ih := rsfits_l0 l hl K d (i + 1) (by omega)
    have e0 : rdOf ByteArray.empty l 0 = l.getD 0 ByteArray.empty := rdOf_nat l 0
    have ei : l.getD i ByteArray.empty = l[i] := by rw [List.getD_eq_getElem?_getD, List.getElem?_eq_getElem hi]; rfl
    rw [show K + (d + 1) + 1 = (K + d + 1) + 1 from by omega]
    generalize hF : K + d + 1 = F at ih ⊢
    unfold rs_fits.l0
    rw [if_pos f0, if_pos f1, if_pos f0, if_pos f2, rdOf_nat, e0, ei, hw, ih, List.drop_eq_getElem_cons hi]
    simp only [List.forall_mem_cons]
    by_cases h1 : l[i].size = (l.getD 0 ByteArray.empty).size
    · rw [if_pos (by omega)]
      by_cases h2 : l[i].size > 65536
      · rw [if_pos (by omega)]
        congr 1
        exact (decide_eq_false (fun hh => by have := hh.1.2; omega)).symm
      · rw [if_neg (by omega)]
        congr 1
        rw [decide_eq_decide]
        exact ⟨fun hh => ⟨⟨h1, by omega⟩, hh⟩, fun hh => hh.2⟩
    · rw [if_neg (by omega)]
      congr 1
      exact (decide_eq_false (fun hh => h1 hh.1.1)).symm
theorem rsfits {l : List ByteArray} (hl : l.length ≤ 17592186044416) {k : Nat} (hk : l.length < k) : rs_fits.f k l = some (decide (Fits l)) := by
  have := rsfits_l0 l hl (k - l.length - 1) l.length 0 (by omega)
  rw [show k - l.length - 1 + l.length + 1 = k from by omega, List.drop_zero] at this
  exact this
/-! times -/
def stS (n p m : Nat) (A D : GfM.Mx) (i : Nat) : List ByteArray := (List.range n).map fun r => if r < i then strX p (GfM.mm m A D r) else ⟨#[]⟩
theorem stS_length (n p m : Nat) (A D : GfM.Mx) (i : Nat) : (stS n p m A D i).length = n := by simp [stS]
theorem stS_set (n p m : Nat) (A D : GfM.Mx) (i : Nat) (hi : i < n) : (stS n p m A D i).set i (strX p (GfM.mm m A D i)) = stS n p m A D (i + 1) := by
  apply List.ext_getElem?
  intro r
  by_cases hr : r < n
  · by_cases e : r = i
    · subst e
      rw [List.getElem?_set_self (by rw [stS_length]; exact hr)]
      simp [stS, hr]
    · rw [List.getElem?_set_ne (fun e' => e e'.symm)]
      have : (r < i + 1) = (r < i) := by apply propext; omega
      simp only [stS, List.getElem?_map, List.getElem?_range hr, Option.map_some, this]
  · rw [List.getElem?_eq_none (by rw [List.length_set, stS_length]; omega), List.getElem?_eq_none (by rw [stS_length]; omega)]
theorem putf (p : Nat) (f : Nat → GfM.F) (x : GfM.F) (s : Nat → GfM.F) (hp : p ≤ 65536) : gf_Put.f (rowL p f) (x.toNat : Int) (strX p s) = some (rowL p (fun j => f j ^^^ GfM.mul x (s j))) := by
  unfold gf_Put.f
  have hx := x.isLt
  rw [if_pos ⟨⟨by omega, by omega⟩, by rw [strX_size]; omega, by rw [rowL_length]; omega, fun y hy => by
    obtain ⟨j, _, rfl⟩ := List.mem_map.1 hy
    exact ⟨by omega, by have := (f j).isLt; omega⟩⟩, rowL_length, strX_size, Nat.min_self, strX_bytes, putL_rowL]
theorem rstimes_l {n m p : Nat} (A D : GfM.Mx) (hn : n ≤ 255) (hm : m ≤ 255) (m1 : 1 ≤ m) (hp : p ≤ 65536) :
    ∀ (d i K : Nat), i + d = n → rs_times.l0 (K + d * (m + 2) + 1) (mxS m p D) (stS n p m A D i) (mxL n m A) (n : Int) (i : Int) = some (mxS n p (GfM.mm m A D)) := by
  have l1 : ∀ (i : Nat), i < n → ∀ (d j K : Nat), j + d = m → rs_times.l1 (K + d + 1) (mxS m p D) (stS n p m A D i) (i : Int) (rowL p (GfM.mm j A D i)) (mxL n m A) (n : Int) (i : Int) (rowL m (A i)) (m : Int) (j : Int) = rs_times.l0 K (mxS m p D) (stS n p m A D (i + 1)) (mxL n m A) (n : Int) ((i + 1 : Nat) : Int) := by
    intro i hi d
    induction d with
    | zero =>
      intro j K h
      have hj : j = m := by omega
      subst hj
      have f0 : ¬ (j : Int) < (j : Int) := by omega
      have f1 : (0 : Int) ≤ (i : Int) := by omega
      have f2 : (i : Int) < ((stS n p j A D i).length : Int) := by rw [stS_length]; omega
      have hw : wrap64 ((i : Int) + 1) = ((i + 1 : Nat) : Int) := by unfold wrap64; omega
      unfold rs_times.l1
      rw [if_neg f0, if_pos f1, if_pos f2, hw, Int.toNat_natCast]
      rw [show strOfNums (rowL p (GfM.mm j A D i)) = strX p (GfM.mm j A D i) from rfl, stS_set n p j A D i hi]
    | succ d ih =>
      intro j K h
      have hj : j < m := by omega
      have f0 : (j : Int) < (m : Int) := by omega
      have f1 : (0 : Int) ≤ (j : Int) := by omega
      have hw : wrap64 ((j : Int) + 1) = ((j + 1 : Nat) : Int) := by unfold wrap64; omega
      have ih' := ih (j + 1) K (by omega)
      rw [show K + (d + 1) + 1 = (K + d + 1) + 1 from by omega]
      generalize hF : K + d + 1 = F at ih' ⊢
      unfold rs_times.l1
      rw [if_pos f0, if_pos f1]
      simp only [rowL_length, mxS_length]
      rw [if_pos f0, if_pos f0, rd_rowL _ hj, rdS D hj, putf p _ _ _ hp, hw]
      exact ih'
  intro d
  induction d with
  | zero =>
    intro i K h
    have f0 : ¬ (i : Int) < (n : Int) := by omega
    rw [Nat.zero_mul, Nat.add_zero]
    unfold rs_times.l0
    rw [if_neg f0]
    have e : stS n p m A D i = mxS n p (GfM.mm m A D) := by
      unfold stS mxS
      apply List.map_congr_left
      intro r hr
      have := List.mem_range.1 hr
      rw [if_pos (by omega)]
    rw [e]
  | succ d ih =>
    intro i K h
    have hi : i < n := by omega
    have f0 : (i : Int) < (n : Int) := by omega
    have f1 : (0 : Int) ≤ (i : Int) := by omega
    have f2 : (0 : Int) < (m : Int) := by omega
    have f3 : (0 : Int) ≤ (p : Int) := by omega
    have f4 : p ≤ 281474976710656 := by omega
    have ih' := ih (i + 1) K (by omega)
    have e := l1 i hi m 0 (K + d * (m + 2) + 1) (by omega)
    rw [ih'] at e
    have ef : K + (d + 1) * (m + 2) + 1 = (K + d * (m + 2) + 1 + m + 1) + 1 := by rw [Nat.succ_mul]; omega
    have e0 : rdOf ByteArray.empty (mxS m p D) 0 = strX p (D 0) := rdS D (i := 0) (by omega)
    have er : List.replicate p (0 : Int) = rowL p (GfM.mm 0 A D i) := rowL_ext (by simp) (fun j hj => by simp [List.getD_eq_getElem?_getD, hj]; rfl)
    rw [ef]
    generalize hF : K + d * (m + 2) + 1 + m + 1 = F at e ⊢
    unfold rs_times.l0
    simp only [mxL_length, mxS_length, e0, strX_size, Int.toNat_natCast]
    rw [if_pos f0, if_pos f1, if_pos f0, if_pos f2, if_pos f3, if_pos f4, rd_L2_mxL A hi, rowL_length, er]
    exact e
theorem rstimes {n m p : Nat} (A D : GfM.Mx) (hn : n ≤ 255) (hm : m ≤ 255) (m1 : 1 ≤ m) (hp : p ≤ 65536) {k : Nat} (hk : 70000 ≤ k) : rs_times.f k (mxL n m A) (mxS m p D) = some (mxS n p (GfM.mm m A D)) := by
  unfold rs_times.f
  have f1 : (0 : Int) ≤ (n : Int) := by omega
  have f2 : n ≤ 17592186044416 := by omega
  have e : List.replicate n (⟨#[]⟩ : ByteArray) = stS n p m A D 0 := by
    apply List.ext_getElem?
    intro r
    by_cases hr : r < n
    · simp [stS, hr]
    · rw [List.getElem?_eq_none (by simp; omega), List.getElem?_eq_none (by rw [stS_length]; omega)]
  have hb : n * (m + 2) ≤ 255 * 257 := Nat.mul_le_mul hn (by omega)
  have := rstimes_l A D hn hm m1 hp n 0 (k - n * (m + 2) - 1) (by omega)
  rw [show k - n * (m + 2) - 1 + n * (m + 2) + 1 = k from by omega] at this
  simp only [mxL_length, Int.toNat_natCast]
  rw [if_pos f1, if_pos f2, e]
  exact this
/-! parity, Encode -/
theorem rsparity {k m p : Nat} (D : GfM.Mx) (k1 : 1 ≤ k) (hkm : k + m ≤ 255) (hp : p ≤ 65536) {K : Nat} (hK : 70000 ≤ K) : rs_parity.f K (k : Int) (m : Int) (mxS k p D) = some (mxS m p (GfM.mm k (cauX k) D)) := by
  unfold rs_parity.f
  by_cases h : m = 0
  · subst h
    rw [if_pos (by rfl)]; rfl
  · rw [if_neg (by omega), cauf k m k1 (by omega) hkm]
    simp only [Option.bind_some]
    rw [rstimes (cauX k) D (by omega) (by omega) k1 hp hK]
    rfl
/-- What Encode answers, if all is right. -/
theorem rsencode_ok {k m p : Nat} (D : GfM.Mx) (k1 : 1 ≤ k) (hkm : k + m ≤ 255) (hp : p ≤ 65536) {K : Nat} (hK : 70000 ≤ K) : rs_Encode.f K (k : Int) (m : Int) (mxS k p D) = some (mxS m p (GfM.mm k (cauX k) D), 0) := by
  have hfit : Fits (mxS k p D) := by
    intro s hs
    obtain ⟨i, _, rfl⟩ := List.mem_map.1 hs
    have e : (mxS k p D).getD 0 ByteArray.empty = strX p (D 0) := by rw [List.getD_eq_getElem?_getD, mxS_get k p D 0 (by omega)]; rfl
    rw [e, strX_size, strX_size]
    exact ⟨rfl, hp⟩
  unfold rs_Encode.f
  rw [rscheck, if_pos (by omega), rsfits (by rw [mxS_length]; omega) (by rw [mxS_length]; omega), decide_eq_true hfit, rsparity D k1 hkm hp hK]
  simp only [Option.bind_some, mxS_length, if_true]
/-- Either all is right, or there is an error, and nothing. -/
theorem rsencode {a0 a1 : Int} {l : List ByteArray} (hl : l.length ≤ 17592186044416) {K : Nat} (hK : 70000 ≤ K) (hK2 : l.length < K) :
    (∃ (k m p : Nat) (D : GfM.Mx), a0 = (k : Int) ∧ a1 = (m : Int) ∧ 1 ≤ k ∧ k + m ≤ 255 ∧ p ≤ 65536 ∧ l = mxS k p D ∧ rs_Encode.f K a0 a1 l = some (mxS m p (GfM.mm k (cauX k) D), 0)) ∨ ∃ e, e ≠ 0 ∧ rs_Encode.f K a0 a1 l = some ([], e) := by
  by_cases hc : 1 ≤ a0 ∧ a0 ≤ 255 ∧ 0 ≤ a1 ∧ a1 ≤ 255 - a0
  · by_cases hlen : (l.length : Int) = a0
    · by_cases hf : Fits l
      · left
        have hne : 0 < l.length := by omega
        have hp : (l.getD 0 ByteArray.empty).size ≤ 65536 := by
          refine (hf _ ?_).2
          rw [List.getD_eq_getElem?_getD, List.getElem?_eq_getElem hne]
          exact List.getElem_mem hne
        obtain ⟨m, hm⟩ := Int.eq_ofNat_of_zero_le hc.2.2.1
        have e := mxS_toB (l := l) (p := (l.getD 0 ByteArray.empty).size) (fun s hs => (hf s hs).1)
        refine ⟨l.length, m, (l.getD 0 ByteArray.empty).size, toB l, hlen.symm, hm, by omega, by omega, hp, e.symm, ?_⟩
        have := rsencode_ok (k := l.length) (m := m) (toB l) (by omega) (by omega) hp hK
        rw [e, hlen, ← hm] at this
        exact this
      · right
        unfold rs_Encode.f
        rw [rscheck, if_pos hc, rsfits hl hK2, decide_eq_false hf]
        simp only [Option.bind_some, if_true]
        rw [if_pos hlen]
        exact ⟨2, by decide, rfl⟩
    · right
      unfold rs_Encode.f
      rw [rscheck, if_pos hc]
      simp only [Option.bind_some, if_true]
      rw [if_neg hlen]
      exact ⟨2, by decide, rfl⟩
  · right
    unfold rs_Encode.f
    rw [rscheck, if_neg hc]
    exact ⟨1, by decide, rfl⟩
def allX (k : Nat) : GfM.Mx := fun i j => if i < k then GfM.idm i j else cauX k (i - k) j
theorem mm_xor (n : Nat) (A D E : GfM.Mx) (i j : Nat) : GfM.mm n A (fun r c => D r c ^^^ E r c) i j = GfM.mm n A D i j ^^^ GfM.mm n A E i j := by
  unfold GfM.mm
  rw [← GfM.sumN_xor]
  exact GfM.sumN_congr fun k _ => GfM.mul_xor_right _ _ _
theorem cauX_ne {k m i j : Nat} (hi : i < m) (hj : j < k) (hkm : k + m ≤ 255) : cauX k i j ≠ 0#8 := by
  have ha : BitVec.ofNat 8 (k + i) ^^^ BitVec.ofNat 8 j ≠ 0#8 := by
    intro h
    have h2 : BitVec.ofNat 8 (k + i) = BitVec.ofNat 8 j := by
      have h2 := congrArg (· ^^^ BitVec.ofNat 8 j) h
      simpa [BitVec.xor_assoc] using h2
    have h3 := congrArg BitVec.toNat h2
    simp at h3
    omega
  exact GfM.inv_ne ha
theorem mm_one {n pn : Nat} (hp : pn < n) (A : GfM.Mx) (an : Nat) (y : GfM.F) (i j : Nat) : GfM.mm n A (fun r c => if r = pn ∧ c = an then y else 0#8) i j = if j = an then GfM.mul (A i pn) y else 0#8 := by
  unfold GfM.mm
  rw [GfM.sumN_one hp (fun k _ hne => by
    have e0 : (if k = pn ∧ j = an then y else 0#8) = 0#8 := if_neg (fun h => hne h.1)
    show GfM.mul (A i k) (if k = pn ∧ j = an then y else 0#8) = 0#8
    rw [e0, GfM.mul_zero])]
  show GfM.mul (A i pn) (if pn = pn ∧ j = an then y else 0#8) = _
  by_cases e : j = an
  · rw [if_pos (⟨rfl, e⟩ : pn = pn ∧ j = an), if_pos e]
  · rw [if_neg (fun h : pn = pn ∧ j = an => e h.2), if_neg e, GfM.mul_zero]
theorem all_mxS (k m p : Nat) (D : GfM.Mx) : mxS k p D ++ mxS m p (GfM.mm k (cauX k) D) = mxS (k + m) p (GfM.mm k (allX k) D) := by
  apply List.ext_getElem?
  intro i
  by_cases h1 : i < k
  · rw [List.getElem?_append_left (by rw [mxS_length]; exact h1), mxS_get _ _ _ i h1, mxS_get _ _ _ i (by omega)]
    congr 1
    apply strX_congr
    intro j _
    have e2 : GfM.mm k (allX k) D i j = GfM.mm k GfM.idm D i j := GfM.mm_congr (fun q _ => by unfold allX; rw [if_pos h1]) (fun _ _ => rfl)
    rw [e2, GfM.mm_id_left h1]
  · rw [List.getElem?_append_right (by rw [mxS_length]; omega), mxS_length]
    by_cases h2 : i < k + m
    · rw [mxS_get _ _ _ (i - k) (by omega), mxS_get _ _ _ i h2]
      congr 1
      apply strX_congr
      intro j _
      unfold GfM.mm
      exact GfM.sumN_congr fun q _ => by unfold allX; rw [if_neg h1]
    · rw [List.getElem?_eq_none (by rw [mxS_length]; omega), List.getElem?_eq_none (by rw [mxS_length]; omega)]
theorem rsequal_l0 (l : List ByteArray) (hl : l.length ≤ 1000) (K : Nat) : ∀ (d i : Nat), i + d = l.length → slices_Equal_string_string.l0 (K + d + 1) l l (l.length : Int) (i : Int) = some true
  | 0, i, h => by
    have f0 : ¬ (i : Int) < (l.length : Int) := by omega
    unfold slices_Equal_string_string.l0
    rw [if_neg f0]
  | d + 1, i, h => by
    have f0 : (i : Int) < (l.length : Int) := by omega
    have f1 : (0 : Int) ≤ (i : Int) := by omega
    have hw : wrap64 ((i : Int) + 1) = ((i + 1 : Nat) : Int) := by unfold wrap64; omega
    have ih := rsequal_l0 l hl K d (i + 1) (by omega)
    rw [show K + (d + 1) + 1 = (K + d + 1) + 1 from by omega]
    generalize hF : K + d + 1 = F at ih ⊢
    unfold slices_Equal_string_string.l0
    rw [if_pos f0, if_pos f1, if_pos f0, if_pos f0, if_pos rfl, hw]
    exact ih
theorem rsequal {l : List ByteArray} (hl : l.length ≤ 1000) {K : Nat} (hK : 2000 ≤ K) : slices_Equal_string_string.f K l l = some true := by
  have := rsequal_l0 l hl (K - l.length - 1) l.length 0 (by omega)
  rw [show K - l.length - 1 + l.length + 1 = K from by omega] at this
  unfold slices_Equal_string_string.f
  rw [if_pos rfl]
  exact this
theorem same4_l0 (l : List ByteArray) (hl : l.length ≤ 1000) (K : Nat) : ∀ (d i : Nat), i + d = l.length → caulkref04_Same.l0 (K + d + 1) l l (l.length : Int) (i : Int) = some true
  | 0, i, h => by
    have f0 : ¬ (i : Int) < (l.length : Int) := by omega
    unfold caulkref04_Same.l0
    rw [if_neg f0]
  | d + 1, i, h => by
    have f0 : (i : Int) < (l.length : Int) := by omega
    have f1 : (0 : Int) ≤ (i : Int) := by omega
    have hw : wrap64 ((i : Int) + 1) = ((i + 1 : Nat) : Int) := by unfold wrap64; omega
    have ih := same4_l0 l hl K d (i + 1) (by omega)
    rw [show K + (d + 1) + 1 = (K + d + 1) + 1 from by omega]
    generalize hF : K + d + 1 = F at ih ⊢
    unfold caulkref04_Same.l0
    rw [if_pos f0, if_pos f1, if_pos f0, if_pos f0, if_pos rfl, hw]
    exact ih
theorem same4 {l : List ByteArray} (hl : l.length ≤ 1000) {K : Nat} (hK : 2000 ≤ K) : caulkref04_Same.f K l l = some true := by
  have := same4_l0 l hl (K - l.length - 1) l.length 0 (by omega)
  rw [show K - l.length - 1 + l.length + 1 = K from by omega] at this
  unfold caulkref04_Same.f
  rw [if_pos rfl]
  exact this
/-! ### locate over plain matrices -/
theorem strX_inj {p : Nat} {f g : Nat → GfM.F} : strX p f = strX p g ↔ ∀ j, j < p → f j = g j := by
  constructor
  · intro h j hj
    have h2 := congrArg bytesOf h
    rw [strX_bytes, strX_bytes] at h2
    have h3 := congrArg (fun l : List Int => l.getD j 0) h2
    simp only [rowL_get p f j hj, rowL_get p g j hj] at h3
    exact BitVec.eq_of_toNat_eq (by exact_mod_cast h3)
  · exact strX_congr
theorem txtS {n p : Nat} (A : GfM.Mx) {i : Nat} (hi : i < n) : txt (mxS n p A) i = strX p (A i) := by rw [← rdOf_txt, rdS A hi]
theorem putX_str {p : Nat} (f g : Nat → GfM.F) (hp : p ≤ 65536) : putX (strX p f) (strX p g) = strX p (fun j => f j ^^^ g j) := by
  have h := putf p f 1#8 g hp
  have h1 : (((1#8 : BitVec 8).toNat : Nat) : Int) = 1 := by decide
  rw [h1] at h
  unfold gf_Put.f at h
  split at h
  · injection h with h
    unfold putX
    rw [strX_bytes p f, strX_size p f]
    rw [rowL_length] at h
    rw [h]
    unfold strX
    rw [rowL_congr (fun j _ => by rw [GfM.one_mul])]
  · cases h
theorem scaleB_str {p : Nat} (x : GfM.F) (f : Nat → GfM.F) : scaleB (x.toNat : Int) (strX p f) = strX p (fun j => GfM.mul x (f j)) := by
  unfold scaleB
  rw [strX_bytes]
  unfold strX rowL
  rw [List.map_map]
  congr 1
  apply List.map_congr_left
  intro j _
  exact mulI_nat x (f j)
theorem dropWhile_nil (l : List UInt8) (p : UInt8 → Bool) : l.dropWhile p = [] ↔ l.all p = true := by
  induction l with
  | nil => simp
  | cons a r ih =>
    by_cases h : p a = true
    · rw [List.dropWhile_cons_of_pos h, ih]; simp [h]
    · rw [List.dropWhile_cons_of_neg h]; simp [h]
theorem trim_nil (l : List UInt8) : Lib.trimB l 0 = [] ↔ l.all (· == 0) = true := by
  unfold Lib.trimB Lib.trimLeftB Lib.trimRightB
  rw [dropWhile_nil, List.all_reverse]
  constructor
  · intro h
    by_cases e : l.reverse.dropWhile (· == 0) = []
    · have := (dropWhile_nil _ _).1 e
      rwa [List.all_reverse] at this
    · exfalso
      have h2 := List.head_dropWhile_not (p := (· == (0 : UInt8))) (l := l.reverse) e
      have h3 := List.all_eq_true.1 h _ (List.head_mem e)
      rw [h2] at h3
      cases h3
  · intro h
    refine List.all_eq_true.2 (fun x hx => List.all_eq_true.1 h x ?_)
    have := (List.dropWhile_sublist (· == (0 : UInt8)) (l := l.reverse)).subset hx
    exact List.mem_reverse.1 this
theorem nought_iff (s : ByteArray) (hs : s.size ≤ 65536) : nought s = true ↔ ∀ x ∈ bytesOf s, x = 0 := by
  unfold nought locate_blank.f strings_Trim.f
  rw [if_pos ⟨rfl, by omega⟩]
  simp only [Option.bind_some, Option.getD_some, beq_iff_eq]
  rw [Lib.toList_data]
  have h := trim_nil s.data.toList
  constructor
  · intro e x hx
    have h2 := h.1 e
    simp only [bytesOf, List.mem_map] at hx
    obtain ⟨b, hb, rfl⟩ := hx
    have := List.all_eq_true.1 h2 b hb
    have e0 : b = 0 := by simpa using this
    rw [e0]; rfl
  · intro e
    refine h.2 (List.all_eq_true.2 (fun b hb => ?_))
    have := e (b.toNat : Int) (by simp only [bytesOf, List.mem_map]; exact ⟨b, hb, rfl⟩)
    have h0 : b.toNat = 0 := by omega
    have : b = 0 := UInt8.toNat_inj.1 h0
    simp [this]
theorem nought_str {p : Nat} (f : Nat → GfM.F) (hp : p ≤ 65536) : nought (strX p f) = true ↔ ∀ j, j < p → f j = 0#8 := by
  rw [nought_iff _ (by rw [strX_size]; exact hp), strX_bytes]
  unfold rowL
  constructor
  · intro h j hj
    have := h ((f j).toNat : Int) (List.mem_map.2 ⟨j, List.mem_range.2 hj, rfl⟩)
    exact BitVec.eq_of_toNat_eq (by show (f j).toNat = 0; omega)
  · intro h x hx
    obtain ⟨j, hj, rfl⟩ := List.mem_map.1 hx
    rw [h j (List.mem_range.1 hj)]; rfl
/-- By how much each row of parity is wrong. -/
def syn (k : Nat) (W : GfM.Mx) : GfM.Mx := fun i j => GfM.mm k (cauX k) W i j ^^^ W (k + i) j
theorem mxS_take (n k p : Nat) (W : GfM.Mx) (h : k ≤ n) : (mxS n p W).take k = mxS k p W := by
  unfold mxS
  rw [← List.map_take, List.take_range, Nat.min_eq_left h]
theorem lookF_mx {k m p : Nat} (W : GfM.Mx) (k1 : 1 ≤ k) (hkm : k + m ≤ 255) (hp : p ≤ 65536) {K : Nat} (hK : 70000 ≤ K) : lookF K (k : Int) (m : Int) (mxS (k + m) p W) = some (0, mxS m p (syn k W)) := by
  have hw : lookWhy (k : Int) (m : Int) (mxS (k + m) p W) = 0 := by
    unfold lookWhy
    rw [if_neg (by omega), if_neg]
    rintro (h | ⟨i, hi, h⟩)
    · rw [mxS_length] at h; omega
    · rw [mxS_length] at hi
      rw [txtS W hi, txtS W (by omega : 0 < k + m), strX_size, strX_size] at h
      exact h rfl
  unfold lookF
  rw [if_neg (by rw [hw]; simp), Int.toNat_natCast, Int.toNat_natCast, mxS_take _ _ _ _ (by omega), rsencode_ok W k1 hkm hp hK]
  simp only [Option.bind_some]
  rw [if_pos ⟨trivial, mxS_length _ _ _, fun i hi => by rw [mxS_length] at hi; rw [txtS W hi, strX_size]; omega, fun i hi => by rw [mxS_length] at hi; rw [txtS _ hi, strX_size]; omega⟩]
  congr 2
  unfold offL
  unfold mxS
  apply List.map_congr_left
  intro i hi
  have hi := List.mem_range.1 hi
  have e1 := txtS (n := m) (p := p) (GfM.mm k (cauX k) W) hi
  have e2 := txtS (n := k + m) (p := p) W (i := k + i) (by omega)
  unfold mxS at e1 e2
  rw [e1, e2, putX_str _ _ hp]
  rfl
theorem mem_wrong {O : List ByteArray} {n : Nat} {z : Int} : z ∈ wrongL O n ↔ ∃ i : Nat, z = (i : Int) ∧ i < n ∧ nought (txt O i) = false := by
  unfold wrongL
  rw [List.mem_map]
  constructor
  · rintro ⟨i, hi, rfl⟩
    obtain ⟨h1, h2⟩ := List.mem_filter.1 hi
    exact ⟨i, rfl, List.mem_range.1 h1, by simpa using h2⟩
  · rintro ⟨i, rfl, h1, h2⟩
    exact ⟨i, List.mem_filter.2 ⟨List.mem_range.2 h1, by simpa using h2⟩, rfl⟩
theorem wrong_mx {m p : Nat} (S : GfM.Mx) (hp : p ≤ 65536) {z : Int} : z ∈ wrongL (mxS m p S) m ↔ ∃ i : Nat, z = (i : Int) ∧ i < m ∧ ∃ j, j < p ∧ S i j ≠ 0#8 := by
  rw [mem_wrong]
  constructor
  · rintro ⟨i, h1, h2, h3⟩
    rw [txtS S h2] at h3
    refine ⟨i, h1, h2, ?_⟩
    apply Classical.byContradiction
    intro hn
    have : nought (strX p (S i)) = true := (nought_str (S i) hp).2 (fun j hj => Classical.byContradiction fun hne => hn ⟨j, hj, hne⟩)
    rw [this] at h3
    cases h3
  · rintro ⟨i, h1, h2, j, hj, hne⟩
    refine ⟨i, h1, h2, ?_⟩
    rw [txtS S h2]
    cases h : nought (strX p (S i)) with
    | false => rfl
    | true => exact absurd ((nought_str (S i) hp).1 h j hj) hne
theorem wrongL_nodup (O : List ByteArray) (n : Nat) : (wrongL O n).Nodup := by
  unfold wrongL List.Nodup
  rw [List.pairwise_map]
  exact (List.Pairwise.filter _ (List.nodup_range (n := n))).imp (fun h e => h (by omega))
theorem wrong_nil {m p : Nat} {S : GfM.Mx} (hp : p ≤ 65536) (h : ∀ i, i < m → ∀ j, j < p → S i j = 0#8) : wrongL (mxS m p S) m = [] := by
  apply List.eq_nil_iff_forall_not_mem.2
  intro z hz
  obtain ⟨i, _, hi, j, hj, hne⟩ := (wrong_mx S hp).1 hz
  exact hne (h i hi j hj)
theorem wrong_zero {m p : Nat} {S : GfM.Mx} (hp : p ≤ 65536) (h : (wrongL (mxS m p S) m).length = 0) : ∀ i, i < m → ∀ j, j < p → S i j = 0#8 := by
  intro i hi j hj
  apply Classical.byContradiction
  intro hne
  have := (wrong_mx S hp).2 ⟨i, rfl, hi, j, hj, hne⟩
  rw [List.length_eq_zero_iff.1 h] at this
  cases this
theorem wrong_one {m p r : Nat} {S : GfM.Mx} (hp : p ≤ 65536) (hr : r < m) (h0 : ∀ i, i < m → i ≠ r → ∀ j, j < p → S i j = 0#8) (h1 : ∃ j, j < p ∧ S r j ≠ 0#8) : wrongL (mxS m p S) m = [(r : Int)] := by
  obtain ⟨j, hj, hne⟩ := h1
  have hm := (wrong_mx S hp).2 ⟨r, rfl, hr, j, hj, hne⟩
  have hall : ∀ z ∈ wrongL (mxS m p S) m, z = (r : Int) := by
    intro z hz
    obtain ⟨i, rfl, hi, j', hj', hne'⟩ := (wrong_mx S hp).1 hz
    by_cases e : i = r
    · rw [e]
    · exact absurd (h0 i hi e j' hj') hne'
  have hn := wrongL_nodup (mxS m p S) m
  match hw : wrongL (mxS m p S) m with
  | [] => rw [hw] at hm; cases hm
  | [a] => rw [hw] at hall; rw [hall a (by simp)]
  | a :: b :: t =>
    rw [hw] at hall hn
    have ea := hall a (by simp)
    have eb := hall b (by simp)
    rw [ea, eb] at hn
    simp at hn
theorem wrong_two {m p a b : Nat} {S : GfM.Mx} (hp : p ≤ 65536) (ha : a < m) (hb : b < m) (hab : a ≠ b) (h1 : ∃ j, j < p ∧ S a j ≠ 0#8) (h2 : ∃ j, j < p ∧ S b j ≠ 0#8) : (wrongL (mxS m p S) m).length ≠ 1 := by
  obtain ⟨j, hj, hne⟩ := h1
  obtain ⟨j2, hj2, hne2⟩ := h2
  have m1 := (wrong_mx S hp).2 ⟨a, rfl, ha, j, hj, hne⟩
  have m2 := (wrong_mx S hp).2 ⟨b, rfl, hb, j2, hj2, hne2⟩
  intro h
  obtain ⟨z, hz⟩ := List.length_eq_one_iff.1 h
  rw [hz] at m1 m2
  simp at m1 m2
  omega
/-- Does a piece of data explain all rows? -/
def expl (k m p : Nat) (S : GfM.Mx) (q : Nat) : Prop := ∀ i, i < m → ∀ j, j < p → GfM.mul (cauX k i q) (GfM.mul (GfM.inv (cauX k 0 q)) (S 0 j)) = S i j
theorem byD_mx {k m p : Nat} (S : GfM.Mx) (hm : 1 ≤ m) (q : Nat) : byD k (mxS m p S) q = strX p (fun j => GfM.mul (GfM.inv (cauX k 0 q)) (S 0 j)) := by
  unfold byD
  rw [txtS S (by omega), scaleB_str]
theorem fits_mx {k m p : Nat} (S : GfM.Mx) (hm : 1 ≤ m) {q : Nat} (hq : q < k) : fitsD (cauL k m) (mxS m p S) q (byD k (mxS m p S) q) ↔ expl k m p S q := by
  unfold fitsD expl
  rw [byD_mx S hm, mxS_length]
  constructor
  · intro h i hi
    have h2 := h i hi
    rw [cauL_el k m i q hi hq, scaleB_str, txtS S hi] at h2
    exact strX_inj.1 h2
  · intro h i hi
    rw [cauL_el k m i q hi hq, scaleB_str, txtS S hi]
    exact strX_inj.2 (h i hi)
theorem mayF_none {k m p : Nat} (S : GfM.Mx) (hm : 1 ≤ m) (h : ∀ q, q < k → ¬ expl k m p S q) : ∀ n, n ≤ k → mayF k m (mxS m p S) n = [] := by
  intro n
  induction n with
  | zero => intro _; rfl
  | succ n ih =>
    intro hn
    rw [mayF_no (fun hf => h n (by omega) ((fits_mx S hm (by omega)).1 hf))]
    exact ih (by omega)
theorem mayF_one {k m p q : Nat} (S : GfM.Mx) (hm : 1 ≤ m) (hq : expl k m p S q) (h : ∀ r, r < k → r ≠ q → ¬ expl k m p S r) : ∀ n, n ≤ k → mayF k m (mxS m p S) n = if q < n then [((q : Int), byD k (mxS m p S) q)] else [] := by
  intro n
  induction n with
  | zero => intro _; rw [if_neg (by omega)]; rfl
  | succ n ih =>
    intro hn
    by_cases e : n = q
    · subst e
      rw [mayF_yes ((fits_mx S hm (by omega)).2 hq), ih (by omega), if_neg (by omega), if_pos (by omega)]
      rfl
    · rw [mayF_no (fun hf => h n (by omega) e ((fits_mx S hm (by omega)).1 hf)), ih (by omega)]
      by_cases e2 : q < n
      · rw [if_pos e2, if_pos (by omega)]
      · rw [if_neg e2, if_neg (by omega)]
theorem xor6 (P Q A B C D : BitVec 8) (h : (P ^^^ A) ^^^ (C ^^^ Q) = (P ^^^ B) ^^^ (D ^^^ Q)) : (D ^^^ A) ^^^ (C ^^^ B) = 0#8 := by
  apply BitVec.eq_of_getLsbD_eq
  intro i hi
  have h2 := congrArg (fun v : BitVec 8 => v.getLsbD i) h
  simp only [BitVec.getLsbD_xor] at h2 ⊢
  simp only [BitVec.getLsbD_zero]
  revert h2
  cases P.getLsbD i <;> cases Q.getLsbD i <;> cases A.getLsbD i <;> cases B.getLsbD i <;> cases C.getLsbD i <;> cases D.getLsbD i <;> simp
theorem ofNat_ne {a b : Nat} (ha : a < 256) (hb : b < 256) (h : a ≠ b) : BitVec.ofNat 8 a ^^^ BitVec.ofNat 8 b ≠ 0#8 := by
  intro e
  have h2 : BitVec.ofNat 8 a = BitVec.ofNat 8 b := by
    have h2 := congrArg (· ^^^ BitVec.ofNat 8 b) e
    simpa [BitVec.xor_assoc] using h2
  have h3 := congrArg BitVec.toNat h2
  simp at h3
  omega
theorem inv_back {u v : GfM.F} (hu : u ≠ 0#8) : GfM.mul u (GfM.mul (GfM.inv u) v) = v := by rw [← GfM.mul_assoc, GfM.mul_inv u hu, GfM.one_mul]
theorem cau2 {k m q q' a : Nat} (hkm : k + m ≤ 255) (ha : a < m) (ha0 : a ≠ 0) (hq : q < k) (hq' : q' < k) (hne : q ≠ q') : GfM.mul (cauX k 0 q) (cauX k a q') ≠ GfM.mul (cauX k a q) (cauX k 0 q') := by
  obtain ⟨a0, h0⟩ : ∃ x, x = BitVec.ofNat 8 (k + 0) := ⟨_, rfl⟩
  obtain ⟨a1, h1⟩ : ∃ x, x = BitVec.ofNat 8 (k + a) := ⟨_, rfl⟩
  obtain ⟨x, hx⟩ : ∃ z, z = BitVec.ofNat 8 q := ⟨_, rfl⟩
  obtain ⟨y, hy⟩ : ∃ z, z = BitVec.ofNat 8 q' := ⟨_, rfl⟩
  have u0 : a0 ^^^ x ≠ 0#8 := by rw [h0, hx]; exact ofNat_ne (by omega) (by omega) (by omega)
  have v0 : a1 ^^^ y ≠ 0#8 := by rw [h1, hy]; exact ofNat_ne (by omega) (by omega) (by omega)
  have s0 : a1 ^^^ x ≠ 0#8 := by rw [h1, hx]; exact ofNat_ne (by omega) (by omega) (by omega)
  have t0 : a0 ^^^ y ≠ 0#8 := by rw [h0, hy]; exact ofNat_ne (by omega) (by omega) (by omega)
  have d1 : a1 ^^^ a0 ≠ 0#8 := by rw [h1, h0]; exact ofNat_ne (by omega) (by omega) (by omega)
  have d2 : x ^^^ y ≠ 0#8 := by rw [hx, hy]; exact ofNat_ne (by omega) (by omega) hne
  intro h
  have e1 : cauX k 0 q = GfM.inv (a0 ^^^ x) := by rw [h0, hx]; rfl
  have e2 : cauX k a q' = GfM.inv (a1 ^^^ y) := by rw [h1, hy]; rfl
  have e3 : cauX k a q = GfM.inv (a1 ^^^ x) := by rw [h1, hx]; rfl
  have e4 : cauX k 0 q' = GfM.inv (a0 ^^^ y) := by rw [h0, hy]; rfl
  rw [e1, e2, e3, e4] at h
  have key : GfM.mul (a1 ^^^ x) (a0 ^^^ y) = GfM.mul (a0 ^^^ x) (a1 ^^^ y) := by
    have g := congrArg (fun z => GfM.mul (GfM.mul (GfM.mul (a1 ^^^ x) (a0 ^^^ y)) (GfM.mul (a0 ^^^ x) (a1 ^^^ y))) z) h
    have l1 : GfM.mul (GfM.mul (GfM.mul (a1 ^^^ x) (a0 ^^^ y)) (GfM.mul (a0 ^^^ x) (a1 ^^^ y))) (GfM.mul (GfM.inv (a0 ^^^ x)) (GfM.inv (a1 ^^^ y))) = GfM.mul (a1 ^^^ x) (a0 ^^^ y) := by
      rw [GfM.mul_assoc]
      have : GfM.mul (GfM.mul (a0 ^^^ x) (a1 ^^^ y)) (GfM.mul (GfM.inv (a0 ^^^ x)) (GfM.inv (a1 ^^^ y))) = 1#8 := by
        rw [GfM.mul_assoc, GfM.mul_left_comm (a1 ^^^ y), GfM.mul_inv _ v0, GfM.mul_one, GfM.mul_inv _ u0]
      rw [this, GfM.mul_one]
    have l2 : GfM.mul (GfM.mul (GfM.mul (a1 ^^^ x) (a0 ^^^ y)) (GfM.mul (a0 ^^^ x) (a1 ^^^ y))) (GfM.mul (GfM.inv (a1 ^^^ x)) (GfM.inv (a0 ^^^ y))) = GfM.mul (a0 ^^^ x) (a1 ^^^ y) := by
      rw [GfM.mul_comm (GfM.mul (a1 ^^^ x) (a0 ^^^ y)), GfM.mul_assoc]
      have : GfM.mul (GfM.mul (a1 ^^^ x) (a0 ^^^ y)) (GfM.mul (GfM.inv (a1 ^^^ x)) (GfM.inv (a0 ^^^ y))) = 1#8 := by
        rw [GfM.mul_assoc, GfM.mul_left_comm (a0 ^^^ y), GfM.mul_inv _ t0, GfM.mul_one, GfM.mul_inv _ s0]
      rw [this, GfM.mul_one]
    exact l1.symm.trans (g.trans l2)
  rw [GfM.mul_xor_left, GfM.mul_xor_right, GfM.mul_xor_right, GfM.mul_xor_left, GfM.mul_xor_right, GfM.mul_xor_right, GfM.mul_comm a0 a1, GfM.mul_comm x a0, GfM.mul_comm x a1] at key
  have h6 := xor6 _ _ _ _ _ _ key
  have hz : GfM.mul (a1 ^^^ a0) (x ^^^ y) = 0#8 := by
    rw [GfM.mul_xor_left, GfM.mul_xor_right, GfM.mul_xor_right]
    exact h6
  rcases GfM.mul_eq_zero hz with e | e
  · exact d1 e
  · exact d2 e
theorem lastM_one (x : Int × ByteArray) : lastM [x] = x := rfl
/-- One piece of data that is wrong is found. -/
theorem findR_data {k m p q : Nat} (S : GfM.Mx) (E : Nat → GfM.F) (hkm : k + m ≤ 255) (hp : p ≤ 65536) (hm : 2 ≤ m) (hq : q < k) (hS : ∀ i, i < m → ∀ j, j < p → S i j = GfM.mul (cauX k i q) (E j)) (hE : ∃ j, j < p ∧ E j ≠ 0#8) :
    findR k m (mxS m p S) = ((q : Int), strX p E, 0) ∧ (wrongL (mxS m p S) (mxS m p S).length).length ≠ 0 := by
  obtain ⟨j0, hj0, hE0⟩ := hE
  have nz : ∀ i, i < m → S i j0 ≠ 0#8 := fun i hi h => by
    rw [hS i hi j0 hj0] at h
    rcases GfM.mul_eq_zero h with e | e
    · exact cauX_ne hi hq hkm e
    · exact hE0 e
  have c0 := cauX_ne (k := k) (m := m) (i := 0) (j := q) (by omega) hq hkm
  have hex : expl k m p S q := fun i hi j hj => by
    rw [hS 0 (by omega) j hj, hS i hi j hj]
    congr 1
    rw [← GfM.mul_assoc, GfM.mul_comm (GfM.inv _), GfM.mul_inv _ c0, GfM.one_mul]
  have hno : ∀ r, r < k → r ≠ q → ¬ expl k m p S r := fun r hr hrq h => by
    have h1 := h 1 (by omega) j0 hj0
    rw [hS 0 (by omega) j0 hj0, hS 1 (by omega) j0 hj0] at h1
    have cr := cauX_ne (k := k) (m := m) (i := 0) (j := r) (by omega) hr hkm
    have h2 := congrArg (fun z => GfM.mul (cauX k 0 r) z) h1
    have h3 : GfM.mul (GfM.mul (cauX k 1 r) (cauX k 0 q)) (E j0) = GfM.mul (GfM.mul (cauX k 0 r) (cauX k 1 q)) (E j0) := by
      have l : GfM.mul (cauX k 0 r) (GfM.mul (cauX k 1 r) (GfM.mul (GfM.inv (cauX k 0 r)) (GfM.mul (cauX k 0 q) (E j0)))) = GfM.mul (GfM.mul (cauX k 1 r) (cauX k 0 q)) (E j0) := by
        rw [GfM.mul_left_comm, inv_back cr, GfM.mul_assoc]
      rw [← l, GfM.mul_assoc]
      exact h2
    rw [GfM.mul_comm _ (E j0), GfM.mul_comm _ (E j0)] at h3
    have h4 := GfM.mul_cancel hE0 h3
    exact cau2 hkm (by omega : 1 < m) (by omega) hr hq hrq h4.symm
  have hw1 := wrong_two (m := m) (S := S) (a := 0) (b := 1) hp (by omega) (by omega) (by omega) ⟨j0, hj0, nz 0 (by omega)⟩ ⟨j0, hj0, nz 1 (by omega)⟩
  have hby : byD k (mxS m p S) q = strX p E := by
    rw [byD_mx S (by omega)]
    refine strX_congr (fun j hj => ?_)
    rw [hS 0 (by omega) j hj, ← GfM.mul_assoc, GfM.mul_comm (GfM.inv _), GfM.mul_inv _ c0, GfM.one_mul]
  have hml : mayL k m (mxS m p S) = [((q : Int), strX p E)] := by
    unfold mayL
    rw [mxS_length, if_neg hw1, List.append_nil, mayF_one S (by omega) hex hno k (Nat.le_refl _), if_pos hq, hby]
  refine ⟨?_, fun h => ?_⟩
  · unfold findR
    rw [hml, if_pos (by rfl), lastM_one]
  · rw [mxS_length] at h
    exact nz 0 (by omega) (wrong_zero hp h 0 (by omega) j0 hj0)
/-- One piece of parity that is wrong is found. -/
theorem findR_par {k m p r : Nat} (S : GfM.Mx) (E : Nat → GfM.F) (hkm : k + m ≤ 255) (hp : p ≤ 65536) (hm : 2 ≤ m) (hr : r < m) (hS0 : ∀ i, i < m → i ≠ r → ∀ j, j < p → S i j = 0#8) (hS1 : ∀ j, j < p → S r j = E j) (hE : ∃ j, j < p ∧ E j ≠ 0#8) :
    findR k m (mxS m p S) = (((k + r : Nat) : Int), strX p E, 0) ∧ (wrongL (mxS m p S) (mxS m p S).length).length ≠ 0 := by
  obtain ⟨j0, hj0, hE0⟩ := hE
  have hno : ∀ q, q < k → ¬ expl k m p S q := fun q hq h => by
    by_cases e : r = 0
    · have h1 := h 1 (by omega) j0 hj0
      rw [hS0 1 (by omega) (by omega) j0 hj0] at h1
      rcases GfM.mul_eq_zero h1 with z | z
      · exact cauX_ne (by omega : 1 < m) hq hkm z
      · rcases GfM.mul_eq_zero z with z | z
        · exact GfM.inv_ne (cauX_ne (by omega : 0 < m) hq hkm) z
        · have z' : S r j0 = 0#8 := by rw [e]; exact z
          rw [hS1 j0 hj0] at z'; exact hE0 z'
    · have h1 := h r hr j0 hj0
      rw [hS0 0 (by omega) (by omega) j0 hj0, GfM.mul_zero, GfM.mul_zero, hS1 j0 hj0] at h1
      exact hE0 h1.symm
  have hw := wrong_one hp hr hS0 ⟨j0, hj0, by rw [hS1 j0 hj0]; exact hE0⟩
  have hml : mayL k m (mxS m p S) = [(((k + r : Nat) : Int), strX p E)] := by
    unfold mayL
    rw [mxS_length, hw, mayF_none S (by omega) hno k (Nat.le_refl _), if_pos (by rfl)]
    have e1 : ([(r : Int)] : List Int).getD 0 0 = (r : Int) := rfl
    rw [e1, Int.toNat_natCast, txtS S hr, strX_congr hS1]
    simp
  refine ⟨?_, fun h => ?_⟩
  · unfold findR
    rw [hml, if_pos (by rfl), lastM_one]
  · rw [mxS_length, hw] at h
    cases h
def setRow (W : GfM.Mx) (a : Nat) (o : Nat → GfM.F) : GfM.Mx := fun r => if r = a then o else W r
theorem mxS_set {n p a : Nat} (W : GfM.Mx) (o : Nat → GfM.F) (ha : a < n) : (mxS n p W).set a (strX p o) = mxS n p (setRow W a o) := by
  apply List.ext_getElem?
  intro r
  by_cases hr : r < n
  · rw [mxS_get _ _ _ r hr]
    by_cases e : r = a
    · subst e
      rw [List.getElem?_set_self (by rw [mxS_length]; exact hr)]
      unfold setRow
      rw [if_pos rfl]
    · rw [List.getElem?_set_ne (fun e' => e e'.symm), mxS_get _ _ _ r hr]
      unfold setRow
      rw [if_neg e]
  · rw [List.getElem?_eq_none (by rw [List.length_set, mxS_length]; omega), List.getElem?_eq_none (by rw [mxS_length]; omega)]
theorem xor_xor_back (a b : GfM.F) : a ^^^ (b ^^^ a) = b := by rw [BitVec.xor_comm b a, ← BitVec.xor_assoc, BitVec.xor_self, BitVec.zero_xor]
theorem syn_data {k q : Nat} (W : GfM.Mx) (o : Nat → GfM.F) (hq : q < k) (i j : Nat) : syn k (setRow W q o) i j = syn k W i j ^^^ GfM.mul (cauX k i q) (o j ^^^ W q j) := by
  unfold syn
  have e1 : setRow W q o (k + i) j = W (k + i) j := by unfold setRow; rw [if_neg (by omega)]
  have e2 : GfM.mm k (cauX k) (setRow W q o) i j = GfM.mm k (cauX k) W i j ^^^ GfM.mul (cauX k i q) (o j ^^^ W q j) := by
    have h1 : GfM.mm k (cauX k) (setRow W q o) i j = GfM.mm k (cauX k) (fun r c => W r c ^^^ (if r = q ∧ c = j then (o j ^^^ W q j) else 0#8)) i j := by
      refine GfM.mm_congr (fun _ _ => rfl) (fun r _ => ?_)
      unfold setRow
      by_cases e : r = q
      · rw [if_pos e, if_pos ⟨e, rfl⟩, e, xor_xor_back]
      · rw [if_neg e, if_neg (fun h => e h.1), BitVec.xor_zero]
    rw [h1, mm_xor, mm_one hq, if_pos rfl]
  rw [e1, e2, BitVec.xor_assoc, BitVec.xor_assoc, BitVec.xor_comm (GfM.mul _ _)]
theorem syn_par {k r : Nat} (W : GfM.Mx) (o : Nat → GfM.F) (i j : Nat) : syn k (setRow W (k + r) o) i j = if i = r then syn k W i j ^^^ (o j ^^^ W (k + r) j) else syn k W i j := by
  unfold syn
  have e2 : GfM.mm k (cauX k) (setRow W (k + r) o) i j = GfM.mm k (cauX k) W i j := GfM.mm_congr (fun _ _ => rfl) (fun q hq => by unfold setRow; rw [if_neg (by omega)])
  rw [e2]
  by_cases e : i = r
  · subst e
    rw [if_pos rfl]
    have e1 : setRow W (k + i) o (k + i) j = o j := by unfold setRow; rw [if_pos rfl]
    rw [e1, BitVec.xor_assoc, xor_xor_back]
  · rw [if_neg e]
    have e1 : setRow W (k + r) o (k + i) j = W (k + i) j := by unfold setRow; rw [if_neg (by omega)]
    rw [e1]
theorem fix_none {k m p : Nat} (W : GfM.Mx) (k1 : 1 ≤ k) (hkm : k + m ≤ 255) (hp : p ≤ 65536) (h0 : ∀ i, i < m → ∀ j, j < p → syn k W i j = 0#8) {K : Nat} (hK : 70000 ≤ K) :
    locate_Find.f K (k : Int) (m : Int) (mxS (k + m) p W) = some (-1, 0) ∧ locate_Fix.f K (k : Int) (m : Int) (mxS (k + m) p W) = some (mxS (k + m) p W, -1, 0) ∧ locate_Wrong.f K (k : Int) (m : Int) (mxS (k + m) p W) = some ([], 0) := by
  have hl := lookF_mx W k1 hkm hp hK
  have hw : wrongL (mxS m p (syn k W)) (mxS m p (syn k W)).length = [] := by rw [mxS_length]; exact wrong_nil hp h0
  refine ⟨?_, ?_, ?_⟩
  · unfold locate_Find.f
    rw [hl]
    simp only [Option.bind_some]
    rw [if_neg (by simp), hw, if_pos (by rfl)]
  · unfold locate_Fix.f
    rw [hl]
    simp only [Option.bind_some]
    rw [if_neg (by simp), hw, if_pos (by rfl)]
  · unfold locate_Wrong.f
    rw [hl]
    simp only [Option.bind_some]
    rw [if_neg (by simp), hw]
theorem fix_val {K : Nat} {k m : Nat} {l off : List ByteArray} {a : Nat} {y : ByteArray} (hl : lookF K (k : Int) (m : Int) l = some (0, off)) (hw : (wrongL off off.length).length ≠ 0) (hf : findR k m off = ((a : Int), y, 0)) :
    locate_Find.f K (k : Int) (m : Int) l = some ((a : Int), 0) ∧ locate_Fix.f K (k : Int) (m : Int) l = some (l.set a (putX (txt l a) y), (a : Int), 0) := by
  refine ⟨?_, ?_⟩
  · unfold locate_Find.f
    rw [hl]
    simp only [Option.bind_some]
    rw [if_neg (by simp), if_neg hw, Int.toNat_natCast, Int.toNat_natCast, hf]
  · unfold locate_Fix.f
    rw [hl]
    simp only [Option.bind_some]
    rw [if_neg (by simp), if_neg hw, Int.toNat_natCast, Int.toNat_natCast, hf, if_neg (by simp), Int.toNat_natCast]
theorem xor_ne' {a b : GfM.F} (h : a ≠ b) : a ^^^ b ≠ 0#8 := GfM.xor_ne h
/-- A stripe one piece of which was changed. -/
theorem found {k m p a : Nat} (W : GfM.Mx) (o : Nat → GfM.F) (k1 : 1 ≤ k) (hkm : k + m ≤ 255) (hp : p ≤ 65536) (hm : 2 ≤ m) (h0 : ∀ i, i < m → ∀ j, j < p → syn k W i j = 0#8) (ha : a < k + m) (hne : ∃ j, j < p ∧ o j ≠ W a j) {K : Nat} (hK : 70000 ≤ K) :
    locate_Find.f K (k : Int) (m : Int) (mxS (k + m) p (setRow W a o)) = some ((a : Int), 0) ∧ locate_Fix.f K (k : Int) (m : Int) (mxS (k + m) p (setRow W a o)) = some (mxS (k + m) p W, (a : Int), 0) ∧ (k ≤ a → locate_Wrong.f K (k : Int) (m : Int) (mxS (k + m) p (setRow W a o)) = some ([((a - k : Nat) : Int)], 0)) := by
  obtain ⟨j0, hj0, hn0⟩ := hne
  have hl := lookF_mx (setRow W a o) k1 hkm hp hK
  have hE : ∃ j, j < p ∧ (fun j => o j ^^^ W a j) j ≠ 0#8 := ⟨j0, hj0, xor_ne' hn0⟩
  have hback : (mxS (k + m) p (setRow W a o)).set a (putX (txt (mxS (k + m) p (setRow W a o)) a) (strX p (fun j => o j ^^^ W a j))) = mxS (k + m) p W := by
    rw [txtS _ ha, putX_str _ _ hp, mxS_set _ _ ha]
    refine mxS_congr (fun i hi j hj => ?_)
    unfold setRow
    by_cases e : i = a
    · subst e
      simp only [if_true]
      rw [← BitVec.xor_assoc, BitVec.xor_self, BitVec.zero_xor]
    · simp only [if_neg e]
  by_cases hak : a < k
  · have hS : ∀ i, i < m → ∀ j, j < p → syn k (setRow W a o) i j = GfM.mul (cauX k i a) ((fun j => o j ^^^ W a j) j) := fun i hi j hj => by
      rw [syn_data W o hak, h0 i hi j hj, BitVec.zero_xor]
    obtain ⟨hf, hw⟩ := findR_data (syn k (setRow W a o)) (fun j => o j ^^^ W a j) hkm hp hm hak hS hE
    obtain ⟨h1, h2⟩ := fix_val hl hw hf
    rw [hback] at h2
    exact ⟨h1, h2, fun h => absurd h (by omega)⟩
  · obtain ⟨r, rfl⟩ : ∃ r, a = k + r := ⟨a - k, by omega⟩
    have hS0 : ∀ i, i < m → i ≠ r → ∀ j, j < p → syn k (setRow W (k + r) o) i j = 0#8 := fun i hi hir j hj => by
      rw [syn_par, if_neg hir]; exact h0 i hi j hj
    have hS1 : ∀ j, j < p → syn k (setRow W (k + r) o) r j = (fun j => o j ^^^ W (k + r) j) j := fun j hj => by
      rw [syn_par, if_pos rfl, h0 r (by omega) j hj, BitVec.zero_xor]
    obtain ⟨hf, hw⟩ := findR_par (syn k (setRow W (k + r) o)) (fun j => o j ^^^ W (k + r) j) hkm hp hm (by omega : r < m) hS0 hS1 hE
    obtain ⟨h1, h2⟩ := fix_val hl hw hf
    rw [hback] at h2
    refine ⟨h1, h2, fun _ => ?_⟩
    unfold locate_Wrong.f
    rw [hl]
    simp only [Option.bind_some]
    rw [if_neg (by simp), mxS_length, wrong_one hp (by omega : r < m) hS0 ⟨j0, hj0, by rw [hS1 j0 hj0]; exact xor_ne' hn0⟩, Nat.add_sub_cancel_left]
theorem codeW_syn {k m : Nat} (D : GfM.Mx) (i j : Nat) (hi : i < m) : syn k (GfM.mm k (allX k) D) i j = 0#8 := by
  unfold syn
  have e1 : GfM.mm k (cauX k) (GfM.mm k (allX k) D) i j = GfM.mm k (cauX k) D i j := GfM.mm_congr (fun _ _ => rfl) (fun r hr => by
    have e2 : GfM.mm k (allX k) D r j = GfM.mm k GfM.idm D r j := GfM.mm_congr (fun q _ => by unfold allX; rw [if_pos hr]) (fun _ _ => rfl)
    rw [e2, GfM.mm_id_left hr])
  have e3 : GfM.mm k (allX k) D (k + i) j = GfM.mm k (cauX k) D i j := by
    unfold GfM.mm
    exact GfM.sumN_congr fun q _ => by unfold allX; rw [if_neg (by omega), Nat.add_sub_cancel_left]
  rw [e1, e3, BitVec.xor_self]
theorem small34_l0 (x0 x1 : Int) (l : List ByteArray) (hl : l.length ≤ 17592186044416) (K : Nat) : ∀ (d i : Nat) (x7 : Int), i + d = l.length → i ≤ 12 → 0 ≤ x7 → x7 ≤ 4096 * (i : Int) → (∀ j, j < i → (l.getD j ByteArray.empty).size ≤ 4096) →
    ∃ b, caulklaw34_small.l0 (K + d + 1) x0 x1 x7 l (l.length : Int) (i : Int) = some b ∧ (b = true → l.length ≤ 12 ∧ ∀ s ∈ l, s.size ≤ 4096)
  | 0, i, x7, h, h16, h0, h1, hs => by
    have f0 : ¬ (i : Int) < (l.length : Int) := by omega
    have good : l.length ≤ 12 ∧ ∀ s ∈ l, s.size ≤ 4096 := ⟨by omega, fun s hm => by
      obtain ⟨j, hj, rfl⟩ := List.mem_iff_getElem.1 hm
      have := hs j (by omega)
      rwa [List.getD_eq_getElem?_getD, List.getElem?_eq_getElem hj] at this⟩
    unfold caulklaw34_small.l0
    rw [if_neg f0]
    repeat' split
    all_goals exact ⟨_, rfl, fun _ => good⟩
  | d + 1, i, x7, h, h16, h0, h1, hs => by
    have hi : i < l.length := by omega
    have f0 : (i : Int) < (l.length : Int) := by omega
    have f1 : (0 : Int) ≤ (i : Int) := by omega
    have hw : wrap64 ((i : Int) + 1) = ((i + 1 : Nat) : Int) := by clear h1 hs; unfold wrap64; omega
    rw [show K + (d + 1) + 1 = (K + d + 1) + 1 from by omega]
    have ih := small34_l0 x0 x1 l hl K d (i + 1)
    generalize hF : K + d + 1 = F at ih ⊢
    unfold caulklaw34_small.l0
    rw [if_pos f0, if_pos f1, if_pos f0, rdOf_nat]
    by_cases e : (i : Int) = 12
    · rw [if_pos e]; exact ⟨false, rfl, fun hh => by cases hh⟩
    · rw [if_neg e]
      by_cases e1 : ((l.getD i ByteArray.empty).size : Int) > 4096
      · rw [if_pos e1]; exact ⟨false, rfl, fun hh => by cases hh⟩
      · rw [if_neg e1]
        by_cases e2 : x7 > 4096
        · rw [if_pos e2]; exact ⟨false, rfl, fun hh => by cases hh⟩
        · have hw2 : wrap64 (x7 + ((l.getD i ByteArray.empty).size : Int)) = x7 + ((l.getD i ByteArray.empty).size : Int) := by clear hw ih hs; unfold wrap64; omega
          rw [if_neg e2, hw, hw2]
          refine ih _ (by omega) (by omega) (by omega) (by omega) (fun j hj => ?_)
          by_cases ej : j = i
          · subst ej; omega
          · exact hs j (by omega)
theorem small34 (a0 a1 : Int) {l : List ByteArray} (hl : l.length ≤ 17592186044416) {k : Nat} (hk : l.length < k) : ∃ b, caulklaw34_small.f k a0 a1 l = some b ∧ (b = true → l.length ≤ 12 ∧ ∀ s ∈ l, s.size ≤ 4096) := by
  have := small34_l0 a0 a1 l hl (k - l.length - 1) l.length 0 0 (by omega) (by omega) (by omega) (by omega) (fun j hj => by omega)
  rw [show k - l.length - 1 + l.length + 1 = k from by omega] at this
  exact this
theorem same5_l0 (a : List Int) (hl : a.length ≤ 1000) (K : Nat) : ∀ (d i : Nat), i + d = a.length → caulkref05_Same.l0 (K + d + 1) a a (a.length : Int) (i : Int) = some true
  | 0, i, h => by
    unfold caulkref05_Same.l0
    rw [if_neg (by omega)]
  | d + 1, i, h => by
    have hw : wrap64 ((i : Int) + 1) = ((i + 1 : Nat) : Int) := by unfold wrap64; omega
    rw [show K + (d + 1) + 1 = (K + d + 1) + 1 from by omega]
    unfold caulkref05_Same.l0
    rw [if_pos (by omega), if_pos (by omega), if_pos (by omega), if_pos (by omega), if_pos rfl, hw]
    exact same5_l0 a hl K d (i + 1) (by omega)
theorem same5 {a : List Int} (hl : a.length ≤ 1000) {K : Nat} (hK : 2000 ≤ K) : caulkref05_Same.f K a a = some true := by
  unfold caulkref05_Same.f
  rw [if_pos rfl]
  have := same5_l0 a hl (K - a.length - 1) a.length 0 (by omega)
  rw [show K - a.length - 1 + a.length + 1 = K from by omega] at this
  exact this
theorem strX_toB (s : ByteArray) : strX s.size (toB [s] 0) = s := strX_back _ _ (fun j _ => rfl)
theorem lives34 (K : Nat) (hK : 70100 ≤ K) : caulklaw34_lives.f K = some true := by
  obtain ⟨d, hd⟩ : ∃ d, d = toB [(⟨#[97, 98, 99]⟩ : ByteArray), (⟨#[100, 101, 102]⟩ : ByteArray)] := ⟨_, rfl⟩
  have hD : [(⟨#[97, 98, 99]⟩ : ByteArray), (⟨#[100, 101, 102]⟩ : ByteArray)] = mxS 2 3 d := by
    rw [hd]
    exact (mxS_toB (l := [(⟨#[97, 98, 99]⟩ : ByteArray), (⟨#[100, 101, 102]⟩ : ByteArray)]) (p := 3) (by decide)).symm
  obtain ⟨W, hW⟩ : ∃ W, W = GfM.mm 2 (allX 2) d := ⟨_, rfl⟩
  have hall : mxS 2 3 d ++ mxS 2 3 (GfM.mm 2 (cauX 2) d) = mxS 4 3 W := by rw [all_mxS 2 2 3 d, hW]
  have hsyn : ∀ i, i < 2 → ∀ j, j < 3 → syn 2 W i j = 0#8 := fun i hi j hj => by rw [hW]; exact codeW_syn (m := 2) d i j hi
  obtain ⟨p0, hp0⟩ : ∃ s, s = strX 3 (GfM.mm 2 (cauX 2) d 0) := ⟨_, rfl⟩
  obtain ⟨p1, hp1⟩ : ∃ s, s = strX 3 (GfM.mm 2 (cauX 2) d 1) := ⟨_, rfl⟩
  have hP : mxS 2 3 (GfM.mm 2 (cauX 2) d) = [p0, p1] := by rw [hp0, hp1]; rfl
  have hL : [(⟨#[97, 98, 99]⟩ : ByteArray), (⟨#[100, 101, 102]⟩ : ByteArray), p0, p1] = mxS 4 3 W := by rw [← hall, hP, ← hD]; rfl
  have hx1 : strX 3 (W 1) = (⟨#[100, 101, 102]⟩ : ByteArray) := by
    have h1 := txtS (n := 4) (p := 3) W (i := 1) (by omega)
    rw [← hL] at h1
    exact h1.symm
  have hx3 : strX 3 (W 3) = p1 := by
    have h1 := txtS (n := 4) (p := 3) W (i := 3) (by omega)
    rw [← hL] at h1
    exact h1.symm
  have hp1ne : p1 ≠ (⟨#[120, 121, 122]⟩ : ByteArray) := by rw [hp1, hd]; decide +kernel
  obtain ⟨o1, ho1⟩ : ∃ o, o = toB [(⟨#[100, 88, 102]⟩ : ByteArray)] 0 := ⟨_, rfl⟩
  have hs1 : strX 3 o1 = (⟨#[100, 88, 102]⟩ : ByteArray) := by rw [ho1]; exact strX_toB _
  obtain ⟨o3, ho3⟩ : ∃ o, o = toB [(⟨#[120, 121, 122]⟩ : ByteArray)] 0 := ⟨_, rfl⟩
  have hs3 : strX 3 o3 = (⟨#[120, 121, 122]⟩ : ByteArray) := by rw [ho3]; exact strX_toB _
  have hn : ∀ (f g : Nat → GfM.F), strX 3 f ≠ strX 3 g → ∃ j, j < 3 ∧ f j ≠ g j := fun f g h => Classical.byContradiction fun hh => h (strX_congr fun j hj => Classical.byContradiction fun e => hh ⟨j, hj, e⟩)
  have n1 := hn o1 (W 1) (by rw [hs1, hx1]; decide)
  have n3 := hn o3 (W 3) (by rw [hs3, hx3]; exact fun e => hp1ne e.symm)
  have hL1 : [(⟨#[97, 98, 99]⟩ : ByteArray), (⟨#[100, 88, 102]⟩ : ByteArray), p0, p1] = mxS 4 3 (setRow W 1 o1) := by rw [← mxS_set W o1 (by omega), ← hL, hs1]; rfl
  have hL3 : [(⟨#[97, 98, 99]⟩ : ByteArray), (⟨#[100, 101, 102]⟩ : ByteArray), p0, (⟨#[120, 121, 122]⟩ : ByteArray)] = mxS 4 3 (setRow W 3 o3) := by rw [← mxS_set W o3 (by omega), ← hL, hs3]; rfl
  obtain ⟨f1, -, -⟩ := fix_none (k := 2) (m := 2) (p := 3) W (by decide) (by decide) (by decide) hsyn (K := K - 1) (by omega)
  obtain ⟨f2, -, -⟩ := found (k := 2) (m := 2) (p := 3) (a := 1) W o1 (by decide) (by decide) (by decide) (by decide) hsyn (by decide) n1 (K := K - 1) (by omega)
  obtain ⟨-, f4, f3⟩ := found (k := 2) (m := 2) (p := 3) (a := 3) W o3 (by decide) (by decide) (by decide) (by decide) hsyn (by decide) n3 (K := K - 1) (by omega)
  have f3 := f3 (by decide)
  have henc := rsencode_ok (k := 2) (m := 2) (p := 3) d (by decide) (by decide) (by decide) (K := K) (by omega)
  -- the two that are asked of one piece of data, and one of parity
  obtain ⟨V, hV⟩ : ∃ V, V = toB [(⟨#[97]⟩ : ByteArray), (⟨#[98]⟩ : ByteArray)] := ⟨_, rfl⟩
  have hLV : [(⟨#[97]⟩ : ByteArray), (⟨#[98]⟩ : ByteArray)] = mxS 2 1 V := by
    rw [hV]
    exact (mxS_toB (l := [(⟨#[97]⟩ : ByteArray), (⟨#[98]⟩ : ByteArray)]) (p := 1) (by decide)).symm
  have f5 : ∃ r, locate_Find.f (K - 1) 1 1 [(⟨#[97]⟩ : ByteArray), (⟨#[98]⟩ : ByteArray)] = some (r, 10) := by
    have hl := lookF_mx (k := 1) (m := 1) (p := 1) V (by decide) (by decide) (by decide) (K := K - 1) (by omega)
    have s0 : syn 1 V 0 0 ≠ 0#8 := by rw [hV]; decide +kernel
    have hw := wrong_one (m := 1) (p := 1) (r := 0) (S := syn 1 V) (by decide) (by decide) (fun i hi h => absurd hi (by omega)) ⟨0, by decide, s0⟩
    have c0 : cauX 1 0 0 ≠ 0#8 := cauX_ne (k := 1) (m := 1) (by decide) (by decide) (by decide)
    have hex : expl 1 1 1 (syn 1 V) 0 := fun i hi j hj => by
      have : i = 0 := by omega
      subst this
      exact inv_back c0
    have hmf := mayF_one (k := 1) (m := 1) (p := 1) (q := 0) (syn 1 V) (by decide) hex (fun r hr hr0 => absurd hr (by omega)) 1 (by decide)
    have hml : (mayL 1 1 (mxS 1 1 (syn 1 V))).length = 2 := by
      unfold mayL
      rw [mxS_length, hw, hmf]
      rfl
    refine ⟨0, ?_⟩
    have e11 : (((1 : Nat) : Int)) = 1 := rfl
    rw [e11] at hl
    unfold locate_Find.f
    rw [hLV, hl]
    simp only [Option.bind_some]
    rw [if_neg (by simp), mxS_length, hw, if_neg (by simp)]
    have hfr : findR 1 1 (mxS 1 1 (syn 1 V)) = (0, ⟨#[]⟩, 10) := by
      unfold findR
      rw [if_neg (by rw [hml]; decide)]
    rw [show (1 : Int).toNat = 1 from rfl, hfr]
  have f6 : ∃ r, locate_Find.f (K - 1) 1 1 [(⟨#[97]⟩ : ByteArray)] = some (r, 2) := by
    have hw : lookWhy 1 1 [(⟨#[97]⟩ : ByteArray)] = 2 := by
      unfold lookWhy
      rw [if_neg (by decide), if_pos (.inl (by decide))]
    refine ⟨0, ?_⟩
    unfold locate_Find.f lookF
    rw [if_pos (by rw [hw]; decide), hw]
    rfl
  obtain ⟨r5, f5⟩ := f5
  obtain ⟨r6, f6⟩ := f6
  unfold caulklaw34_lives.f
  have e22 : (((2 : Nat) : Int)) = 2 := rfl
  rw [e22] at henc f1 f2 f3 f4
  rw [hD, henc, hP]
  simp only [Option.bind_some]
  rw [if_pos (by trivial)]
  obtain ⟨K, rfl⟩ : ∃ q, K = q + 1 := ⟨K - 1, by omega⟩
  rw [Nat.add_sub_cancel] at f1 f2 f3 f4 f5 f6
  have hb : (((([p0, p1] : List ByteArray).length : Int)) != 2) = false := rfl
  rw [hb]
  rw [caulklaw34_lives.j0]
  have q0 : rdOf ByteArray.empty [p0, p1] 0 = p0 := rfl
  have q1 : rdOf ByteArray.empty [p0, p1] 1 = p1 := rfl
  rw [if_neg (by decide), if_pos (by simp), if_pos (by simp), q0, q1, hL, f1]
  simp only [Option.bind_some]
  rw [hL1, f2]
  simp only [Option.bind_some]
  rw [hL3, f3]
  simp only [Option.bind_some]
  rw [f4]
  simp only [Option.bind_some]
  rw [f5]
  simp only [Option.bind_some]
  rw [f6]
  simp only [Option.bind_some]
  rw [if_pos (by trivial), if_pos (by trivial), if_pos (by trivial), if_pos (by trivial)]
  have e31 : (((3 - 2 : Nat) : Int)) = 1 := rfl
  rw [e31, same5 (a := [1]) (by decide) (by omega)]
  simp only [Option.bind_some]
  rw [if_pos (by trivial), if_pos (by trivial), same4 (by rw [mxS_length]; decide) (by omega)]
  simp only [Option.bind_some]
  rw [if_pos (by trivial), if_pos (by trivial), if_pos (by trivial), if_pos (by trivial)]
  rfl
theorem bits_and32 (a b : BitVec 32) : Go.bits .and .u32 (a.toNat : Int) (b.toNat : Int) = ((a &&& b).toNat : Int) := by
  have h := (a &&& b).isLt
  have ea : BitVec.ofInt 32 (a.toNat : Int) = a := by simp
  have eb : BitVec.ofInt 32 (b.toNat : Int) = b := by simp
  show IntKind.u32.wrap (((BitVec.ofInt 32 (a.toNat : Int)) &&& (BitVec.ofInt 32 (b.toNat : Int))).toNat : Int) = _
  rw [ea, eb, IntKind.wrap_u32]
  omega
theorem bits_or32 (a b : BitVec 32) : Go.bits .or .u32 (a.toNat : Int) (b.toNat : Int) = ((a ||| b).toNat : Int) := by
  have h := (a ||| b).isLt
  have ea : BitVec.ofInt 32 (a.toNat : Int) = a := by simp
  have eb : BitVec.ofInt 32 (b.toNat : Int) = b := by simp
  show IntKind.u32.wrap (((BitVec.ofInt 32 (a.toNat : Int)) ||| (BitVec.ofInt 32 (b.toNat : Int))).toNat : Int) = _
  rw [ea, eb, IntKind.wrap_u32]
  omega
theorem and_top (a : BitVec 32) : (Go.bits .and .u32 (a.toNat : Int) 2147483648 = 0) ↔ a.msb = false := by
  have h := bits_and32 a 0x80000000#32
  have e : ((0x80000000#32 : BitVec 32).toNat : Int) = 2147483648 := by decide
  rw [e] at h
  rw [h]
  have h2 : (a &&& 0x80000000#32).toNat = if a.msb then 2147483648 else 0 := by
    have h3 : a &&& 0x80000000#32 = if a.msb then 0x80000000#32 else 0#32 := by
      apply BitVec.eq_of_getLsbD_eq
      intro i hi
      rw [BitVec.getLsbD_and]
      have hm : a.msb = a.getLsbD 31 := by rw [BitVec.msb_eq_getLsbD_last]
      have hc : ∀ j, j < 32 → (0x80000000#32 : BitVec 32).getLsbD j = decide (j = 31) := by decide
      rw [hc i hi]
      by_cases h31 : i = 31
      · subst h31; rw [hm]; cases a.getLsbD 31 <;> rfl
      · rw [hm]; cases a.getLsbD 31 <;> simp [h31, hc i hi]
    rw [h3]; cases a.msb <;> rfl
  rw [h2]
  cases a.msb <;> simp
theorem and_one (a : BitVec 32) : Go.bits .and .u32 (a.toNat : Int) 1 = ((a.toNat % 2 : Nat) : Int) := by
  have := Go.bits_mask .u32 32 (by decide) (fun n h0 h1 => by rw [IntKind.wrap_u32]; omega) 1 (by decide) (a.toNat : Int) (by omega) (by have := a.isLt; omega)
  simpa using this
theorem poly_toNat : ((CrcM.poly : BitVec 32).toNat : Int) = 2197175160 := by decide
theorem st_int (b : BitVec 32) : Go.bits .xor .u32 ((b.toNat : Int) / 2) (Go.bits .and .u32 2197175160 ((-(Go.bits .and .u32 (b.toNat : Int) 1)) % 4294967296)) = ((CrcM.st b).toNat : Int) := by
  rw [and_one]
  have hb := b.isLt
  have e2 : ((b >>> 1).toNat : Int) = (b.toNat : Int) / 2 := by
    rw [BitVec.toNat_ushiftRight, Nat.shiftRight_eq_div_pow]; omega
  unfold CrcM.st
  rw [CrcM.getLsb0]
  rcases Nat.mod_two_eq_zero_or_one b.toNat with h | h
  · rw [h]
    have e1 : Go.bits .and .u32 2197175160 ((-((0 : Nat) : Int)) % 4294967296) = 0 := by decide
    have h3 := bits_xor32 (b >>> 1) 0#32
    rw [e1, ← e2]
    have e0 : (((0#32 : BitVec 32).toNat : Nat) : Int) = 0 := by decide
    rw [e0] at h3
    rw [h3]; simp
  · rw [h]
    have e1 : Go.bits .and .u32 2197175160 ((-((1 : Nat) : Int)) % 4294967296) = 2197175160 := by decide +kernel
    have h3 := bits_xor32 (b >>> 1) CrcM.poly
    rw [poly_toNat] at h3
    rw [e1, ← e2, h3]; simp
theorem shl_int (a : BitVec 32) : (a.toNat : Int) * (2 : Int) % (4294967296 : Int) = ((a <<< 1).toNat : Int) := by
  rw [BitVec.toNat_shiftLeft, Nat.shiftLeft_eq]; omega

theorem mul_loop (j : Nat) : ∀ (k : Nat) (a b p : BitVec 32), j < k → a <<< j = 0#32 → combine_mul.l0 k a.toNat b.toNat p.toNat = some ((p ^^^ CrcM.mulk j a b).toNat : Int) := by
  induction j with
  | zero =>
    intro k a b p hk h
    obtain ⟨k, rfl⟩ : ∃ m, k = m + 1 := ⟨k - 1, by omega⟩
    have ha : a = 0#32 := by simpa using h
    subst ha
    simp [combine_mul.l0, CrcM.mulk]
  | succ j ih =>
    intro k a b p hk h
    obtain ⟨k, rfl⟩ : ∃ m, k = m + 1 := ⟨k - 1, by omega⟩
    by_cases h0 : a = 0#32
    · subst h0
      rw [CrcM.mulk_zero]
      simp [combine_mul.l0]
    · have hn : ¬ ((a.toNat : Int) = 0) := by
        intro e; apply h0; apply BitVec.eq_of_toNat_eq; simp; omega
      simp only [combine_mul.l0]
      rw [if_neg hn, shl_int, st_int, bits_xor32]
      have h' : (a <<< 1) <<< j = 0#32 := by rw [← BitVec.shiftLeft_add, Nat.add_comm]; exact h
      simp only [CrcM.mulk]
      cases hm : a.msb
      · rw [if_pos ((and_top a).2 hm), ih k _ _ _ (by omega) h']
        simp
      · rw [if_neg (fun e => by have := (and_top a).1 e; rw [hm] at this; cases this), ih k _ _ _ (by omega) h']
        simp [BitVec.xor_assoc]
theorem mul_eq (k : Nat) (hk : 32 < k) (a b : BitVec 32) : combine_mul.f k a.toNat b.toNat = some ((CrcM.mul a b).toNat : Int) := by
  have h := mul_loop 32 k a b 0#32 hk (by simp)
  unfold combine_mul.f
  have e0 : (((0#32 : BitVec 32).toNat : Nat) : Int) = 0 := by decide
  rw [e0] at h
  rw [h]; simp [CrcM.mul]
theorem and_one64 (n : Nat) (h : n < 2 ^ 62) : Go.bits .and .i64 (n : Int) 1 = ((n % 2 : Nat) : Int) := by
  have := Go.bits_mask .i64 63 (by decide) (fun n h0 h1 => by rw [IntKind.wrap_i64]; omega) 1 (by decide) (n : Int) (by omega) (by omega)
  simpa using this
theorem power_loop (j : Nat) : ∀ (k n : Nat) (x p : BitVec 32), j + 33 < k → n < 2 ^ j → j ≤ 62 → combine_power.l0 k x.toNat n p.toNat = some ((CrcM.mul p (CrcM.pw x n)).toNat : Int) := by
  induction j with
  | zero =>
    intro k n x p hk hn _
    obtain ⟨k, rfl⟩ : ∃ m, k = m + 1 := ⟨k - 1, by omega⟩
    have : n = 0 := by simpa using hn
    subst this
    simp [combine_power.l0, CrcM.pw, CrcM.mul_one_right]
  | succ j ih =>
    intro k n x p hk hn hj
    obtain ⟨k, rfl⟩ : ∃ m, k = m + 1 := ⟨k - 1, by omega⟩
    have h62 : n < 2 ^ 62 := Nat.lt_of_lt_of_le hn (Nat.pow_le_pow_right (by decide) hj)
    have hn2 : n / 2 < 2 ^ j := by rw [Nat.pow_succ] at hn; omega
    simp only [combine_power.l0]
    by_cases h0 : n = 0
    · subst h0; simp [CrcM.pw, CrcM.mul_one_right]
    · rw [if_pos (by omega), and_one64 n h62, mul_eq k (by omega), mul_eq k (by omega), CrcM.pw_round]
      simp only [Option.bind_some]
      rw [show ((n : Int) / 2) = ((n / 2 : Nat) : Int) from by omega]
      by_cases h1 : n % 2 = 1
      · rw [if_pos (by omega), if_pos h1, ih k _ _ _ (by omega) hn2 (by omega)]
      · rw [if_neg (by omega), if_neg h1, ih k _ _ _ (by omega) hn2 (by omega)]
theorem power_eq (k n : Nat) (hk : 80 < k) (hn : n < 2 ^ 41) (x : BitVec 32) : combine_power.f k x.toNat n = some ((CrcM.pw x n).toNat : Int) := by
  have h := power_loop 41 k n x CrcM.one (by omega) hn (by decide)
  have e : (((CrcM.one : BitVec 32).toNat : Nat) : Int) = 2147483648 := by decide
  rw [e] at h
  unfold combine_power.f
  rw [h, CrcM.mul_one_left]
theorem by_eq (k : Nat) (hk : 82 < k) (a x : BitVec 32) (n : Int) (h0 : 0 ≤ n) (h1 : n ≤ 1099511627776) : combine_by.f k a.toNat x.toNat n = some (((CrcM.mul a (CrcM.pw x n.toNat)).toNat : Int), 0) := by
  obtain ⟨k, rfl⟩ : ∃ m, k = m + 1 := ⟨k - 1, by omega⟩
  obtain ⟨m, rfl⟩ := Int.eq_ofNat_of_zero_le h0
  unfold combine_by.f
  rw [if_neg (by omega), decide_eq_false (by omega)]
  simp only [combine_by.j0, Bool.false_eq_true, if_false]
  rw [power_eq k m (by omega) (by omega)]
  simp only [Option.bind_some]
  rw [mul_eq k (by omega)]
  simp
theorem shift_eq (k : Nat) (hk : 82 < k) (a : BitVec 32) (n : Int) (h0 : 0 ≤ n) (h1 : n ≤ 1099511627776) : combine_Shift.f k a.toNat n = some (((CrcM.stn (8 * n.toNat) a).toNat : Int), 0) := by
  have h := by_eq k hk a CrcM.byte1 n h0 h1
  rw [CrcM.mul_pw_byte1] at h
  have e : (((CrcM.byte1 : BitVec 32).toNat : Nat) : Int) = 8388608 := by decide
  rw [e] at h
  unfold combine_Shift.f
  rw [h]; rfl
theorem not32 (x : BitVec 32) : Go.bits .xor .u32 4294967295 (x.toNat : Int) = ((~~~ x).toNat : Int) := by
  have h := bits_xor32 CrcM.ones x
  have e : (((CrcM.ones : BitVec 32).toNat : Nat) : Int) = 4294967295 := by decide
  rw [e] at h
  rw [h, show CrcM.ones = BitVec.allOnes 32 from by decide, BitVec.allOnes_xor]
theorem sum_eq (s : ByteArray) (hs : s.size ≤ 140737488355328) : crc_Sum.f s = some ((CrcM.sum s.data.toList).toNat : Int) := by
  unfold crc_Sum.f crc_Start.f crc_Add.f crc_End.f
  simp only [Option.bind_some]
  rw [if_pos ⟨by decide, by decide, hs⟩]
  simp only [Option.bind_some]
  unfold crcI
  rw [show BitVec.ofInt 32 4294967295 = CrcM.ones from by decide, not32]
  rfl
theorem join_eq (k : Nat) (hk : 82 < k) (a b : BitVec 32) (n : Int) (h0 : 0 ≤ n) (h1 : n ≤ 1099511627776) : combine_Join.f k a.toNat b.toNat n = some (((CrcM.stn (8 * n.toNat) a ^^^ b).toNat : Int), 0) := by
  unfold combine_Join.f
  rw [shift_eq k hk a n h0 h1]
  simp only [Option.bind_some, if_true]
  rw [bits_xor32]
/-- The sum of a text, as a number. -/
def crcN (s : ByteArray) : Int := ((CrcM.sum s.data.toList).toNat : Int)
/-- The first n pieces in one text. -/
def catX (l : List ByteArray) : Nat → ByteArray
  | 0 => (⟨#[]⟩ : ByteArray)
  | n + 1 => catX l n ++ txt l n
theorem catX_size {l : List ByteArray} (hs : ∀ s ∈ l, s.size ≤ 65536) : ∀ n, n ≤ l.length → (catX l n).size ≤ 65536 * n := by
  intro n
  induction n with
  | zero => intro _; exact Nat.le_of_eq rfl
  | succ n ih =>
    intro hn
    have h1 := ih (by omega)
    have h2 : (txt l n).size ≤ 65536 := by rw [txt_get l (by omega : n < l.length)]; exact hs _ (List.getElem_mem _)
    have h3 : (catX l (n + 1)).size = (catX l n).size + (txt l n).size := ByteArray.size_append
    omega
theorem join_cat (k : Nat) (hk : 82 < k) (a b : ByteArray) (hb : b.size ≤ 65536) : combine_Join.f k (crcN a) (crcN b) (b.size : Int) = some (crcN (a ++ b), 0) := by
  unfold crcN
  rw [join_eq k hk _ _ _ (by omega) (by omega)]
  have e8 : 8 * ((b.size : Int)).toNat = 8 * b.data.toList.length := by simp
  rw [e8, CrcM.join_sum]
  have hd : (a ++ b).data.toList = a.data.toList ++ b.data.toList := by
    rw [ByteArray.data_append]; simp
  rw [hd]
theorem rdOf_txt' (l : List ByteArray) (i : Nat) : rdOf ByteArray.empty l (i : Int) = txt l i := by simp [rdOf, txt]
theorem mended_l1 {l : List ByteArray} (hl : l.length ≤ 255) (hs : ∀ s ∈ l, s.size ≤ 65536) (x0 x1 x3 : Int) (x4 : ByteArray)
    (hJ : ∀ (b : Bool) (G : Nat), 80000 ≤ G → (b = false → 2 ≤ x1 ∧ 0 ≤ x3 ∧ x3 < (l.length : Int) ∧ (x4.size : Int) = ((rdOf ByteArray.empty l x3).size : Int)) → caulktop_TopMended.j3 G x0 x1 x3 x4 l (crcN (catX l l.length)) b = some true) :
    ∀ (d i K : Nat), i + d = l.length → 80100 + d ≤ K → caulktop_TopMended.l1 K x0 x1 x3 x4 l (catX l i) (crcN (catX l i)) l (l.length : Int) (i : Int) = some true := by
  intro d
  induction d with
  | zero =>
    intro i K hi hK
    obtain ⟨K, rfl⟩ : ∃ q, K = q + 1 := ⟨K - 1, by omega⟩
    have hi' : i = l.length := by omega
    subst hi'
    have hz := catX_size hs l.length (Nat.le_refl _)
    rw [caulktop_TopMended.l1, if_neg (by omega), sum_eq _ (by omega)]
    simp only [Option.bind_some]
    rw [if_pos (by rfl)]
    by_cases c1 : x1 < 2
    · rw [if_pos c1]; exact hJ true K (by omega) (fun h => by cases h)
    · rw [if_neg c1]
      by_cases c2 : x3 < 0
      · rw [if_pos c2]; exact hJ true K (by omega) (fun h => by cases h)
      · rw [if_neg c2]
        by_cases c3 : x3 ≥ (l.length : Int)
        · rw [if_pos c3]; exact hJ true K (by omega) (fun h => by cases h)
        · rw [if_neg c3, if_pos (by omega), if_pos (by omega)]
          refine hJ _ K (by omega) (fun h => ⟨by omega, by omega, by omega, ?_⟩)
          exact bne_eq_false_iff_eq.1 h
  | succ d ih =>
    intro i K hi hK
    obtain ⟨K, rfl⟩ : ∃ q, K = q + 1 := ⟨K - 1, by omega⟩
    have hw : wrap64 ((i : Int) + 1) = ((i + 1 : Nat) : Int) := by unfold wrap64; omega
    have h2 : (txt l i).size ≤ 65536 := by rw [txt_get l (by omega : i < l.length)]; exact hs _ (List.getElem_mem _)
    have hz := catX_size hs i (by omega)
    have e1 : crc_Sum.f (txt l i) = some (crcN (txt l i)) := sum_eq _ (by omega)
    rw [caulktop_TopMended.l1, if_pos (by omega), if_pos (by omega), if_pos (by omega), rdOf_txt', e1]
    simp only [Option.bind_some]
    rw [join_cat K (by omega) _ _ h2]
    simp only [Option.bind_some]
    rw [if_pos (by trivial), if_pos (by omega), hw]
    exact ih (i + 1) K (by omega) (by omega)
theorem mended_l2 {l : List ByteArray} (hl : l.length ≤ 255) (hs : ∀ s ∈ l, s.size ≤ 65536) :
    ∀ (d i K : Nat), i + d = l.length → d < K → caulktop_TopMended.l2 K (catX l i) (crcN (catX l l.length)) l (l.length : Int) (i : Int) = some true := by
  intro d
  induction d with
  | zero =>
    intro i K hi hK
    obtain ⟨K, rfl⟩ : ∃ q, K = q + 1 := ⟨K - 1, by omega⟩
    have hi' : i = l.length := by omega
    subst hi'
    have hz := catX_size hs l.length (Nat.le_refl _)
    have e1 : crc_Sum.f (catX l l.length) = some (crcN (catX l l.length)) := sum_eq _ (by omega)
    rw [caulktop_TopMended.l2, if_neg (by omega), e1]
    simp
  | succ d ih =>
    intro i K hi hK
    obtain ⟨K, rfl⟩ : ∃ q, K = q + 1 := ⟨K - 1, by omega⟩
    have hw : wrap64 ((i : Int) + 1) = ((i + 1 : Nat) : Int) := by unfold wrap64; omega
    have h2 : (txt l i).size ≤ 65536 := by rw [txt_get l (by omega : i < l.length)]; exact hs _ (List.getElem_mem _)
    have hz := catX_size hs i (by omega)
    rw [caulktop_TopMended.l2, if_pos (by omega), if_pos (by omega), if_pos (by omega), rdOf_txt', if_pos (by omega), hw]
    exact ih (i + 1) K (by omega) (by omega)
theorem bytes_toX {p : Nat} {o : ByteArray} (h : o.size = p) : strX p (toB [o] 0) = o := by rw [← h]; exact strX_toB o
theorem mxS_sizes {n p : Nat} (W : GfM.Mx) (hp : p ≤ 65536) : ∀ s ∈ mxS n p W, s.size ≤ 65536 := by
  intro s hs
  obtain ⟨i, _, rfl⟩ := List.mem_map.1 hs
  rw [strX_size]
  exact hp
theorem mended_j4 {l : List ByteArray} (hl : l.length ≤ 255) (hs : ∀ s ∈ l, s.size ≤ 65536) (G : Nat) (hG : 1000 ≤ G) : caulktop_TopMended.j4 G (crcN (catX l l.length)) l false = some true := by
  obtain ⟨G, rfl⟩ : ∃ q, G = q + 1 := ⟨G - 1, by omega⟩
  rw [caulktop_TopMended.j4, if_neg (by decide)]
  exact mended_l2 hl hs l.length 0 G (by omega) (by omega)
theorem mended_j3 {k m p : Nat} (W : GfM.Mx) (k1 : 1 ≤ k) (hkm : k + m ≤ 255) (hp : p ≤ 65536) (hsyn : ∀ i, i < m → ∀ j, j < p → syn k W i j = 0#8) (x3 : Int) (o : ByteArray) (b : Bool) (G : Nat) (hG : 80000 ≤ G)
    (hb : b = false → 2 ≤ (m : Int) ∧ 0 ≤ x3 ∧ x3 < ((mxS (k + m) p W).length : Int) ∧ (o.size : Int) = ((rdOf ByteArray.empty (mxS (k + m) p W) x3).size : Int)) :
    caulktop_TopMended.j3 G (k : Int) (m : Int) x3 o (mxS (k + m) p W) (crcN (catX (mxS (k + m) p W) (mxS (k + m) p W).length)) b = some true := by
  obtain ⟨G, rfl⟩ : ∃ q, G = q + 1 := ⟨G - 1, by omega⟩
  rw [caulktop_TopMended.j3]
  cases b with
  | true => rw [if_pos rfl]
  | false =>
    obtain ⟨h1, h2, h3, h4⟩ := hb rfl
    have hlen := mxS_length (k + m) p W
    have hj4 := mended_j4 (l := mxS (k + m) p W) (by omega) (mxS_sizes W hp) G (by omega)
    obtain ⟨a, rfl⟩ : ∃ a : Nat, x3 = a := ⟨x3.toNat, by omega⟩
    have ha : a < k + m := by omega
    rw [rdS W ha, strX_size] at h4
    have ho := bytes_toX (p := p) (o := o) (by omega)
    obtain ⟨f, hf⟩ : ∃ f, f = toB [o] 0 := ⟨_, rfl⟩
    rw [← hf] at ho
    rw [if_neg (by decide)]
    simp only [Option.bind_some, List.nil_append]
    rw [if_pos (by simp; omega)]
    rw [if_pos (by omega), if_pos (by omega), Int.toNat_natCast, ← ho, mxS_set W f ha]
    by_cases hne : ∃ j, j < p ∧ f j ≠ W a j
    · obtain ⟨-, g2, -⟩ := found W f k1 hkm hp (by omega) hsyn ha hne (K := G) (by omega)
      rw [g2]
      simp only [Option.bind_some]
      rw [if_pos (by trivial), if_pos (by trivial), if_pos (by trivial)]
      exact hj4
    · have e : mxS (k + m) p (setRow W a f) = mxS (k + m) p W := mxS_congr fun i hi j hj => by
        unfold setRow
        by_cases ei : i = a
        · subst ei
          rw [if_pos rfl]
          exact Classical.byContradiction fun hh => hne ⟨j, hj, hh⟩
        · rw [if_neg ei]
      rw [e, (fix_none W k1 hkm hp hsyn (K := G) (by omega)).2.1]
      simp only [Option.bind_some]
      have hb2 : ((-1 : Int) != (-1)) = false := by decide
      rw [if_pos (by trivial), if_pos (by trivial), if_neg (by omega), hb2]
      exact hj4
theorem mended_l0 {a0 a1 a3 : Int} {l : List ByteArray} (a4 : ByteArray) (hl : l.length ≤ 8796093022207) : ∀ (d i K : Nat), i + d = l.length → 100000 + l.length + d ≤ K → caulktop_TopMended.l0 K a0 a1 l a3 a4 l (l.length : Int) (i : Int) = some true := by
  intro d
  induction d with
  | zero =>
    intro i K hi hK
    obtain ⟨K, rfl⟩ : ∃ q, K = q + 1 := ⟨K - 1, by omega⟩
    rw [caulktop_TopMended.l0, if_neg (by omega)]
    rcases rsencode (a0 := a0) (a1 := a1) (l := l) (by omega) (K := K) (by omega) (by omega) with ⟨k, m, p, D, rfl, rfl, k1, hkm, hp, rfl, hE⟩ | ⟨e, he, hE⟩
    · rw [hE]
      have hsyn : ∀ i, i < m → ∀ j, j < p → syn k (GfM.mm k (allX k) D) i j = 0#8 := fun i hi j hj => codeW_syn (m := m) D i j hi
      obtain ⟨W, hW⟩ : ∃ W, W = GfM.mm k (allX k) D := ⟨_, rfl⟩
      rw [← hW] at hsyn
      have hall : mxS k p D ++ mxS m p (GfM.mm k (cauX k) D) = mxS (k + m) p W := by rw [all_mxS, hW]
      have l1 := mxS_length k p D
      have l2 := mxS_length m p (GfM.mm k (cauX k) D)
      have l3 := mxS_length (k + m) p W
      have e0 : crc_Sum.f (⟨#[]⟩ : ByteArray) = some (crcN (⟨#[]⟩ : ByteArray)) := sum_eq _ (by decide)
      simp only [Option.bind_some, List.nil_append, if_true]
      rw [if_pos (by simp; omega), if_pos (by omega), hall, e0]
      simp only [Option.bind_some]
      exact mended_l1 (l := mxS (k + m) p W) (by omega) (mxS_sizes W hp) (k : Int) (m : Int) a3 a4 (fun b G hG hb => mended_j3 W k1 hkm hp hsyn a3 a4 b G hG hb) (mxS (k + m) p W).length 0 K (by omega) (by omega)
    · rw [hE]
      simp only [Option.bind_some]
      rw [if_neg he]
      rfl
  | succ d ih =>
    intro i K hi hK
    obtain ⟨K, rfl⟩ : ∃ q, K = q + 1 := ⟨K - 1, by omega⟩
    have hw : wrap64 ((i : Int) + 1) = ((i + 1 : Nat) : Int) := by unfold wrap64; omega
    rw [caulktop_TopMended.l0, if_pos (by omega), if_pos (by omega), if_pos (by omega)]
    by_cases c : ((rdOf ByteArray.empty l (i : Int)).size : Int) > 1024
    · rw [if_pos c]
    · rw [if_neg c, hw]
      exact ih (i + 1) K (by omega) (by omega)
theorem begins_eq : caulktop_begins.f = some true := by
  unfold caulktop_begins.f
  rw [sum_eq _ (by decide)]
  have : CrcM.sum (⟨#[49, 50, 51, 52, 53, 54, 55, 56, 57]⟩ : ByteArray).data.toList = 0xe3069283#32 := by decide +kernel
  rw [this]
  rfl
theorem TopMended : caulktop_TopMended.Pure := by
  intro a0 a1 l2 a3 a4 w0 w1 w2 w3 w4
  have h2 : l2.length ≤ 8796093022202 := by have := w2.1; omega
  obtain ⟨F, hF⟩ : ∃ F : Nat, F = 200000 + 2 * l2.length := ⟨_, rfl⟩
  refine ⟨F + 1, ?_⟩
  have hj : ∀ b, caulktop_TopMended.j0 (F + 1) a0 a1 l2 a3 a4 b = some true := by
    intro b
    rw [caulktop_TopMended.j0]
    cases b with
    | true => rw [if_pos rfl]
    | false =>
      rw [if_neg (by decide)]
      exact mended_l0 a4 (by omega) l2.length 0 F (by omega) (by omega)
  unfold caulktop_TopMended.f
  rw [begins_eq]
  simp only [Option.bind_some, if_true]
  repeat' split
  all_goals exact hj _
end Go.Proofs.YteiiaonpdamkhaaDoor.Pure
