/- LocateTells: the pure statement: numbers and lists alone. Conditions: those of the statement itself. -/
import Derived.Test.YteiiaonpdamkhaaDoorGx11
import Derived.OpenShut
import Derived.Test.YteiiaonpdamkhaaDoorLocFix
import Derived.Test.YteiiaonpdamkhaaDoorMatRef3
import Derived.Test.YteiiaonpdamkhaaDoorMatCheck
import Derived.Lib.TrimByte
import Derived.Lib.Bytes
import Derived.Test.YteiiaonpdamkhaaDoorDedTrim
namespace Go.Proofs.YteiiaonpdamkhaaDoor.Pure
open Go.Proofs.YteiiaonpdamkhaaDoor.G.RefI Go.RowKit Go.Proofs.YteiiaonpdamkhaaDoor.G Go.Proofs.YteiiaonpdamkhaaDoorW.PrintWords Go.Proofs.YteiiaonpdamkhaaDoorW.PrintLast Go.Proofs.YteiiaonpdamkhaaDoorW.PrintMore Go.OpenShut
set_option linter.unusedVariables false
set_option linter.unusedSimpArgs false
theorem refrows_l0 {n p : Nat} (A : GfM.Mx) (hn : n ≤ 255) (hp : p ≤ 255) (rows : List Int) (hr : rows.length ≤ 255) (K : Nat) : ∀ (d i : Nat) (acc : List (List Int)), i + d = rows.length → acc = mxL i p (fun k c => A (rows.getD k 0).toNat c) → (∀ j, j < i → 0 ≤ rows.getD j 0 ∧ rows.getD j 0 < (n : Int)) →
    caulkref03_Rows.l0 (K + d + 1) (mxL n p A) acc rows (rows.length : Int) (i : Int) = some (if ∀ x ∈ rows, 0 ≤ x ∧ x < (n : Int) then (mxL rows.length p (fun k c => A (rows.getD k 0).toNat c), 0) else ([], 1))
  | 0, i, acc, h, ha, hg => by
    have f0 : ¬ (i : Int) < (rows.length : Int) := by omega
    show (if (i : Int) < (rows.length : Int) then _ else some (acc, 0)) = _
    rw [if_neg f0, if_pos (fun x hx => by
      obtain ⟨j, hj, rfl⟩ := List.mem_iff_getElem.1 hx
      have := hg j (by omega)
      rwa [List.getD_eq_getElem?_getD, List.getElem?_eq_getElem hj] at this), ha, show i = rows.length from by omega]
  | d + 1, i, acc, h, ha, hg => by
    have hi : i < rows.length := by omega
    have f0 : (i : Int) < (rows.length : Int) := by omega
    have f1 : (0 : Int) ≤ (i : Int) := by omega
    have hrd : rd rows (i : Int) = rows.getD i 0 := by unfold rd; rw [Int.toNat_natCast]
    have hmem : rows.getD i 0 ∈ rows := by rw [List.getD_eq_getElem?_getD, List.getElem?_eq_getElem hi]; exact List.getElem_mem hi
    have hw : wrap64 ((i : Int) + 1) = ((i + 1 : Nat) : Int) := by clear hrd hg; unfold wrap64; omega
    have hal : acc.length = i := by rw [ha, mxL_length]
    unfold caulkref03_Rows.l0
    rw [if_pos f0, if_pos f1, if_pos f0, hrd]
    by_cases b1 : rows.getD i 0 < 0
    · rw [if_pos b1, if_neg (fun hh => by have := (hh _ hmem).1; omega)]
    · rw [if_neg b1, mxL_length]
      by_cases b2 : rows.getD i 0 ≥ (n : Int)
      · rw [if_pos b2, if_neg (fun hh => by have := (hh _ hmem).2; omega)]
      · have b3 : (0 : Int) ≤ rows.getD i 0 := by omega
        have b4 : rows.getD i 0 < (n : Int) := by omega
        rw [if_neg b2]
        simp only [Option.bind_some]
        obtain ⟨q, hq⟩ := Int.eq_ofNat_of_zero_le b3
        have hqn : q < n := by omega
        have hrow : rd_L2 (mxL n p A) (rows.getD i 0) = rowL p (A q) := by rw [hq]; exact rd_L2_mxL A hqn
        rw [if_pos b3, if_pos b4, if_pos (by rw [hrow, rowL_length, List.length_nil]; omega), if_pos (by omega), hw, hrow, List.nil_append]
        refine refrows_l0 A hn hp rows hr K d (i + 1) _ (by omega) ?_ (fun j hj => ?_)
        · rw [ha]
          unfold mxL
          rw [List.range_succ, List.map_append, List.map_cons, List.map_nil]
          show _ ++ [rowL p (A q)] = _ ++ [rowL p (fun c => A (rows.getD i 0).toNat c)]
          rw [hq, Int.toNat_natCast]
        · by_cases e : j = i
          · subst e; exact ⟨b3, b4⟩
          · exact hg j (by omega)
theorem refrows_j0 (K : Nat) (x0 : List (List Int)) (x1 : List Int) (b : Bool) : caulkref03_Rows.j0 (K + 1) x0 x1 b = if b = true then (some (([] : List (List Int)), 1)) else (caulkref03_Rows.l0 K x0 ([] : List (List Int)) x1 (x1.length : Int) 0) := rfl
theorem refrows {l : List (List Int)} (hb : BytesM l) (rows : List Int) {k : Nat} (hk : 1000 ≤ k) : caulkref03_Rows.f k l rows = matrix_Rows.f l rows := by
  obtain ⟨K, rfl⟩ : ∃ K, k = K + 1 := ⟨k - 1, by omega⟩
  unfold caulkref03_Rows.f matrix_Rows.f
  rw [refcheck_eq l (K + 1) (by omega), if_pos hb]
  simp only [Option.bind_some]
  by_cases ho : OkM l
  · rw [if_pos ho, if_pos (by first | rfl | trivial), if_pos ho, refrows_j0, refrows_j0]
    by_cases h1 : (rows.length : Int) < 1
    · rw [if_pos h1, if_pos rfl, if_neg (by omega)]
    · rw [if_neg h1]
      by_cases h2 : (rows.length : Int) > 255
      · rw [decide_eq_true h2, if_pos rfl, if_neg (by omega)]
      · rw [decide_eq_false h2, if_neg (by decide), if_pos (by omega)]
        have hl := mxL_toMx hb ho
        have := refrows_l0 (n := l.length) (p := colsM l) (toMx l) ho.2.1 ho.2.2.2.1 rows (by omega) (K - rows.length - 1) rows.length 0 [] (by omega) rfl (fun j hj => by omega)
        rw [hl, show K - rows.length - 1 + rows.length + 1 = K from by omega] at this
        exact this
  · rw [if_neg ho, if_neg (by decide), if_neg ho]
theorem cauf (k m : Nat) (h1 : 1 ≤ k) (h2 : 1 ≤ m) (h3 : k + m ≤ 255) : matrix_Cauchy.f (k : Int) (m : Int) = some (mxL m k (cauX k), 0) := by
  unfold matrix_Cauchy.f
  rw [if_pos (by omega), Int.toNat_natCast, Int.toNat_natCast]
theorem rd_L2_mxL {n p : Nat} (A : GfM.Mx) {i : Nat} (hi : i < n) : rd_L2 (mxL n p A) (i : Int) = rowL p (A i) := by
  rw [rd_L2_nat, List.getD_eq_getElem?_getD, mxL_get n p A i hi]; rfl
theorem rowL_set (p : Nat) (f : Nat → GfM.F) (j : Nat) (x : GfM.F) : (rowL p f).set j (x.toNat : Int) = rowL p (fun c => if c = j then x else f c) := by
  apply rowL_ext
  · rw [List.length_set, rowL_length]
  · intro c hc
    by_cases e : c = j
    · subst e
      rw [List.getD_eq_getElem?_getD, List.getElem?_set_self (by rw [rowL_length]; exact hc), if_pos rfl]; rfl
    · rw [List.getD_eq_getElem?_getD, List.getElem?_set_ne (fun e' => e e'.symm), ← List.getD_eq_getElem?_getD, rowL_get p f c hc, if_neg e]
theorem mxL_set {n p : Nat} (A : GfM.Mx) {i : Nat} (hi : i < n) (j : Nat) (x : GfM.F) : (mxL n p A).set i ((rowL p (A i)).set j (x.toNat : Int)) = mxL n p (fun r c => if r = i ∧ c = j then x else A r c) := by
  rw [rowL_set]
  apply List.ext_getElem?
  intro r
  by_cases hr : r < n
  · rw [mxL_get _ _ _ r hr]
    by_cases e : r = i
    · subst e
      rw [List.getElem?_set_self (by rw [mxL_length]; exact hr)]
      exact congrArg some (rowL_congr fun c _ => by by_cases e : c = j <;> simp [e])
    · rw [List.getElem?_set_ne (fun e' => e e'.symm), mxL_get _ _ _ r hr]
      exact congrArg some (rowL_congr fun c _ => by rw [if_neg (fun hh => e hh.1)])
  · rw [List.getElem?_eq_none (by rw [List.length_set, mxL_length]; omega), List.getElem?_eq_none (by rw [mxL_length]; omega)]
theorem rd_rowL {p : Nat} (f : Nat → GfM.F) {j : Nat} (hj : j < p) : rd (rowL p f) (j : Int) = ((f j).toNat : Int) := by
  unfold rd
  rw [Int.toNat_natCast, rowL_get p f j hj]
/-! ### rs over plain matrices -/
theorem bytesOf_isB (s : ByteArray) : ∀ x ∈ bytesOf s, isB x := by
  intro x hx
  simp only [bytesOf, List.mem_map] at hx
  obtain ⟨b, _, rfl⟩ := hx
  have := b.toNat_lt
  exact ⟨by omega, by omega⟩
theorem son_bytesOf (s : ByteArray) : strOfNums (bytesOf s) = s := by
  have : (strOfNums (bytesOf s)).data.toList = s.data.toList := by
    unfold strOfNums bytesOf
    simp only [List.map_map]
    conv => rhs; rw [← List.map_id s.data.toList]
    apply List.map_congr_left
    intro x hx
    simp
  cases s with
  | mk d =>
    cases h : strOfNums (bytesOf ⟨d⟩) with
    | mk e =>
      rw [h] at this
      exact congrArg ByteArray.mk (Array.toList_inj.1 this)
/-- Pieces of p bytes each. -/
def mxS (n p : Nat) (A : GfM.Mx) : List ByteArray := (List.range n).map fun i => strX p (A i)
theorem mxS_length (n p : Nat) (A : GfM.Mx) : (mxS n p A).length = n := by simp [mxS]
theorem mxS_get (n p : Nat) (A : GfM.Mx) (i : Nat) (hi : i < n) : (mxS n p A)[i]? = some (strX p (A i)) := by simp [mxS, hi]
theorem strX_congr {p : Nat} {f f' : Nat → GfM.F} (h : ∀ j, j < p → f j = f' j) : strX p f = strX p f' := by unfold strX; rw [rowL_congr h]
theorem mxS_congr {n p : Nat} {A A' : GfM.Mx} (h : ∀ i, i < n → ∀ j, j < p → A i j = A' i j) : mxS n p A = mxS n p A' := by
  unfold mxS
  apply List.map_congr_left
  intro i hi
  exact strX_congr (h i (List.mem_range.1 hi))
theorem rdS {n p : Nat} (A : GfM.Mx) {i : Nat} (hi : i < n) : rdOf ByteArray.empty (mxS n p A) (i : Int) = strX p (A i) := by
  unfold rdOf
  rw [Int.toNat_natCast, List.getD_eq_getElem?_getD, mxS_get n p A i hi]; rfl
theorem rdOf_nat (l : List ByteArray) (i : Nat) : rdOf ByteArray.empty l (i : Int) = l.getD i ByteArray.empty := by unfold rdOf; rw [Int.toNat_natCast]
/-- Pieces as a matrix. -/
def toB (l : List ByteArray) : GfM.Mx := fun i j => el ((bytesOf (l.getD i ByteArray.empty)).getD j 0)
theorem strX_back (s : ByteArray) (f : Nat → GfM.F) (h : ∀ j, j < s.size → f j = el ((bytesOf s).getD j 0)) : strX s.size f = s := by
  unfold strX
  have e : bytesOf s = rowL s.size f := rowL_ext (bytesOf_length s) (fun j hj => by
    have hm : (bytesOf s).getD j 0 ∈ bytesOf s := by rw [List.getD_eq_getElem?_getD, List.getElem?_eq_getElem (by rw [bytesOf_length]; exact hj)]; exact List.getElem_mem _
    have := bytesOf_isB s _ hm
    rw [h j hj]
    exact (el_back this.1 this.2).symm)
  rw [← e, son_bytesOf]
theorem mxS_toB {l : List ByteArray} {p : Nat} (h : ∀ s ∈ l, s.size = p) : mxS l.length p (toB l) = l := by
  apply List.ext_getElem?
  intro i
  by_cases hi : i < l.length
  · rw [mxS_get _ _ _ i hi, List.getElem?_eq_getElem hi]
    have hs := h _ (List.getElem_mem hi)
    congr 1
    rw [← hs]
    have e : l.getD i ByteArray.empty = l[i] := by rw [List.getD_eq_getElem?_getD, List.getElem?_eq_getElem hi]; rfl
    exact strX_back _ _ (fun j _ => by unfold toB; rw [e])
  · rw [List.getElem?_eq_none (by rw [mxS_length]; omega), List.getElem?_eq_none (by omega)]
theorem rscheck (a0 a1 : Int) : rs_Check.f a0 a1 = some (if 1 ≤ a0 ∧ a0 ≤ 255 ∧ 0 ≤ a1 ∧ a1 ≤ 255 - a0 then 0 else 1) := by
  unfold rs_Check.f
  by_cases h1 : a0 < 1
  · rw [if_pos h1, if_neg (by omega)]
  · rw [if_neg h1]
    by_cases h2 : a1 < 0
    · rw [if_pos h2, if_neg (by omega)]
    · rw [if_neg h2]
      by_cases h3 : a0 > 255
      · rw [if_pos h3, if_neg (by omega)]
      · rw [if_neg h3]
        have hw : wrap64 (255 - a0) = 255 - a0 := by unfold wrap64; omega
        rw [hw]
        by_cases h4 : a1 > 255 - a0
        · rw [if_pos h4, if_neg (by omega)]
        · rw [if_neg h4, if_pos (by omega)]
/-- Pieces are of one length, and not too long. -/
def Fits (l : List ByteArray) : Prop := ∀ s ∈ l, s.size = (l.getD 0 ByteArray.empty).size ∧ s.size ≤ 65536
instance (l : List ByteArray) : Decidable (Fits l) := by unfold Fits; infer_instance
theorem rsfits_l0 (l : List ByteArray) (hl : l.length ≤ 17592186044416) (K : Nat) : ∀ (d i : Nat), i + d = l.length → rs_fits.l0 (K + d + 1) l l (l.length : Int) (i : Int) = some (decide (∀ s ∈ l.drop i, s.size = (l.getD 0 ByteArray.empty).size ∧ s.size ≤ 65536))
  | 0, i, h => by
    have f0 : ¬ (i : Int) < (l.length : Int) := by omega
    show (if (i : Int) < (l.length : Int) then _ else some true) = _
    rw [if_neg f0, List.drop_of_length_le (by omega)]
    simp
  | d + 1, i, h => by
    have hi : i < l.length := by omega
    have f0 : (i : Int) < (l.length : Int) := by omega
    have f1 : (0 : Int) ≤ (i : Int) := by omega
    have f2 : (0 : Int) < (l.length : Int) := by omega
    have hw : wrap64 ((i : Int) + 1) = ((i + 1 : Nat) : Int) := by unfold wrap64; omega
    have ih := rsfits_l0 l hl K d (i + 1) (by omega)
    have e0 : rdOf ByteArray.empty l 0 = l.getD 0 ByteArray.empty := rdOf_nat l 0
    have ei : l.getD i ByteArray.empty = l[i] := by rw [List.getD_eq_getElem?_getD, List.getElem?_eq_getElem hi]; rfl
    rw [show K + (d + 1) + 1 = (K + d + 1) + 1 from by omega]
    generalize hF : K + d + 1 = F at ih ⊢
    unfold rs_fits.l0
    rw [if_pos f0, if_pos f1, if_pos f0, if_pos f2, rdOf_nat, e0, ei, hw, ih, List.drop_eq_getElem_cons hi]
    simp only [List.forall_mem_cons]
    by_cases h1 : l[i].size = (l.getD 0 ByteArray.empty).size
    · rw [if_pos (by omega)]
      by_cases h2 : l[i].size > 65536
      · rw [if_pos (by omega)]
        congr 1
        exact (decide_eq_false (fun hh => by have := hh.1.2; omega)).symm
      · rw [if_neg (by omega)]
        congr 1
        rw [decide_eq_decide]
        exact ⟨fun hh => ⟨⟨h1, by omega⟩, hh⟩, fun hh => hh.2⟩
    · rw [if_neg (by omega)]
      congr 1
      exact (decide_eq_false (fun hh => h1 hh.1.1)).symm
theorem rsfits {l : List ByteArray} (hl : l.length ≤ 17592186044416) {k : Nat} (hk : l.length < k) : rs_fits.f k l = some (decide (Fits l)) := by
  have := rsfits_l0 l hl (k - l.length - 1) l.length 0 (by omega)
  rw [show k - l.length - 1 + l.length + 1 = k from by omega, List.drop_zero] at this
  exact this
/-! times -/
def stS (n p m : Nat) (A D : GfM.Mx) (i : Nat) : List ByteArray := (List.range n).map fun r => if r < i then strX p (GfM.mm m A D r) else ⟨#[]⟩
theorem stS_length (n p m : Nat) (A D : GfM.Mx) (i : Nat) : (stS n p m A D i).length = n := by simp [stS]
theorem stS_set (n p m : Nat) (A D : GfM.Mx) (i : Nat) (hi : i < n) : (stS n p m A D i).set i (strX p (GfM.mm m A D i)) = stS n p m A D (i + 1) := by
  apply List.ext_getElem?
  intro r
  by_cases hr : r < n
  · by_cases e : r = i
    · subst e
      rw [List.getElem?_set_self (by rw [stS_length]; exact hr)]
      simp [stS, hr]
    · rw [List.getElem?_set_ne (fun e' => e e'.symm)]
      have : (r < i + 1) = (r < i) := by apply propext; omega
      simp only [stS, List.getElem?_map, List.getElem?_range hr, Option.map_some, this]
  · rw [List.getElem?_eq_none (by rw [List.length_set, stS_length]; omega), List.getElem?_eq_none (by rw [stS_length]; omega)]
theorem putf (p : Nat) (f : Nat → GfM.F) (x : GfM.F) (s : Nat → GfM.F) (hp : p ≤ 65536) : gf_Put.f (rowL p f) (x.toNat : Int) (strX p s) = some (rowL p (fun j => f j ^^^ GfM.mul x (s j))) := by
  unfold gf_Put.f
  have hx := x.isLt
  rw [if_pos ⟨⟨by omega, by omega⟩, by rw [strX_size]; omega, by rw [rowL_length]; omega, fun y hy => by
    obtain ⟨j, _, rfl⟩ := List.mem_map.1 hy
    exact ⟨by omega, by have := (f j).isLt; omega⟩⟩, rowL_length, strX_size, Nat.min_self, strX_bytes, putL_rowL]
theorem rstimes_l {n m p : Nat} (A D : GfM.Mx) (hn : n ≤ 255) (hm : m ≤ 255) (m1 : 1 ≤ m) (hp : p ≤ 65536) :
    ∀ (d i K : Nat), i + d = n → rs_times.l0 (K + d * (m + 2) + 1) (mxS m p D) (stS n p m A D i) (mxL n m A) (n : Int) (i : Int) = some (mxS n p (GfM.mm m A D)) := by
  have l1 : ∀ (i : Nat), i < n → ∀ (d j K : Nat), j + d = m → rs_times.l1 (K + d + 1) (mxS m p D) (stS n p m A D i) (i : Int) (rowL p (GfM.mm j A D i)) (mxL n m A) (n : Int) (i : Int) (rowL m (A i)) (m : Int) (j : Int) = rs_times.l0 K (mxS m p D) (stS n p m A D (i + 1)) (mxL n m A) (n : Int) ((i + 1 : Nat) : Int) := by
    intro i hi d
    induction d with
    | zero =>
      intro j K h
      have hj : j = m := by omega
      subst hj
      have f0 : ¬ (j : Int) < (j : Int) := by omega
      have f1 : (0 : Int) ≤ (i : Int) := by omega
      have f2 : (i : Int) < ((stS n p j A D i).length : Int) := by rw [stS_length]; omega
      have hw : wrap64 ((i : Int) + 1) = ((i + 1 : Nat) : Int) := by unfold wrap64; omega
      unfold rs_times.l1
      rw [if_neg f0, if_pos f1, if_pos f2, hw, Int.toNat_natCast]
      rw [show strOfNums (rowL p (GfM.mm j A D i)) = strX p (GfM.mm j A D i) from rfl, stS_set n p j A D i hi]
    | succ d ih =>
      intro j K h
      have hj : j < m := by omega
      have f0 : (j : Int) < (m : Int) := by omega
      have f1 : (0 : Int) ≤ (j : Int) := by omega
      have hw : wrap64 ((j : Int) + 1) = ((j + 1 : Nat) : Int) := by unfold wrap64; omega
      have ih' := ih (j + 1) K (by omega)
      rw [show K + (d + 1) + 1 = (K + d + 1) + 1 from by omega]
      generalize hF : K + d + 1 = F at ih' ⊢
      unfold rs_times.l1
      rw [if_pos f0, if_pos f1]
      simp only [rowL_length, mxS_length]
      rw [if_pos f0, if_pos f0, rd_rowL _ hj, rdS D hj, putf p _ _ _ hp, hw]
      exact ih'
  intro d
  induction d with
  | zero =>
    intro i K h
    have f0 : ¬ (i : Int) < (n : Int) := by omega
    rw [Nat.zero_mul, Nat.add_zero]
    unfold rs_times.l0
    rw [if_neg f0]
    have e : stS n p m A D i = mxS n p (GfM.mm m A D) := by
      unfold stS mxS
      apply List.map_congr_left
      intro r hr
      have := List.mem_range.1 hr
      rw [if_pos (by omega)]
    rw [e]
  | succ d ih =>
    intro i K h
    have hi : i < n := by omega
    have f0 : (i : Int) < (n : Int) := by omega
    have f1 : (0 : Int) ≤ (i : Int) := by omega
    have f2 : (0 : Int) < (m : Int) := by omega
    have f3 : (0 : Int) ≤ (p : Int) := by omega
    have f4 : p ≤ 281474976710656 := by omega
    have ih' := ih (i + 1) K (by omega)
    have e := l1 i hi m 0 (K + d * (m + 2) + 1) (by omega)
    rw [ih'] at e
    have ef : K + (d + 1) * (m + 2) + 1 = (K + d * (m + 2) + 1 + m + 1) + 1 := by rw [Nat.succ_mul]; omega
    have e0 : rdOf ByteArray.empty (mxS m p D) 0 = strX p (D 0) := rdS D (i := 0) (by omega)
    have er : List.replicate p (0 : Int) = rowL p (GfM.mm 0 A D i) := rowL_ext (by simp) (fun j hj => by simp [List.getD_eq_getElem?_getD, hj]; rfl)
    rw [ef]
    generalize hF : K + d * (m + 2) + 1 + m + 1 = F at e ⊢
    unfold rs_times.l0
    simp only [mxL_length, mxS_length, e0, strX_size, Int.toNat_natCast]
    rw [if_pos f0, if_pos f1, if_pos f0, if_pos f2, if_pos f3, if_pos f4, rd_L2_mxL A hi, rowL_length, er]
    exact e
theorem rstimes {n m p : Nat} (A D : GfM.Mx) (hn : n ≤ 255) (hm : m ≤ 255) (m1 : 1 ≤ m) (hp : p ≤ 65536) {k : Nat} (hk : 70000 ≤ k) : rs_times.f k (mxL n m A) (mxS m p D) = some (mxS n p (GfM.mm m A D)) := by
  unfold rs_times.f
  have f1 : (0 : Int) ≤ (n : Int) := by omega
  have f2 : n ≤ 17592186044416 := by omega
  have e : List.replicate n (⟨#[]⟩ : ByteArray) = stS n p m A D 0 := by
    apply List.ext_getElem?
    intro r
    by_cases hr : r < n
    · simp [stS, hr]
    · rw [List.getElem?_eq_none (by simp; omega), List.getElem?_eq_none (by rw [stS_length]; omega)]
  have hb : n * (m + 2) ≤ 255 * 257 := Nat.mul_le_mul hn (by omega)
  have := rstimes_l A D hn hm m1 hp n 0 (k - n * (m + 2) - 1) (by omega)
  rw [show k - n * (m + 2) - 1 + n * (m + 2) + 1 = k from by omega] at this
  simp only [mxL_length, Int.toNat_natCast]
  rw [if_pos f1, if_pos f2, e]
  exact this
/-! parity, Encode -/
theorem rsparity {k m p : Nat} (D : GfM.Mx) (k1 : 1 ≤ k) (hkm : k + m ≤ 255) (hp : p ≤ 65536) {K : Nat} (hK : 70000 ≤ K) : rs_parity.f K (k : Int) (m : Int) (mxS k p D) = some (mxS m p (GfM.mm k (cauX k) D)) := by
  unfold rs_parity.f
  by_cases h : m = 0
  · subst h
    rw [if_pos (by rfl)]; rfl
  · rw [if_neg (by omega), cauf k m k1 (by omega) hkm]
    simp only [Option.bind_some]
    rw [rstimes (cauX k) D (by omega) (by omega) k1 hp hK]
    rfl
/-- What Encode answers, if all is right. -/
theorem rsencode_ok {k m p : Nat} (D : GfM.Mx) (k1 : 1 ≤ k) (hkm : k + m ≤ 255) (hp : p ≤ 65536) {K : Nat} (hK : 70000 ≤ K) : rs_Encode.f K (k : Int) (m : Int) (mxS k p D) = some (mxS m p (GfM.mm k (cauX k) D), 0) := by
  have hfit : Fits (mxS k p D) := by
    intro s hs
    obtain ⟨i, _, rfl⟩ := List.mem_map.1 hs
    have e : (mxS k p D).getD 0 ByteArray.empty = strX p (D 0) := by rw [List.getD_eq_getElem?_getD, mxS_get k p D 0 (by omega)]; rfl
    rw [e, strX_size, strX_size]
    exact ⟨rfl, hp⟩
  unfold rs_Encode.f
  rw [rscheck, if_pos (by omega), rsfits (by rw [mxS_length]; omega) (by rw [mxS_length]; omega), decide_eq_true hfit, rsparity D k1 hkm hp hK]
  simp only [Option.bind_some, mxS_length, if_true]
def allX (k : Nat) : GfM.Mx := fun i j => if i < k then GfM.idm i j else cauX k (i - k) j
theorem mm_xor (n : Nat) (A D E : GfM.Mx) (i j : Nat) : GfM.mm n A (fun r c => D r c ^^^ E r c) i j = GfM.mm n A D i j ^^^ GfM.mm n A E i j := by
  unfold GfM.mm
  rw [← GfM.sumN_xor]
  exact GfM.sumN_congr fun k _ => GfM.mul_xor_right _ _ _
theorem cauX_ne {k m i j : Nat} (hi : i < m) (hj : j < k) (hkm : k + m ≤ 255) : cauX k i j ≠ 0#8 := by
  have ha : BitVec.ofNat 8 (k + i) ^^^ BitVec.ofNat 8 j ≠ 0#8 := by
    intro h
    have h2 : BitVec.ofNat 8 (k + i) = BitVec.ofNat 8 j := by
      have h2 := congrArg (· ^^^ BitVec.ofNat 8 j) h
      simpa [BitVec.xor_assoc] using h2
    have h3 := congrArg BitVec.toNat h2
    simp at h3
    omega
  exact GfM.inv_ne ha
theorem mm_one {n pn : Nat} (hp : pn < n) (A : GfM.Mx) (an : Nat) (y : GfM.F) (i j : Nat) : GfM.mm n A (fun r c => if r = pn ∧ c = an then y else 0#8) i j = if j = an then GfM.mul (A i pn) y else 0#8 := by
  unfold GfM.mm
  rw [GfM.sumN_one hp (fun k _ hne => by
    have e0 : (if k = pn ∧ j = an then y else 0#8) = 0#8 := if_neg (fun h => hne h.1)
    show GfM.mul (A i k) (if k = pn ∧ j = an then y else 0#8) = 0#8
    rw [e0, GfM.mul_zero])]
  show GfM.mul (A i pn) (if pn = pn ∧ j = an then y else 0#8) = _
  by_cases e : j = an
  · rw [if_pos (⟨rfl, e⟩ : pn = pn ∧ j = an), if_pos e]
  · rw [if_neg (fun h : pn = pn ∧ j = an => e h.2), if_neg e, GfM.mul_zero]
theorem all_mxS (k m p : Nat) (D : GfM.Mx) : mxS k p D ++ mxS m p (GfM.mm k (cauX k) D) = mxS (k + m) p (GfM.mm k (allX k) D) := by
  apply List.ext_getElem?
  intro i
  by_cases h1 : i < k
  · rw [List.getElem?_append_left (by rw [mxS_length]; exact h1), mxS_get _ _ _ i h1, mxS_get _ _ _ i (by omega)]
    congr 1
    apply strX_congr
    intro j _
    have e2 : GfM.mm k (allX k) D i j = GfM.mm k GfM.idm D i j := GfM.mm_congr (fun q _ => by unfold allX; rw [if_pos h1]) (fun _ _ => rfl)
    rw [e2, GfM.mm_id_left h1]
  · rw [List.getElem?_append_right (by rw [mxS_length]; omega), mxS_length]
    by_cases h2 : i < k + m
    · rw [mxS_get _ _ _ (i - k) (by omega), mxS_get _ _ _ i h2]
      congr 1
      apply strX_congr
      intro j _
      unfold GfM.mm
      exact GfM.sumN_congr fun q _ => by unfold allX; rw [if_neg h1]
    · rw [List.getElem?_eq_none (by rw [mxS_length]; omega), List.getElem?_eq_none (by rw [mxS_length]; omega)]
theorem same4_l0 (l : List ByteArray) (hl : l.length ≤ 1000) (K : Nat) : ∀ (d i : Nat), i + d = l.length → caulkref04_Same.l0 (K + d + 1) l l (l.length : Int) (i : Int) = some true
  | 0, i, h => by
    have f0 : ¬ (i : Int) < (l.length : Int) := by omega
    unfold caulkref04_Same.l0
    rw [if_neg f0]
  | d + 1, i, h => by
    have f0 : (i : Int) < (l.length : Int) := by omega
    have f1 : (0 : Int) ≤ (i : Int) := by omega
    have hw : wrap64 ((i : Int) + 1) = ((i + 1 : Nat) : Int) := by unfold wrap64; omega
    have ih := same4_l0 l hl K d (i + 1) (by omega)
    rw [show K + (d + 1) + 1 = (K + d + 1) + 1 from by omega]
    generalize hF : K + d + 1 = F at ih ⊢
    unfold caulkref04_Same.l0
    rw [if_pos f0, if_pos f1, if_pos f0, if_pos f0, if_pos rfl, hw]
    exact ih
theorem same4 {l : List ByteArray} (hl : l.length ≤ 1000) {K : Nat} (hK : 2000 ≤ K) : caulkref04_Same.f K l l = some true := by
  have := same4_l0 l hl (K - l.length - 1) l.length 0 (by omega)
  rw [show K - l.length - 1 + l.length + 1 = K from by omega] at this
  unfold caulkref04_Same.f
  rw [if_pos rfl]
  exact this
/-! Cauchy -/
theorem refinv_any (x : GfM.F) {k : Nat} (hk : 300 ≤ k) : ∃ e, caulkref02_Inv.f k (x.toNat : Int) = some (((GfM.inv x).toNat : Int), e) := by
  rw [refinv_eq (isB_nat x) k hk]
  by_cases h : (x.toNat : Int) = 0
  · have hx : x = 0#8 := BitVec.eq_of_toNat_eq (by simpa using h)
    have h0 : GfM.inv 0#8 = 0#8 := by decide +kernel
    rw [if_pos h, hx, h0]
    exact ⟨13, rfl⟩
  · rw [if_neg h]
    unfold invI
    rw [el_nat]
    exact ⟨0, rfl⟩
def cauQ (k i j : Nat) : GfM.Mx := fun r c => if r < i ∨ (r = i ∧ c < j) then cauX k r c else 0#8
theorem refcau_l {k m : Nat} (hkm : k + m ≤ 255) (k1 : 1 ≤ k) :
    ∀ (d i K : Nat), 300 ≤ K → i + d = m → caulkref03_Cauchy.l0 (K + d * (k + 2) + 1) (k : Int) (mxL m k (cauQ k i 0)) (m : Int) (i : Int) = some (mxL m k (cauX k), 0) := by
  have l1 : ∀ (i : Nat), i < m → ∀ (d j K : Nat), 300 ≤ K → j + d = k → caulkref03_Cauchy.l1 (K + d + 1) (k : Int) (mxL m k (cauQ k i j)) (i : Int) (m : Int) (i : Int) (k : Int) (j : Int) = caulkref03_Cauchy.l0 K (k : Int) (mxL m k (cauQ k (i + 1) 0)) (m : Int) ((i + 1 : Nat) : Int) := by
    intro i hi d
    induction d with
    | zero =>
      intro j K hK h
      have hw : wrap64 ((i : Int) + 1) = ((i + 1 : Nat) : Int) := by unfold wrap64; omega
      unfold caulkref03_Cauchy.l1
      have e : mxL m k (cauQ k i j) = mxL m k (cauQ k (i + 1) 0) := mxL_congr fun r hr c hc => by
        unfold cauQ
        by_cases e1 : r < i ∨ (r = i ∧ c < j)
        · rw [if_pos e1, if_pos (by omega)]
        · rw [if_neg e1, if_neg (by omega)]
      rw [if_neg (by omega), hw, e]
    | succ d ih =>
      intro j K hK h
      have hj : j < k := by omega
      have f1 : (j : Int) < (k : Int) := by omega
      have f2 : (0 : Int) ≤ (i : Int) := by omega
      have f3 : (i : Int) < (m : Int) := by omega
      have f4 : (0 : Int) ≤ (j : Int) := by omega
      have hw : wrap64 ((j : Int) + 1) = ((j + 1 : Nat) : Int) := by unfold wrap64; omega
      have hw2 : wrap64 ((k : Int) + (i : Int)) = ((k + i : Nat) : Int) := by unfold wrap64; omega
      have ea : ((k + i : Nat) : Int) % 256 = ((BitVec.ofNat 8 (k + i)).toNat : Int) := by rw [BitVec.toNat_ofNat]; omega
      have eb : (j : Int) % 256 = ((BitVec.ofNat 8 j).toNat : Int) := by rw [BitVec.toNat_ofNat]; omega
      obtain ⟨er, hI⟩ := refinv_any (BitVec.ofNat 8 (k + i) ^^^ BitVec.ofNat 8 j) (k := K + d + 1) (by omega)
      have ih' := ih (j + 1) K hK (by omega)
      rw [show K + (d + 1) + 1 = (K + d + 1) + 1 from by omega]
      generalize hF : K + d + 1 = F at ih' hI ⊢
      unfold caulkref03_Cauchy.l1
      rw [if_pos f1, if_pos f2, mxL_length, if_pos f3, hw2, ea, eb, g_xor8, hI]
      simp only [Option.bind_some, hw, Int.toNat_natCast]
      rw [if_pos f4, rd_L2_mxL _ hi, rowL_length, if_pos f1]
      have e := mxL_set (p := k) (cauQ k i j) hi j (GfM.inv (BitVec.ofNat 8 (k + i) ^^^ BitVec.ofNat 8 j))
      have e3 : mxL m k (fun r c => if r = i ∧ c = j then GfM.inv (BitVec.ofNat 8 (k + i) ^^^ BitVec.ofNat 8 j) else cauQ k i j r c) = mxL m k (cauQ k i (j + 1)) := mxL_congr fun r hr c hc => by
        unfold cauQ
        by_cases e1 : r = i ∧ c = j
        · rw [if_pos e1, if_pos (by omega), e1.1, e1.2]; rfl
        · rw [if_neg e1]
          by_cases e2 : r < i ∨ (r = i ∧ c < j)
          · rw [if_pos e2, if_pos (by omega)]
          · rw [if_neg e2, if_neg (by omega)]
      rw [e, e3]
      exact ih'
  intro d
  induction d with
  | zero =>
    intro i K hK h
    rw [Nat.zero_mul, Nat.add_zero]
    unfold caulkref03_Cauchy.l0
    have e : mxL m k (cauQ k i 0) = mxL m k (cauX k) := mxL_congr fun r hr c hc => by
      unfold cauQ
      rw [if_pos (by omega)]
    rw [if_neg (by omega), e]
  | succ d ih =>
    intro i K hK h
    have hi : i < m := by omega
    have f0 : (i : Int) < (m : Int) := by omega
    have f1 : (0 : Int) ≤ (i : Int) := by omega
    have ih' := ih (i + 1) K hK (by omega)
    have e := l1 i hi k 0 (K + d * (k + 2) + 1) (by omega) (by omega)
    rw [ih'] at e
    have ef : K + (d + 1) * (k + 2) + 1 = (K + d * (k + 2) + 1 + k + 1) + 1 := by rw [Nat.succ_mul]; omega
    rw [ef]
    generalize hF : K + d * (k + 2) + 1 + k + 1 = F at e ⊢
    unfold caulkref03_Cauchy.l0
    rw [if_pos f0, if_pos f1, mxL_length, if_pos f0, rd_L2_mxL _ hi, rowL_length]
    exact e
theorem refcau_j0 (K : Nat) (x0 x1 : Int) (b : Bool) : caulkref03_Cauchy.j0 (K + 1) x0 x1 b = if b = true then (some (([] : List (List Int)), 1)) else ((caulkref03_zero.f K x1 x0).bind fun t252 => (caulkref03_Cauchy.l0 K x0 t252 (t252.length : Int) 0)) := rfl
theorem refcau (a0 a1 : Int) (s0 : a0 ≤ 20 ∨ a0 > 255) (s1 : a1 ≤ 20 ∨ a1 > 255) {k : Nat} (hk : 5000 ≤ k) : caulkref03_Cauchy.f k a0 a1 = matrix_Cauchy.f a0 a1 := by
  obtain ⟨K, rfl⟩ : ∃ K, k = K + 1 := ⟨k - 1, by omega⟩
  unfold caulkref03_Cauchy.f matrix_Cauchy.f
  simp only [refcau_j0]
  by_cases h1 : a0 < 1
  · rw [if_pos h1, if_neg (show ¬ ((1 ≤ a0 ∧ a0 ≤ 255) ∧ (1 ≤ a1 ∧ a1 ≤ 255) ∧ a1 ≤ 255 - a0) from by omega)]; rfl
  · rw [if_neg h1]
    by_cases h2 : a1 < 1
    · rw [if_pos h2, if_neg (show ¬ ((1 ≤ a0 ∧ a0 ≤ 255) ∧ (1 ≤ a1 ∧ a1 ≤ 255) ∧ a1 ≤ 255 - a0) from by omega)]; rfl
    · rw [if_neg h2]
      by_cases h3 : a0 > 255
      · rw [if_pos h3, if_neg (show ¬ ((1 ≤ a0 ∧ a0 ≤ 255) ∧ (1 ≤ a1 ∧ a1 ≤ 255) ∧ a1 ≤ 255 - a0) from by omega)]; rfl
      · rw [if_neg h3]
        by_cases h4 : a1 > 255
        · rw [if_pos h4, if_neg (show ¬ ((1 ≤ a0 ∧ a0 ≤ 255) ∧ (1 ≤ a1 ∧ a1 ≤ 255) ∧ a1 ≤ 255 - a0) from by omega)]; rfl
        · rw [if_neg h4]
          obtain ⟨n, rfl⟩ := Int.eq_ofNat_of_zero_le (show 0 ≤ a0 by omega)
          obtain ⟨m, rfl⟩ := Int.eq_ofNat_of_zero_le (show 0 ≤ a1 by omega)
          have n2 : n ≤ 20 := by omega
          have m2 : m ≤ 20 := by omega
          have hw : wrap64 ((n : Int) + (m : Int)) = ((n + m : Nat) : Int) := by unfold wrap64; omega
          have hbd : m * (n + 2) ≤ 20 * 22 := Nat.mul_le_mul m2 (by omega)
          rw [hw, decide_eq_false (by omega), if_neg (by decide), if_pos (by omega), refzero (by omega) (by omega) (by omega), Int.toNat_natCast, Int.toNat_natCast]
          have := refcau_l (k := n) (m := m) (by omega) (by omega) m 0 (K - m * (n + 2) - 1) (by omega) (by omega)
          rw [show K - m * (n + 2) - 1 + m * (n + 2) + 1 = K from by omega] at this
          simp only [Option.bind_some, mxL_length]
          have e : mxL m n (fun _ _ => 0#8) = mxL m n (cauQ n 0 0) := mxL_congr fun r _ c _ => by unfold cauQ; rw [if_neg (by omega)]
          rw [e]
          exact this
/-! ### any k rows of the unit with parity's matrix below it -/
theorem sumN_range (f : Nat → GfM.F) : ∀ n : Nat, GfM.sumN n f = GfM.sumL (List.range n) f := by
  have app : ∀ (l : List Nat) (x : Nat), GfM.sumL (l ++ [x]) f = GfM.sumL l f ^^^ f x := by
    intro l x
    induction l with
    | nil => simp [GfM.sumL]
    | cons a l ih => rw [List.cons_append, GfM.sumL_cons, GfM.sumL_cons, ih, BitVec.xor_assoc]
  intro n
  induction n with
  | zero => rfl
  | succ n ih => rw [GfM.sumN, ih, List.range_succ, app]
theorem sumL_filter (f : Nat → GfM.F) (p : Nat → Bool) (l : List Nat) (h : ∀ x ∈ l, p x = false → f x = 0#8) : GfM.sumL (l.filter p) f = GfM.sumL l f := by
  induction l with
  | nil => rfl
  | cons a l ih =>
    have ih' := ih (fun x hx => h x (List.mem_cons_of_mem _ hx))
    rw [GfM.sumL_cons, List.filter_cons]
    by_cases e : p a = true
    · rw [if_pos e, GfM.sumL_cons, ih']
    · rw [if_neg e, ih', h a List.mem_cons_self (by simpa using e)]; simp
theorem ofNat_inj8 {a b : Nat} (ha : a < 256) (hb : b < 256) (h : BitVec.ofNat 8 a = BitVec.ofNat 8 b) : a = b := by
  have := congrArg BitVec.toNat h
  rwa [BitVec.toNat_ofNat, BitVec.toNat_ofNat, Nat.mod_eq_of_lt ha, Nat.mod_eq_of_lt hb] at this
theorem any_inj {k m : Nat} (h : k + m ≤ 255) {R : List Nat} (hl : R.length = k) (hn : R.Nodup) (hr : ∀ x ∈ R, x < k + m) : GfM.Inj k (fun i c => allX k (R.getD i 0) c) := by
  intro v hv
  have hx : ∀ x ∈ R, GfM.sumN k (fun c => GfM.mul (allX k x c) (v c)) = 0#8 := by
    intro x hx
    obtain ⟨i, hi, e⟩ := List.mem_iff_getElem.1 hx
    have h3 : R.getD i 0 = x := by rw [List.getD_eq_getElem?_getD, List.getElem?_eq_getElem hi]; exact e
    have := hv i (by omega)
    unfold GfM.mm at this
    simp only [h3] at this
    exact this
  have hu : ∀ j, j < k → j ∈ R → v j = 0#8 := by
    intro j hj hjR
    have := hx j hjR
    have e : GfM.sumN k (fun c => GfM.mul (allX k j c) (v c)) = GfM.mm k GfM.idm (fun c _ => v c) j 0 := by
      unfold GfM.mm
      exact GfM.sumN_congr fun c _ => by unfold allX; rw [if_pos hj]
    rw [e, GfM.mm_id_left hj] at this
    exact this
  have hc1 : ((R.filter (fun x => decide (k ≤ x))).map (BitVec.ofNat 8)).length = ((List.range k).filter (fun j => decide (j ∉ R))).length := by
    rw [List.length_map]
    have p1 := (List.filter_append_perm (fun x => decide (k ≤ x)) R).length_eq
    have p2 := (List.filter_append_perm (fun j => decide (j ∉ R)) (List.range k)).length_eq
    rw [List.length_append] at p1 p2
    rw [List.length_range] at p2
    have p3 : (R.filter (fun x => !decide (k ≤ x))).Perm ((List.range k).filter (fun j => !decide (j ∉ R))) := by
      refine (List.perm_ext_iff_of_nodup (hn.sublist List.filter_sublist) (List.nodup_range.sublist List.filter_sublist)).2 fun a => ?_
      simp only [List.mem_filter, List.mem_range, Bool.not_eq_true', decide_eq_false_iff_not, Decidable.not_not]
      constructor
      · rintro ⟨h1, h2⟩; exact ⟨by omega, h1⟩
      · rintro ⟨h1, h2⟩; exact ⟨h2, by omega⟩
    have := p3.length_eq
    omega
  have hY := GfM.cauchy_zero ((R.filter (fun x => decide (k ≤ x))).map (BitVec.ofNat 8)) ((List.range k).filter (fun j => decide (j ∉ R))) (fun j => BitVec.ofNat 8 j) v hc1 ?_ ?_ ?_ ?_
  · intro j hj
    by_cases hjR : j ∈ R
    · exact hu j hj hjR
    · exact hY j (by simp [hj, hjR])
  · have h1 : (R.filter (fun x => decide (k ≤ x))).Nodup := hn.sublist List.filter_sublist
    refine List.pairwise_map.2 (List.Pairwise.imp_of_mem ?_ h1)
    intro a b ha hb hne e
    have ha' := hr a (List.mem_filter.1 ha).1
    have hb' := hr b (List.mem_filter.1 hb).1
    exact hne (ofNat_inj8 (by omega) (by omega) e)
  · have h1 : ((List.range k).filter (fun j => decide (j ∉ R))).Nodup := List.nodup_range.sublist List.filter_sublist
    refine List.Pairwise.imp_of_mem ?_ h1
    intro a b ha hb hne e
    have ha' := List.mem_range.1 (List.mem_filter.1 ha).1
    have hb' := List.mem_range.1 (List.mem_filter.1 hb).1
    exact hne (ofNat_inj8 (by omega) (by omega) e)
  · intro x hxm j hj e
    obtain ⟨r, hr1, rfl⟩ := List.mem_map.1 hxm
    have h1 := List.mem_filter.1 hr1
    have h2 := hr r h1.1
    have h3 : k ≤ r := by simpa using h1.2
    have h4 := List.mem_range.1 (List.mem_filter.1 hj).1
    have := ofNat_inj8 (by omega) (by omega) e
    omega
  · intro x hxm
    obtain ⟨r, hr1, rfl⟩ := List.mem_map.1 hxm
    have h1 := List.mem_filter.1 hr1
    have h2 := hr r h1.1
    have h3 : k ≤ r := by simpa using h1.2
    have h5 := hx r h1.1
    rw [sumL_filter, ← sumN_range]
    · rw [← h5]
      refine GfM.sumN_congr fun c _ => ?_
      unfold allX cauX
      rw [if_neg (by omega), show k + (r - k) = r from by omega, GfM.mul_comm]
    · intro j hj hp
      have hjR : j ∈ R := by simpa using hp
      rw [hu j (List.mem_range.1 hj) hjR, GfM.zero_mul]
/-- Any k rows, each once, have an inverse. -/
theorem any_inv {k m : Nat} (h1 : 1 ≤ k) (h : k + m ≤ 255) {rows : List Int} (hl : rows.length = k) (hn : rows.Nodup) (hr : ∀ x ∈ rows, 0 ≤ x ∧ x < ((k + m : Nat) : Int)) : ∃ X, GfM.invX k (fun i c => allX k (rows.getD i 0).toNat c) = some X := by
  apply GfM.inv_of_inj
  have hi := any_inj h (R := rows.map Int.toNat) (by rw [List.length_map]; exact hl) (List.pairwise_map.2 (List.Pairwise.imp_of_mem (fun ha hb hne e => hne (by have := hr _ ha; have := hr _ hb; omega)) hn)) (by
    intro x hx
    obtain ⟨y, hy, rfl⟩ := List.mem_map.1 hx
    have := hr y hy
    omega)
  have e : (fun i c => allX k ((rows.map Int.toNat).getD i 0) c) = (fun i c => allX k (rows.getD i 0).toNat c) := by
    funext i c
    congr 1
    rw [List.getD_eq_getElem?_getD, List.getD_eq_getElem?_getD, List.getElem?_map]
    cases rows[i]? <;> rfl
  rwa [e] at hi
theorem all_mxL (k m : Nat) : mxL k k GfM.idm ++ mxL m k (cauX k) = mxL (k + m) k (allX k) := by
  apply List.ext_getElem?
  intro i
  by_cases h1 : i < k
  · rw [List.getElem?_append_left (by rw [mxL_length]; exact h1), mxL_get _ _ _ i h1, mxL_get _ _ _ i (by omega)]
    exact congrArg some (rowL_congr fun j _ => by unfold allX; rw [if_pos h1])
  · rw [List.getElem?_append_right (by rw [mxL_length]; omega), mxL_length]
    by_cases h2 : i < k + m
    · rw [mxL_get _ _ _ (i - k) (by omega), mxL_get _ _ _ i h2]
      exact congrArg some (rowL_congr fun j _ => by unfold allX; rw [if_neg h1])
    · rw [List.getElem?_eq_none (by rw [mxL_length]; omega), List.getElem?_eq_none (by rw [mxL_length]; omega)]
/-! ### locate over plain matrices -/
theorem strX_inj {p : Nat} {f g : Nat → GfM.F} : strX p f = strX p g ↔ ∀ j, j < p → f j = g j := by
  constructor
  · intro h j hj
    have h2 := congrArg bytesOf h
    rw [strX_bytes, strX_bytes] at h2
    have h3 := congrArg (fun l : List Int => l.getD j 0) h2
    simp only [rowL_get p f j hj, rowL_get p g j hj] at h3
    exact BitVec.eq_of_toNat_eq (by exact_mod_cast h3)
  · exact strX_congr
theorem txtS {n p : Nat} (A : GfM.Mx) {i : Nat} (hi : i < n) : txt (mxS n p A) i = strX p (A i) := by rw [← rdOf_txt, rdS A hi]
theorem putX_str {p : Nat} (f g : Nat → GfM.F) (hp : p ≤ 65536) : putX (strX p f) (strX p g) = strX p (fun j => f j ^^^ g j) := by
  have h := putf p f 1#8 g hp
  have h1 : (((1#8 : BitVec 8).toNat : Nat) : Int) = 1 := by decide
  rw [h1] at h
  unfold gf_Put.f at h
  split at h
  · injection h with h
    unfold putX
    rw [strX_bytes p f, strX_size p f]
    rw [rowL_length] at h
    rw [h]
    unfold strX
    rw [rowL_congr (fun j _ => by rw [GfM.one_mul])]
  · cases h
theorem scaleB_str {p : Nat} (x : GfM.F) (f : Nat → GfM.F) : scaleB (x.toNat : Int) (strX p f) = strX p (fun j => GfM.mul x (f j)) := by
  unfold scaleB
  rw [strX_bytes]
  unfold strX rowL
  rw [List.map_map]
  congr 1
  apply List.map_congr_left
  intro j _
  exact mulI_nat x (f j)
theorem dropWhile_nil (l : List UInt8) (p : UInt8 → Bool) : l.dropWhile p = [] ↔ l.all p = true := by
  induction l with
  | nil => simp
  | cons a r ih =>
    by_cases h : p a = true
    · rw [List.dropWhile_cons_of_pos h, ih]; simp [h]
    · rw [List.dropWhile_cons_of_neg h]; simp [h]
theorem trim_nil (l : List UInt8) : Lib.trimB l 0 = [] ↔ l.all (· == 0) = true := by
  unfold Lib.trimB Lib.trimLeftB Lib.trimRightB
  rw [dropWhile_nil, List.all_reverse]
  constructor
  · intro h
    by_cases e : l.reverse.dropWhile (· == 0) = []
    · have := (dropWhile_nil _ _).1 e
      rwa [List.all_reverse] at this
    · exfalso
      have h2 := List.head_dropWhile_not (p := (· == (0 : UInt8))) (l := l.reverse) e
      have h3 := List.all_eq_true.1 h _ (List.head_mem e)
      rw [h2] at h3
      cases h3
  · intro h
    refine List.all_eq_true.2 (fun x hx => List.all_eq_true.1 h x ?_)
    have := (List.dropWhile_sublist (· == (0 : UInt8)) (l := l.reverse)).subset hx
    exact List.mem_reverse.1 this
theorem nought_iff (s : ByteArray) (hs : s.size ≤ 65536) : nought s = true ↔ ∀ x ∈ bytesOf s, x = 0 := by
  unfold nought locate_blank.f strings_Trim.f
  rw [if_pos ⟨rfl, by omega⟩]
  simp only [Option.bind_some, Option.getD_some, beq_iff_eq]
  rw [Lib.toList_data]
  have h := trim_nil s.data.toList
  constructor
  · intro e x hx
    have h2 := h.1 e
    simp only [bytesOf, List.mem_map] at hx
    obtain ⟨b, hb, rfl⟩ := hx
    have := List.all_eq_true.1 h2 b hb
    have e0 : b = 0 := by simpa using this
    rw [e0]; rfl
  · intro e
    refine h.2 (List.all_eq_true.2 (fun b hb => ?_))
    have := e (b.toNat : Int) (by simp only [bytesOf, List.mem_map]; exact ⟨b, hb, rfl⟩)
    have h0 : b.toNat = 0 := by omega
    have : b = 0 := UInt8.toNat_inj.1 h0
    simp [this]
theorem nought_str {p : Nat} (f : Nat → GfM.F) (hp : p ≤ 65536) : nought (strX p f) = true ↔ ∀ j, j < p → f j = 0#8 := by
  rw [nought_iff _ (by rw [strX_size]; exact hp), strX_bytes]
  unfold rowL
  constructor
  · intro h j hj
    have := h ((f j).toNat : Int) (List.mem_map.2 ⟨j, List.mem_range.2 hj, rfl⟩)
    exact BitVec.eq_of_toNat_eq (by show (f j).toNat = 0; omega)
  · intro h x hx
    obtain ⟨j, hj, rfl⟩ := List.mem_map.1 hx
    rw [h j (List.mem_range.1 hj)]; rfl
/-- By how much each row of parity is wrong. -/
def syn (k : Nat) (W : GfM.Mx) : GfM.Mx := fun i j => GfM.mm k (cauX k) W i j ^^^ W (k + i) j
theorem mxS_take (n k p : Nat) (W : GfM.Mx) (h : k ≤ n) : (mxS n p W).take k = mxS k p W := by
  unfold mxS
  rw [← List.map_take, List.take_range, Nat.min_eq_left h]
theorem lookF_mx {k m p : Nat} (W : GfM.Mx) (k1 : 1 ≤ k) (hkm : k + m ≤ 255) (hp : p ≤ 65536) {K : Nat} (hK : 70000 ≤ K) : lookF K (k : Int) (m : Int) (mxS (k + m) p W) = some (0, mxS m p (syn k W)) := by
  have hw : lookWhy (k : Int) (m : Int) (mxS (k + m) p W) = 0 := by
    unfold lookWhy
    rw [if_neg (by omega), if_neg]
    rintro (h | ⟨i, hi, h⟩)
    · rw [mxS_length] at h; omega
    · rw [mxS_length] at hi
      rw [txtS W hi, txtS W (by omega : 0 < k + m), strX_size, strX_size] at h
      exact h rfl
  unfold lookF
  rw [if_neg (by rw [hw]; simp), Int.toNat_natCast, Int.toNat_natCast, mxS_take _ _ _ _ (by omega), rsencode_ok W k1 hkm hp hK]
  simp only [Option.bind_some]
  rw [if_pos ⟨trivial, mxS_length _ _ _, fun i hi => by rw [mxS_length] at hi; rw [txtS W hi, strX_size]; omega, fun i hi => by rw [mxS_length] at hi; rw [txtS _ hi, strX_size]; omega⟩]
  congr 2
  unfold offL
  unfold mxS
  apply List.map_congr_left
  intro i hi
  have hi := List.mem_range.1 hi
  have e1 := txtS (n := m) (p := p) (GfM.mm k (cauX k) W) hi
  have e2 := txtS (n := k + m) (p := p) W (i := k + i) (by omega)
  unfold mxS at e1 e2
  rw [e1, e2, putX_str _ _ hp]
  rfl
theorem mem_wrong {O : List ByteArray} {n : Nat} {z : Int} : z ∈ wrongL O n ↔ ∃ i : Nat, z = (i : Int) ∧ i < n ∧ nought (txt O i) = false := by
  unfold wrongL
  rw [List.mem_map]
  constructor
  · rintro ⟨i, hi, rfl⟩
    obtain ⟨h1, h2⟩ := List.mem_filter.1 hi
    exact ⟨i, rfl, List.mem_range.1 h1, by simpa using h2⟩
  · rintro ⟨i, rfl, h1, h2⟩
    exact ⟨i, List.mem_filter.2 ⟨List.mem_range.2 h1, by simpa using h2⟩, rfl⟩
theorem wrong_mx {m p : Nat} (S : GfM.Mx) (hp : p ≤ 65536) {z : Int} : z ∈ wrongL (mxS m p S) m ↔ ∃ i : Nat, z = (i : Int) ∧ i < m ∧ ∃ j, j < p ∧ S i j ≠ 0#8 := by
  rw [mem_wrong]
  constructor
  · rintro ⟨i, h1, h2, h3⟩
    rw [txtS S h2] at h3
    refine ⟨i, h1, h2, ?_⟩
    apply Classical.byContradiction
    intro hn
    have : nought (strX p (S i)) = true := (nought_str (S i) hp).2 (fun j hj => Classical.byContradiction fun hne => hn ⟨j, hj, hne⟩)
    rw [this] at h3
    cases h3
  · rintro ⟨i, h1, h2, j, hj, hne⟩
    refine ⟨i, h1, h2, ?_⟩
    rw [txtS S h2]
    cases h : nought (strX p (S i)) with
    | false => rfl
    | true => exact absurd ((nought_str (S i) hp).1 h j hj) hne
theorem wrongL_nodup (O : List ByteArray) (n : Nat) : (wrongL O n).Nodup := by
  unfold wrongL List.Nodup
  rw [List.pairwise_map]
  exact (List.Pairwise.filter _ (List.nodup_range (n := n))).imp (fun h e => h (by omega))
theorem wrong_nil {m p : Nat} {S : GfM.Mx} (hp : p ≤ 65536) (h : ∀ i, i < m → ∀ j, j < p → S i j = 0#8) : wrongL (mxS m p S) m = [] := by
  apply List.eq_nil_iff_forall_not_mem.2
  intro z hz
  obtain ⟨i, _, hi, j, hj, hne⟩ := (wrong_mx S hp).1 hz
  exact hne (h i hi j hj)
theorem wrong_zero {m p : Nat} {S : GfM.Mx} (hp : p ≤ 65536) (h : (wrongL (mxS m p S) m).length = 0) : ∀ i, i < m → ∀ j, j < p → S i j = 0#8 := by
  intro i hi j hj
  apply Classical.byContradiction
  intro hne
  have := (wrong_mx S hp).2 ⟨i, rfl, hi, j, hj, hne⟩
  rw [List.length_eq_zero_iff.1 h] at this
  cases this
theorem wrong_one {m p r : Nat} {S : GfM.Mx} (hp : p ≤ 65536) (hr : r < m) (h0 : ∀ i, i < m → i ≠ r → ∀ j, j < p → S i j = 0#8) (h1 : ∃ j, j < p ∧ S r j ≠ 0#8) : wrongL (mxS m p S) m = [(r : Int)] := by
  obtain ⟨j, hj, hne⟩ := h1
  have hm := (wrong_mx S hp).2 ⟨r, rfl, hr, j, hj, hne⟩
  have hall : ∀ z ∈ wrongL (mxS m p S) m, z = (r : Int) := by
    intro z hz
    obtain ⟨i, rfl, hi, j', hj', hne'⟩ := (wrong_mx S hp).1 hz
    by_cases e : i = r
    · rw [e]
    · exact absurd (h0 i hi e j' hj') hne'
  have hn := wrongL_nodup (mxS m p S) m
  match hw : wrongL (mxS m p S) m with
  | [] => rw [hw] at hm; cases hm
  | [a] => rw [hw] at hall; rw [hall a (by simp)]
  | a :: b :: t =>
    rw [hw] at hall hn
    have ea := hall a (by simp)
    have eb := hall b (by simp)
    rw [ea, eb] at hn
    simp at hn
theorem wrong_two {m p a b : Nat} {S : GfM.Mx} (hp : p ≤ 65536) (ha : a < m) (hb : b < m) (hab : a ≠ b) (h1 : ∃ j, j < p ∧ S a j ≠ 0#8) (h2 : ∃ j, j < p ∧ S b j ≠ 0#8) : (wrongL (mxS m p S) m).length ≠ 1 := by
  obtain ⟨j, hj, hne⟩ := h1
  obtain ⟨j2, hj2, hne2⟩ := h2
  have m1 := (wrong_mx S hp).2 ⟨a, rfl, ha, j, hj, hne⟩
  have m2 := (wrong_mx S hp).2 ⟨b, rfl, hb, j2, hj2, hne2⟩
  intro h
  obtain ⟨z, hz⟩ := List.length_eq_one_iff.1 h
  rw [hz] at m1 m2
  simp at m1 m2
  omega
/-- Does a piece of data explain all rows? -/
def expl (k m p : Nat) (S : GfM.Mx) (q : Nat) : Prop := ∀ i, i < m → ∀ j, j < p → GfM.mul (cauX k i q) (GfM.mul (GfM.inv (cauX k 0 q)) (S 0 j)) = S i j
theorem byD_mx {k m p : Nat} (S : GfM.Mx) (hm : 1 ≤ m) (q : Nat) : byD k (mxS m p S) q = strX p (fun j => GfM.mul (GfM.inv (cauX k 0 q)) (S 0 j)) := by
  unfold byD
  rw [txtS S (by omega), scaleB_str]
theorem fits_mx {k m p : Nat} (S : GfM.Mx) (hm : 1 ≤ m) {q : Nat} (hq : q < k) : fitsD (cauL k m) (mxS m p S) q (byD k (mxS m p S) q) ↔ expl k m p S q := by
  unfold fitsD expl
  rw [byD_mx S hm, mxS_length]
  constructor
  · intro h i hi
    have h2 := h i hi
    rw [cauL_el k m i q hi hq, scaleB_str, txtS S hi] at h2
    exact strX_inj.1 h2
  · intro h i hi
    rw [cauL_el k m i q hi hq, scaleB_str, txtS S hi]
    exact strX_inj.2 (h i hi)
theorem mayF_none {k m p : Nat} (S : GfM.Mx) (hm : 1 ≤ m) (h : ∀ q, q < k → ¬ expl k m p S q) : ∀ n, n ≤ k → mayF k m (mxS m p S) n = [] := by
  intro n
  induction n with
  | zero => intro _; rfl
  | succ n ih =>
    intro hn
    rw [mayF_no (fun hf => h n (by omega) ((fits_mx S hm (by omega)).1 hf))]
    exact ih (by omega)
theorem mayF_one {k m p q : Nat} (S : GfM.Mx) (hm : 1 ≤ m) (hq : expl k m p S q) (h : ∀ r, r < k → r ≠ q → ¬ expl k m p S r) : ∀ n, n ≤ k → mayF k m (mxS m p S) n = if q < n then [((q : Int), byD k (mxS m p S) q)] else [] := by
  intro n
  induction n with
  | zero => intro _; rw [if_neg (by omega)]; rfl
  | succ n ih =>
    intro hn
    by_cases e : n = q
    · subst e
      rw [mayF_yes ((fits_mx S hm (by omega)).2 hq), ih (by omega), if_neg (by omega), if_pos (by omega)]
      rfl
    · rw [mayF_no (fun hf => h n (by omega) e ((fits_mx S hm (by omega)).1 hf)), ih (by omega)]
      by_cases e2 : q < n
      · rw [if_pos e2, if_pos (by omega)]
      · rw [if_neg e2, if_neg (by omega)]
theorem xor6 (P Q A B C D : BitVec 8) (h : (P ^^^ A) ^^^ (C ^^^ Q) = (P ^^^ B) ^^^ (D ^^^ Q)) : (D ^^^ A) ^^^ (C ^^^ B) = 0#8 := by
  apply BitVec.eq_of_getLsbD_eq
  intro i hi
  have h2 := congrArg (fun v : BitVec 8 => v.getLsbD i) h
  simp only [BitVec.getLsbD_xor] at h2 ⊢
  simp only [BitVec.getLsbD_zero]
  revert h2
  cases P.getLsbD i <;> cases Q.getLsbD i <;> cases A.getLsbD i <;> cases B.getLsbD i <;> cases C.getLsbD i <;> cases D.getLsbD i <;> simp
theorem ofNat_ne {a b : Nat} (ha : a < 256) (hb : b < 256) (h : a ≠ b) : BitVec.ofNat 8 a ^^^ BitVec.ofNat 8 b ≠ 0#8 := by
  intro e
  have h2 : BitVec.ofNat 8 a = BitVec.ofNat 8 b := by
    have h2 := congrArg (· ^^^ BitVec.ofNat 8 b) e
    simpa [BitVec.xor_assoc] using h2
  have h3 := congrArg BitVec.toNat h2
  simp at h3
  omega
theorem inv_back {u v : GfM.F} (hu : u ≠ 0#8) : GfM.mul u (GfM.mul (GfM.inv u) v) = v := by rw [← GfM.mul_assoc, GfM.mul_inv u hu, GfM.one_mul]
theorem cau2 {k m q q' a : Nat} (hkm : k + m ≤ 255) (ha : a < m) (ha0 : a ≠ 0) (hq : q < k) (hq' : q' < k) (hne : q ≠ q') : GfM.mul (cauX k 0 q) (cauX k a q') ≠ GfM.mul (cauX k a q) (cauX k 0 q') := by
  obtain ⟨a0, h0⟩ : ∃ x, x = BitVec.ofNat 8 (k + 0) := ⟨_, rfl⟩
  obtain ⟨a1, h1⟩ : ∃ x, x = BitVec.ofNat 8 (k + a) := ⟨_, rfl⟩
  obtain ⟨x, hx⟩ : ∃ z, z = BitVec.ofNat 8 q := ⟨_, rfl⟩
  obtain ⟨y, hy⟩ : ∃ z, z = BitVec.ofNat 8 q' := ⟨_, rfl⟩
  have u0 : a0 ^^^ x ≠ 0#8 := by rw [h0, hx]; exact ofNat_ne (by omega) (by omega) (by omega)
  have v0 : a1 ^^^ y ≠ 0#8 := by rw [h1, hy]; exact ofNat_ne (by omega) (by omega) (by omega)
  have s0 : a1 ^^^ x ≠ 0#8 := by rw [h1, hx]; exact ofNat_ne (by omega) (by omega) (by omega)
  have t0 : a0 ^^^ y ≠ 0#8 := by rw [h0, hy]; exact ofNat_ne (by omega) (by omega) (by omega)
  have d1 : a1 ^^^ a0 ≠ 0#8 := by rw [h1, h0]; exact ofNat_ne (by omega) (by omega) (by omega)
  have d2 : x ^^^ y ≠ 0#8 := by rw [hx, hy]; exact ofNat_ne (by omega) (by omega) hne
  intro h
  have e1 : cauX k 0 q = GfM.inv (a0 ^^^ x) := by rw [h0, hx]; rfl
  have e2 : cauX k a q' = GfM.inv (a1 ^^^ y) := by rw [h1, hy]; rfl
  have e3 : cauX k a q = GfM.inv (a1 ^^^ x) := by rw [h1, hx]; rfl
  have e4 : cauX k 0 q' = GfM.inv (a0 ^^^ y) := by rw [h0, hy]; rfl
  rw [e1, e2, e3, e4] at h
  have key : GfM.mul (a1 ^^^ x) (a0 ^^^ y) = GfM.mul (a0 ^^^ x) (a1 ^^^ y) := by
    have g := congrArg (fun z => GfM.mul (GfM.mul (GfM.mul (a1 ^^^ x) (a0 ^^^ y)) (GfM.mul (a0 ^^^ x) (a1 ^^^ y))) z) h
    have l1 : GfM.mul (GfM.mul (GfM.mul (a1 ^^^ x) (a0 ^^^ y)) (GfM.mul (a0 ^^^ x) (a1 ^^^ y))) (GfM.mul (GfM.inv (a0 ^^^ x)) (GfM.inv (a1 ^^^ y))) = GfM.mul (a1 ^^^ x) (a0 ^^^ y) := by
      rw [GfM.mul_assoc]
      have : GfM.mul (GfM.mul (a0 ^^^ x) (a1 ^^^ y)) (GfM.mul (GfM.inv (a0 ^^^ x)) (GfM.inv (a1 ^^^ y))) = 1#8 := by
        rw [GfM.mul_assoc, GfM.mul_left_comm (a1 ^^^ y), GfM.mul_inv _ v0, GfM.mul_one, GfM.mul_inv _ u0]
      rw [this, GfM.mul_one]
    have l2 : GfM.mul (GfM.mul (GfM.mul (a1 ^^^ x) (a0 ^^^ y)) (GfM.mul (a0 ^^^ x) (a1 ^^^ y))) (GfM.mul (GfM.inv (a1 ^^^ x)) (GfM.inv (a0 ^^^ y))) = GfM.mul (a0 ^^^ x) (a1 ^^^ y) := by
      rw [GfM.mul_comm (GfM.mul (a1 ^^^ x) (a0 ^^^ y)), GfM.mul_assoc]
      have : GfM.mul (GfM.mul (a1 ^^^ x) (a0 ^^^ y)) (GfM.mul (GfM.inv (a1 ^^^ x)) (GfM.inv (a0 ^^^ y))) = 1#8 := by
        rw [GfM.mul_assoc, GfM.mul_left_comm (a0 ^^^ y), GfM.mul_inv _ t0, GfM.mul_one, GfM.mul_inv _ s0]
      rw [this, GfM.mul_one]
    exact l1.symm.trans (g.trans l2)
  rw [GfM.mul_xor_left, GfM.mul_xor_right, GfM.mul_xor_right, GfM.mul_xor_left, GfM.mul_xor_right, GfM.mul_xor_right, GfM.mul_comm a0 a1, GfM.mul_comm x a0, GfM.mul_comm x a1] at key
  have h6 := xor6 _ _ _ _ _ _ key
  have hz : GfM.mul (a1 ^^^ a0) (x ^^^ y) = 0#8 := by
    rw [GfM.mul_xor_left, GfM.mul_xor_right, GfM.mul_xor_right]
    exact h6
  rcases GfM.mul_eq_zero hz with e | e
  · exact d1 e
  · exact d2 e
theorem lastM_one (x : Int × ByteArray) : lastM [x] = x := rfl
/-- One piece of data that is wrong is found. -/
theorem findR_data {k m p q : Nat} (S : GfM.Mx) (E : Nat → GfM.F) (hkm : k + m ≤ 255) (hp : p ≤ 65536) (hm : 2 ≤ m) (hq : q < k) (hS : ∀ i, i < m → ∀ j, j < p → S i j = GfM.mul (cauX k i q) (E j)) (hE : ∃ j, j < p ∧ E j ≠ 0#8) :
    findR k m (mxS m p S) = ((q : Int), strX p E, 0) ∧ (wrongL (mxS m p S) (mxS m p S).length).length ≠ 0 := by
  obtain ⟨j0, hj0, hE0⟩ := hE
  have nz : ∀ i, i < m → S i j0 ≠ 0#8 := fun i hi h => by
    rw [hS i hi j0 hj0] at h
    rcases GfM.mul_eq_zero h with e | e
    · exact cauX_ne hi hq hkm e
    · exact hE0 e
  have c0 := cauX_ne (k := k) (m := m) (i := 0) (j := q) (by omega) hq hkm
  have hex : expl k m p S q := fun i hi j hj => by
    rw [hS 0 (by omega) j hj, hS i hi j hj]
    congr 1
    rw [← GfM.mul_assoc, GfM.mul_comm (GfM.inv _), GfM.mul_inv _ c0, GfM.one_mul]
  have hno : ∀ r, r < k → r ≠ q → ¬ expl k m p S r := fun r hr hrq h => by
    have h1 := h 1 (by omega) j0 hj0
    rw [hS 0 (by omega) j0 hj0, hS 1 (by omega) j0 hj0] at h1
    have cr := cauX_ne (k := k) (m := m) (i := 0) (j := r) (by omega) hr hkm
    have h2 := congrArg (fun z => GfM.mul (cauX k 0 r) z) h1
    have h3 : GfM.mul (GfM.mul (cauX k 1 r) (cauX k 0 q)) (E j0) = GfM.mul (GfM.mul (cauX k 0 r) (cauX k 1 q)) (E j0) := by
      have l : GfM.mul (cauX k 0 r) (GfM.mul (cauX k 1 r) (GfM.mul (GfM.inv (cauX k 0 r)) (GfM.mul (cauX k 0 q) (E j0)))) = GfM.mul (GfM.mul (cauX k 1 r) (cauX k 0 q)) (E j0) := by
        rw [GfM.mul_left_comm, inv_back cr, GfM.mul_assoc]
      rw [← l, GfM.mul_assoc]
      exact h2
    rw [GfM.mul_comm _ (E j0), GfM.mul_comm _ (E j0)] at h3
    have h4 := GfM.mul_cancel hE0 h3
    exact cau2 hkm (by omega : 1 < m) (by omega) hr hq hrq h4.symm
  have hw1 := wrong_two (m := m) (S := S) (a := 0) (b := 1) hp (by omega) (by omega) (by omega) ⟨j0, hj0, nz 0 (by omega)⟩ ⟨j0, hj0, nz 1 (by omega)⟩
  have hby : byD k (mxS m p S) q = strX p E := by
    rw [byD_mx S (by omega)]
    refine strX_congr (fun j hj => ?_)
    rw [hS 0 (by omega) j hj, ← GfM.mul_assoc, GfM.mul_comm (GfM.inv _), GfM.mul_inv _ c0, GfM.one_mul]
  have hml : mayL k m (mxS m p S) = [((q : Int), strX p E)] := by
    unfold mayL
    rw [mxS_length, if_neg hw1, List.append_nil, mayF_one S (by omega) hex hno k (Nat.le_refl _), if_pos hq, hby]
  refine ⟨?_, fun h => ?_⟩
  · unfold findR
    rw [hml, if_pos (by rfl), lastM_one]
  · rw [mxS_length] at h
    exact nz 0 (by omega) (wrong_zero hp h 0 (by omega) j0 hj0)
/-- One piece of parity that is wrong is found. -/
theorem findR_par {k m p r : Nat} (S : GfM.Mx) (E : Nat → GfM.F) (hkm : k + m ≤ 255) (hp : p ≤ 65536) (hm : 2 ≤ m) (hr : r < m) (hS0 : ∀ i, i < m → i ≠ r → ∀ j, j < p → S i j = 0#8) (hS1 : ∀ j, j < p → S r j = E j) (hE : ∃ j, j < p ∧ E j ≠ 0#8) :
    findR k m (mxS m p S) = (((k + r : Nat) : Int), strX p E, 0) ∧ (wrongL (mxS m p S) (mxS m p S).length).length ≠ 0 := by
  obtain ⟨j0, hj0, hE0⟩ := hE
  have hno : ∀ q, q < k → ¬ expl k m p S q := fun q hq h => by
    by_cases e : r = 0
    · have h1 := h 1 (by omega) j0 hj0
      rw [hS0 1 (by omega) (by omega) j0 hj0] at h1
      rcases GfM.mul_eq_zero h1 with z | z
      · exact cauX_ne (by omega : 1 < m) hq hkm z
      · rcases GfM.mul_eq_zero z with z | z
        · exact GfM.inv_ne (cauX_ne (by omega : 0 < m) hq hkm) z
        · have z' : S r j0 = 0#8 := by rw [e]; exact z
          rw [hS1 j0 hj0] at z'; exact hE0 z'
    · have h1 := h r hr j0 hj0
      rw [hS0 0 (by omega) (by omega) j0 hj0, GfM.mul_zero, GfM.mul_zero, hS1 j0 hj0] at h1
      exact hE0 h1.symm
  have hw := wrong_one hp hr hS0 ⟨j0, hj0, by rw [hS1 j0 hj0]; exact hE0⟩
  have hml : mayL k m (mxS m p S) = [(((k + r : Nat) : Int), strX p E)] := by
    unfold mayL
    rw [mxS_length, hw, mayF_none S (by omega) hno k (Nat.le_refl _), if_pos (by rfl)]
    have e1 : ([(r : Int)] : List Int).getD 0 0 = (r : Int) := rfl
    rw [e1, Int.toNat_natCast, txtS S hr, strX_congr hS1]
    simp
  refine ⟨?_, fun h => ?_⟩
  · unfold findR
    rw [hml, if_pos (by rfl), lastM_one]
  · rw [mxS_length, hw] at h
    cases h
def setRow (W : GfM.Mx) (a : Nat) (o : Nat → GfM.F) : GfM.Mx := fun r => if r = a then o else W r
theorem mxS_set {n p a : Nat} (W : GfM.Mx) (o : Nat → GfM.F) (ha : a < n) : (mxS n p W).set a (strX p o) = mxS n p (setRow W a o) := by
  apply List.ext_getElem?
  intro r
  by_cases hr : r < n
  · rw [mxS_get _ _ _ r hr]
    by_cases e : r = a
    · subst e
      rw [List.getElem?_set_self (by rw [mxS_length]; exact hr)]
      unfold setRow
      rw [if_pos rfl]
    · rw [List.getElem?_set_ne (fun e' => e e'.symm), mxS_get _ _ _ r hr]
      unfold setRow
      rw [if_neg e]
  · rw [List.getElem?_eq_none (by rw [List.length_set, mxS_length]; omega), List.getElem?_eq_none (by rw [mxS_length]; omega)]
theorem xor_xor_back (a b : GfM.F) : a ^^^ (b ^^^ a) = b := by rw [BitVec.xor_comm b a, ← BitVec.xor_assoc, BitVec.xor_self, BitVec.zero_xor]
theorem syn_data {k q : Nat} (W : GfM.Mx) (o : Nat → GfM.F) (hq : q < k) (i j : Nat) : syn k (setRow W q o) i j = syn k W i j ^^^ GfM.mul (cauX k i q) (o j ^^^ W q j) := by
  unfold syn
  have e1 : setRow W q o (k + i) j = W (k + i) j := by unfold setRow; rw [if_neg (by omega)]
  have e2 : GfM.mm k (cauX k) (setRow W q o) i j = GfM.mm k (cauX k) W i j ^^^ GfM.mul (cauX k i q) (o j ^^^ W q j) := by
    have h1 : GfM.mm k (cauX k) (setRow W q o) i j = GfM.mm k (cauX k) (fun r c => W r c ^^^ (if r = q ∧ c = j then (o j ^^^ W q j) else 0#8)) i j := by
      refine GfM.mm_congr (fun _ _ => rfl) (fun r _ => ?_)
      unfold setRow
      by_cases e : r = q
      · rw [if_pos e, if_pos ⟨e, rfl⟩, e, xor_xor_back]
      · rw [if_neg e, if_neg (fun h => e h.1), BitVec.xor_zero]
    rw [h1, mm_xor, mm_one hq, if_pos rfl]
  rw [e1, e2, BitVec.xor_assoc, BitVec.xor_assoc, BitVec.xor_comm (GfM.mul _ _)]
theorem syn_par {k r : Nat} (W : GfM.Mx) (o : Nat → GfM.F) (i j : Nat) : syn k (setRow W (k + r) o) i j = if i = r then syn k W i j ^^^ (o j ^^^ W (k + r) j) else syn k W i j := by
  unfold syn
  have e2 : GfM.mm k (cauX k) (setRow W (k + r) o) i j = GfM.mm k (cauX k) W i j := GfM.mm_congr (fun _ _ => rfl) (fun q hq => by unfold setRow; rw [if_neg (by omega)])
  rw [e2]
  by_cases e : i = r
  · subst e
    rw [if_pos rfl]
    have e1 : setRow W (k + i) o (k + i) j = o j := by unfold setRow; rw [if_pos rfl]
    rw [e1, BitVec.xor_assoc, xor_xor_back]
  · rw [if_neg e]
    have e1 : setRow W (k + r) o (k + i) j = W (k + i) j := by unfold setRow; rw [if_neg (by omega)]
    rw [e1]
theorem fix_none {k m p : Nat} (W : GfM.Mx) (k1 : 1 ≤ k) (hkm : k + m ≤ 255) (hp : p ≤ 65536) (h0 : ∀ i, i < m → ∀ j, j < p → syn k W i j = 0#8) {K : Nat} (hK : 70000 ≤ K) :
    locate_Find.f K (k : Int) (m : Int) (mxS (k + m) p W) = some (-1, 0) ∧ locate_Fix.f K (k : Int) (m : Int) (mxS (k + m) p W) = some (mxS (k + m) p W, -1, 0) ∧ locate_Wrong.f K (k : Int) (m : Int) (mxS (k + m) p W) = some ([], 0) := by
  have hl := lookF_mx W k1 hkm hp hK
  have hw : wrongL (mxS m p (syn k W)) (mxS m p (syn k W)).length = [] := by rw [mxS_length]; exact wrong_nil hp h0
  refine ⟨?_, ?_, ?_⟩
  · unfold locate_Find.f
    rw [hl]
    simp only [Option.bind_some]
    rw [if_neg (by simp), hw, if_pos (by rfl)]
  · unfold locate_Fix.f
    rw [hl]
    simp only [Option.bind_some]
    rw [if_neg (by simp), hw, if_pos (by rfl)]
  · unfold locate_Wrong.f
    rw [hl]
    simp only [Option.bind_some]
    rw [if_neg (by simp), hw]
theorem fix_val {K : Nat} {k m : Nat} {l off : List ByteArray} {a : Nat} {y : ByteArray} (hl : lookF K (k : Int) (m : Int) l = some (0, off)) (hw : (wrongL off off.length).length ≠ 0) (hf : findR k m off = ((a : Int), y, 0)) :
    locate_Find.f K (k : Int) (m : Int) l = some ((a : Int), 0) ∧ locate_Fix.f K (k : Int) (m : Int) l = some (l.set a (putX (txt l a) y), (a : Int), 0) := by
  refine ⟨?_, ?_⟩
  · unfold locate_Find.f
    rw [hl]
    simp only [Option.bind_some]
    rw [if_neg (by simp), if_neg hw, Int.toNat_natCast, Int.toNat_natCast, hf]
  · unfold locate_Fix.f
    rw [hl]
    simp only [Option.bind_some]
    rw [if_neg (by simp), if_neg hw, Int.toNat_natCast, Int.toNat_natCast, hf, if_neg (by simp), Int.toNat_natCast]
theorem xor_ne' {a b : GfM.F} (h : a ≠ b) : a ^^^ b ≠ 0#8 := GfM.xor_ne h
/-- A stripe one piece of which was changed. -/
theorem found {k m p a : Nat} (W : GfM.Mx) (o : Nat → GfM.F) (k1 : 1 ≤ k) (hkm : k + m ≤ 255) (hp : p ≤ 65536) (hm : 2 ≤ m) (h0 : ∀ i, i < m → ∀ j, j < p → syn k W i j = 0#8) (ha : a < k + m) (hne : ∃ j, j < p ∧ o j ≠ W a j) {K : Nat} (hK : 70000 ≤ K) :
    locate_Find.f K (k : Int) (m : Int) (mxS (k + m) p (setRow W a o)) = some ((a : Int), 0) ∧ locate_Fix.f K (k : Int) (m : Int) (mxS (k + m) p (setRow W a o)) = some (mxS (k + m) p W, (a : Int), 0) ∧ (k ≤ a → locate_Wrong.f K (k : Int) (m : Int) (mxS (k + m) p (setRow W a o)) = some ([((a - k : Nat) : Int)], 0)) := by
  obtain ⟨j0, hj0, hn0⟩ := hne
  have hl := lookF_mx (setRow W a o) k1 hkm hp hK
  have hE : ∃ j, j < p ∧ (fun j => o j ^^^ W a j) j ≠ 0#8 := ⟨j0, hj0, xor_ne' hn0⟩
  have hback : (mxS (k + m) p (setRow W a o)).set a (putX (txt (mxS (k + m) p (setRow W a o)) a) (strX p (fun j => o j ^^^ W a j))) = mxS (k + m) p W := by
    rw [txtS _ ha, putX_str _ _ hp, mxS_set _ _ ha]
    refine mxS_congr (fun i hi j hj => ?_)
    unfold setRow
    by_cases e : i = a
    · subst e
      simp only [if_true]
      rw [← BitVec.xor_assoc, BitVec.xor_self, BitVec.zero_xor]
    · simp only [if_neg e]
  by_cases hak : a < k
  · have hS : ∀ i, i < m → ∀ j, j < p → syn k (setRow W a o) i j = GfM.mul (cauX k i a) ((fun j => o j ^^^ W a j) j) := fun i hi j hj => by
      rw [syn_data W o hak, h0 i hi j hj, BitVec.zero_xor]
    obtain ⟨hf, hw⟩ := findR_data (syn k (setRow W a o)) (fun j => o j ^^^ W a j) hkm hp hm hak hS hE
    obtain ⟨h1, h2⟩ := fix_val hl hw hf
    rw [hback] at h2
    exact ⟨h1, h2, fun h => absurd h (by omega)⟩
  · obtain ⟨r, rfl⟩ : ∃ r, a = k + r := ⟨a - k, by omega⟩
    have hS0 : ∀ i, i < m → i ≠ r → ∀ j, j < p → syn k (setRow W (k + r) o) i j = 0#8 := fun i hi hir j hj => by
      rw [syn_par, if_neg hir]; exact h0 i hi j hj
    have hS1 : ∀ j, j < p → syn k (setRow W (k + r) o) r j = (fun j => o j ^^^ W (k + r) j) j := fun j hj => by
      rw [syn_par, if_pos rfl, h0 r (by omega) j hj, BitVec.zero_xor]
    obtain ⟨hf, hw⟩ := findR_par (syn k (setRow W (k + r) o)) (fun j => o j ^^^ W (k + r) j) hkm hp hm (by omega : r < m) hS0 hS1 hE
    obtain ⟨h1, h2⟩ := fix_val hl hw hf
    rw [hback] at h2
    refine ⟨h1, h2, fun _ => ?_⟩
    unfold locate_Wrong.f
    rw [hl]
    simp only [Option.bind_some]
    rw [if_neg (by simp), mxS_length, wrong_one hp (by omega : r < m) hS0 ⟨j0, hj0, by rw [hS1 j0 hj0]; exact xor_ne' hn0⟩, Nat.add_sub_cancel_left]
theorem codeW_syn {k m : Nat} (D : GfM.Mx) (i j : Nat) (hi : i < m) : syn k (GfM.mm k (allX k) D) i j = 0#8 := by
  unfold syn
  have e1 : GfM.mm k (cauX k) (GfM.mm k (allX k) D) i j = GfM.mm k (cauX k) D i j := GfM.mm_congr (fun _ _ => rfl) (fun r hr => by
    have e2 : GfM.mm k (allX k) D r j = GfM.mm k GfM.idm D r j := GfM.mm_congr (fun q _ => by unfold allX; rw [if_pos hr]) (fun _ _ => rfl)
    rw [e2, GfM.mm_id_left hr])
  have e3 : GfM.mm k (allX k) D (k + i) j = GfM.mm k (cauX k) D i j := by
    unfold GfM.mm
    exact GfM.sumN_congr fun q _ => by unfold allX; rw [if_neg (by omega), Nat.add_sub_cancel_left]
  rw [e1, e3, BitVec.xor_self]
theorem small34_l0 (x0 x1 : Int) (l : List ByteArray) (hl : l.length ≤ 17592186044416) (K : Nat) : ∀ (d i : Nat) (x7 : Int), i + d = l.length → i ≤ 12 → 0 ≤ x7 → x7 ≤ 4096 * (i : Int) → (∀ j, j < i → (l.getD j ByteArray.empty).size ≤ 4096) →
    ∃ b, caulklaw34_small.l0 (K + d + 1) x0 x1 x7 l (l.length : Int) (i : Int) = some b ∧ (b = true → l.length ≤ 12 ∧ ∀ s ∈ l, s.size ≤ 4096)
  | 0, i, x7, h, h16, h0, h1, hs => by
    have f0 : ¬ (i : Int) < (l.length : Int) := by omega
    have good : l.length ≤ 12 ∧ ∀ s ∈ l, s.size ≤ 4096 := ⟨by omega, fun s hm => by
      obtain ⟨j, hj, rfl⟩ := List.mem_iff_getElem.1 hm
      have := hs j (by omega)
      rwa [List.getD_eq_getElem?_getD, List.getElem?_eq_getElem hj] at this⟩
    unfold caulklaw34_small.l0
    rw [if_neg f0]
    repeat' split
    all_goals exact ⟨_, rfl, fun _ => good⟩
  | d + 1, i, x7, h, h16, h0, h1, hs => by
    have hi : i < l.length := by omega
    have f0 : (i : Int) < (l.length : Int) := by omega
    have f1 : (0 : Int) ≤ (i : Int) := by omega
    have hw : wrap64 ((i : Int) + 1) = ((i + 1 : Nat) : Int) := by clear h1 hs; unfold wrap64; omega
    rw [show K + (d + 1) + 1 = (K + d + 1) + 1 from by omega]
    have ih := small34_l0 x0 x1 l hl K d (i + 1)
    generalize hF : K + d + 1 = F at ih ⊢
    unfold caulklaw34_small.l0
    rw [if_pos f0, if_pos f1, if_pos f0, rdOf_nat]
    by_cases e : (i : Int) = 12
    · rw [if_pos e]; exact ⟨false, rfl, fun hh => by cases hh⟩
    · rw [if_neg e]
      by_cases e1 : ((l.getD i ByteArray.empty).size : Int) > 4096
      · rw [if_pos e1]; exact ⟨false, rfl, fun hh => by cases hh⟩
      · rw [if_neg e1]
        by_cases e2 : x7 > 4096
        · rw [if_pos e2]; exact ⟨false, rfl, fun hh => by cases hh⟩
        · have hw2 : wrap64 (x7 + ((l.getD i ByteArray.empty).size : Int)) = x7 + ((l.getD i ByteArray.empty).size : Int) := by clear hw ih hs; unfold wrap64; omega
          rw [if_neg e2, hw, hw2]
          refine ih _ (by omega) (by omega) (by omega) (by omega) (fun j hj => ?_)
          by_cases ej : j = i
          · subst ej; omega
          · exact hs j (by omega)
theorem small34 (a0 a1 : Int) {l : List ByteArray} (hl : l.length ≤ 17592186044416) {k : Nat} (hk : l.length < k) : ∃ b, caulklaw34_small.f k a0 a1 l = some b ∧ (b = true → l.length ≤ 12 ∧ ∀ s ∈ l, s.size ≤ 4096) := by
  have := small34_l0 a0 a1 l hl (k - l.length - 1) l.length 0 0 (by omega) (by omega) (by omega) (by omega) (fun j hj => by omega)
  rw [show k - l.length - 1 + l.length + 1 = k from by omega] at this
  exact this
theorem same5_l0 (a : List Int) (hl : a.length ≤ 1000) (K : Nat) : ∀ (d i : Nat), i + d = a.length → caulkref05_Same.l0 (K + d + 1) a a (a.length : Int) (i : Int) = some true
  | 0, i, h => by
    unfold caulkref05_Same.l0
    rw [if_neg (by omega)]
  | d + 1, i, h => by
    have hw : wrap64 ((i : Int) + 1) = ((i + 1 : Nat) : Int) := by unfold wrap64; omega
    rw [show K + (d + 1) + 1 = (K + d + 1) + 1 from by omega]
    unfold caulkref05_Same.l0
    rw [if_pos (by omega), if_pos (by omega), if_pos (by omega), if_pos (by omega), if_pos rfl, hw]
    exact same5_l0 a hl K d (i + 1) (by omega)
theorem same5 {a : List Int} (hl : a.length ≤ 1000) {K : Nat} (hK : 2000 ≤ K) : caulkref05_Same.f K a a = some true := by
  unfold caulkref05_Same.f
  rw [if_pos rfl]
  have := same5_l0 a hl (K - a.length - 1) a.length 0 (by omega)
  rw [show K - a.length - 1 + a.length + 1 = K from by omega] at this
  exact this
theorem strX_toB (s : ByteArray) : strX s.size (toB [s] 0) = s := strX_back _ _ (fun j _ => rfl)
theorem lives34 (K : Nat) (hK : 70100 ≤ K) : caulklaw34_lives.f K = some true := by
  obtain ⟨d, hd⟩ : ∃ d, d = toB [(⟨#[97, 98, 99]⟩ : ByteArray), (⟨#[100, 101, 102]⟩ : ByteArray)] := ⟨_, rfl⟩
  have hD : [(⟨#[97, 98, 99]⟩ : ByteArray), (⟨#[100, 101, 102]⟩ : ByteArray)] = mxS 2 3 d := by
    rw [hd]
    exact (mxS_toB (l := [(⟨#[97, 98, 99]⟩ : ByteArray), (⟨#[100, 101, 102]⟩ : ByteArray)]) (p := 3) (by decide)).symm
  obtain ⟨W, hW⟩ : ∃ W, W = GfM.mm 2 (allX 2) d := ⟨_, rfl⟩
  have hall : mxS 2 3 d ++ mxS 2 3 (GfM.mm 2 (cauX 2) d) = mxS 4 3 W := by rw [all_mxS 2 2 3 d, hW]
  have hsyn : ∀ i, i < 2 → ∀ j, j < 3 → syn 2 W i j = 0#8 := fun i hi j hj => by rw [hW]; exact codeW_syn (m := 2) d i j hi
  obtain ⟨p0, hp0⟩ : ∃ s, s = strX 3 (GfM.mm 2 (cauX 2) d 0) := ⟨_, rfl⟩
  obtain ⟨p1, hp1⟩ : ∃ s, s = strX 3 (GfM.mm 2 (cauX 2) d 1) := ⟨_, rfl⟩
  have hP : mxS 2 3 (GfM.mm 2 (cauX 2) d) = [p0, p1] := by rw [hp0, hp1]; rfl
  have hL : [(⟨#[97, 98, 99]⟩ : ByteArray), (⟨#[100, 101, 102]⟩ : ByteArray), p0, p1] = mxS 4 3 W := by rw [← hall, hP, ← hD]; rfl
  have hx1 : strX 3 (W 1) = (⟨#[100, 101, 102]⟩ : ByteArray) := by
    have h1 := txtS (n := 4) (p := 3) W (i := 1) (by omega)
    rw [← hL] at h1
    exact h1.symm
  have hx3 : strX 3 (W 3) = p1 := by
    have h1 := txtS (n := 4) (p := 3) W (i := 3) (by omega)
    rw [← hL] at h1
    exact h1.symm
  have hp1ne : p1 ≠ (⟨#[120, 121, 122]⟩ : ByteArray) := by rw [hp1, hd]; decide +kernel
  obtain ⟨o1, ho1⟩ : ∃ o, o = toB [(⟨#[100, 88, 102]⟩ : ByteArray)] 0 := ⟨_, rfl⟩
  have hs1 : strX 3 o1 = (⟨#[100, 88, 102]⟩ : ByteArray) := by rw [ho1]; exact strX_toB _
  obtain ⟨o3, ho3⟩ : ∃ o, o = toB [(⟨#[120, 121, 122]⟩ : ByteArray)] 0 := ⟨_, rfl⟩
  have hs3 : strX 3 o3 = (⟨#[120, 121, 122]⟩ : ByteArray) := by rw [ho3]; exact strX_toB _
  have hn : ∀ (f g : Nat → GfM.F), strX 3 f ≠ strX 3 g → ∃ j, j < 3 ∧ f j ≠ g j := fun f g h => Classical.byContradiction fun hh => h (strX_congr fun j hj => Classical.byContradiction fun e => hh ⟨j, hj, e⟩)
  have n1 := hn o1 (W 1) (by rw [hs1, hx1]; decide)
  have n3 := hn o3 (W 3) (by rw [hs3, hx3]; exact fun e => hp1ne e.symm)
  have hL1 : [(⟨#[97, 98, 99]⟩ : ByteArray), (⟨#[100, 88, 102]⟩ : ByteArray), p0, p1] = mxS 4 3 (setRow W 1 o1) := by rw [← mxS_set W o1 (by omega), ← hL, hs1]; rfl
  have hL3 : [(⟨#[97, 98, 99]⟩ : ByteArray), (⟨#[100, 101, 102]⟩ : ByteArray), p0, (⟨#[120, 121, 122]⟩ : ByteArray)] = mxS 4 3 (setRow W 3 o3) := by rw [← mxS_set W o3 (by omega), ← hL, hs3]; rfl
  obtain ⟨f1, -, -⟩ := fix_none (k := 2) (m := 2) (p := 3) W (by decide) (by decide) (by decide) hsyn (K := K - 1) (by omega)
  obtain ⟨f2, -, -⟩ := found (k := 2) (m := 2) (p := 3) (a := 1) W o1 (by decide) (by decide) (by decide) (by decide) hsyn (by decide) n1 (K := K - 1) (by omega)
  obtain ⟨-, f4, f3⟩ := found (k := 2) (m := 2) (p := 3) (a := 3) W o3 (by decide) (by decide) (by decide) (by decide) hsyn (by decide) n3 (K := K - 1) (by omega)
  have f3 := f3 (by decide)
  have henc := rsencode_ok (k := 2) (m := 2) (p := 3) d (by decide) (by decide) (by decide) (K := K) (by omega)
  -- the two that are asked of one piece of data, and one of parity
  obtain ⟨V, hV⟩ : ∃ V, V = toB [(⟨#[97]⟩ : ByteArray), (⟨#[98]⟩ : ByteArray)] := ⟨_, rfl⟩
  have hLV : [(⟨#[97]⟩ : ByteArray), (⟨#[98]⟩ : ByteArray)] = mxS 2 1 V := by
    rw [hV]
    exact (mxS_toB (l := [(⟨#[97]⟩ : ByteArray), (⟨#[98]⟩ : ByteArray)]) (p := 1) (by decide)).symm
  have f5 : ∃ r, locate_Find.f (K - 1) 1 1 [(⟨#[97]⟩ : ByteArray), (⟨#[98]⟩ : ByteArray)] = some (r, 10) := by
    have hl := lookF_mx (k := 1) (m := 1) (p := 1) V (by decide) (by decide) (by decide) (K := K - 1) (by omega)
    have s0 : syn 1 V 0 0 ≠ 0#8 := by rw [hV]; decide +kernel
    have hw := wrong_one (m := 1) (p := 1) (r := 0) (S := syn 1 V) (by decide) (by decide) (fun i hi h => absurd hi (by omega)) ⟨0, by decide, s0⟩
    have c0 : cauX 1 0 0 ≠ 0#8 := cauX_ne (k := 1) (m := 1) (by decide) (by decide) (by decide)
    have hex : expl 1 1 1 (syn 1 V) 0 := fun i hi j hj => by
      have : i = 0 := by omega
      subst this
      exact inv_back c0
    have hmf := mayF_one (k := 1) (m := 1) (p := 1) (q := 0) (syn 1 V) (by decide) hex (fun r hr hr0 => absurd hr (by omega)) 1 (by decide)
    have hml : (mayL 1 1 (mxS 1 1 (syn 1 V))).length = 2 := by
      unfold mayL
      rw [mxS_length, hw, hmf]
      rfl
    refine ⟨0, ?_⟩
    have e11 : (((1 : Nat) : Int)) = 1 := rfl
    rw [e11] at hl
    unfold locate_Find.f
    rw [hLV, hl]
    simp only [Option.bind_some]
    rw [if_neg (by simp), mxS_length, hw, if_neg (by simp)]
    have hfr : findR 1 1 (mxS 1 1 (syn 1 V)) = (0, ⟨#[]⟩, 10) := by
      unfold findR
      rw [if_neg (by rw [hml]; decide)]
    rw [show (1 : Int).toNat = 1 from rfl, hfr]
  have f6 : ∃ r, locate_Find.f (K - 1) 1 1 [(⟨#[97]⟩ : ByteArray)] = some (r, 2) := by
    have hw : lookWhy 1 1 [(⟨#[97]⟩ : ByteArray)] = 2 := by
      unfold lookWhy
      rw [if_neg (by decide), if_pos (.inl (by decide))]
    refine ⟨0, ?_⟩
    unfold locate_Find.f lookF
    rw [if_pos (by rw [hw]; decide), hw]
    rfl
  obtain ⟨r5, f5⟩ := f5
  obtain ⟨r6, f6⟩ := f6
  unfold caulklaw34_lives.f
  have e22 : (((2 : Nat) : Int)) = 2 := rfl
  rw [e22] at henc f1 f2 f3 f4
  rw [hD, henc, hP]
  simp only [Option.bind_some]
  rw [if_pos (by trivial)]
  obtain ⟨K, rfl⟩ : ∃ q, K = q + 1 := ⟨K - 1, by omega⟩
  rw [Nat.add_sub_cancel] at f1 f2 f3 f4 f5 f6
  have hb : (((([p0, p1] : List ByteArray).length : Int)) != 2) = false := rfl
  rw [hb]
  rw [caulklaw34_lives.j0]
  have q0 : rdOf ByteArray.empty [p0, p1] 0 = p0 := rfl
  have q1 : rdOf ByteArray.empty [p0, p1] 1 = p1 := rfl
  rw [if_neg (by decide), if_pos (by simp), if_pos (by simp), q0, q1, hL, f1]
  simp only [Option.bind_some]
  rw [hL1, f2]
  simp only [Option.bind_some]
  rw [hL3, f3]
  simp only [Option.bind_some]
  rw [f4]
  simp only [Option.bind_some]
  rw [f5]
  simp only [Option.bind_some]
  rw [f6]
  simp only [Option.bind_some]
  rw [if_pos (by trivial), if_pos (by trivial), if_pos (by trivial), if_pos (by trivial)]
  have e31 : (((3 - 2 : Nat) : Int)) = 1 := rfl
  rw [e31, same5 (a := [1]) (by decide) (by omega)]
  simp only [Option.bind_some]
  rw [if_pos (by trivial), if_pos (by trivial), same4 (by rw [mxS_length]; decide) (by omega)]
  simp only [Option.bind_some]
  rw [if_pos (by trivial), if_pos (by trivial), if_pos (by trivial), if_pos (by trivial)]
  rfl
theorem ref4check (a0 a1 : Int) (h0 : -9223372036854775808 ≤ a0) (h1 : a0 ≤ 9223372036854775807) (h2 : -9223372036854775808 ≤ a1) (h3 : a1 ≤ 9223372036854775807) : caulkref04_Check.f a0 a1 = rs_Check.f a0 a1 := by
  rw [rscheck]
  unfold caulkref04_Check.f
  by_cases c1 : a0 < 1
  · rw [if_pos c1, if_neg (by omega)]
  · rw [if_neg c1]
    by_cases c2 : a1 < 0
    · rw [if_pos c2, if_neg (by omega)]
    · rw [if_neg c2]
      by_cases c3 : a0 > 255
      · rw [if_pos c3, if_neg (by omega)]
      · rw [if_neg c3]
        by_cases c4 : a1 > 255
        · rw [if_pos c4, if_neg (by omega)]
        · rw [if_neg c4]
          have hw : wrap64 (a0 + a1) = a0 + a1 := by unfold wrap64; omega
          rw [hw]
          by_cases c5 : a0 + a1 > 255
          · rw [if_pos c5, if_neg (by omega)]
          · rw [if_neg c5, if_pos (by omega)]
theorem ref4fits_l0 (l : List ByteArray) (hl : l.length ≤ 17592186044416) (K : Nat) : ∀ (d i : Nat), i + d = l.length → caulkref04_fits.l0 (K + d + 1) l l (l.length : Int) (i : Int) = some (decide (∀ s ∈ l.drop i, s.size = (l.getD 0 ByteArray.empty).size ∧ s.size ≤ 65536))
  | 0, i, h => by
    have f0 : ¬ (i : Int) < (l.length : Int) := by omega
    show (if (i : Int) < (l.length : Int) then _ else some true) = _
    rw [if_neg f0, List.drop_of_length_le (by omega)]
    simp
  | d + 1, i, h => by
    have hi : i < l.length := by omega
    have f0 : (i : Int) < (l.length : Int) := by omega
    have f1 : (0 : Int) ≤ (i : Int) := by omega
    have f2 : (0 : Int) < (l.length : Int) := by omega
    have hw : wrap64 ((i : Int) + 1) = ((i + 1 : Nat) : Int) := by unfold wrap64; omega
    have ih := ref4fits_l0 l hl K d (i + 1) (by omega)
    have e0 : rdOf ByteArray.empty l 0 = l.getD 0 ByteArray.empty := rdOf_nat l 0
    have ei : l.getD i ByteArray.empty = l[i] := by rw [List.getD_eq_getElem?_getD, List.getElem?_eq_getElem hi]; rfl
    rw [show K + (d + 1) + 1 = (K + d + 1) + 1 from by omega]
    generalize hF : K + d + 1 = F at ih ⊢
    unfold caulkref04_fits.l0
    rw [if_pos f0, if_pos f1, if_pos f0, if_pos f2, rdOf_nat, e0, ei, hw, ih, List.drop_eq_getElem_cons hi]
    simp only [List.forall_mem_cons]
    by_cases h1 : l[i].size = (l.getD 0 ByteArray.empty).size
    · rw [if_pos (by omega)]
      by_cases h2 : l[i].size > 65536
      · rw [if_pos (by omega)]
        congr 1
        exact (decide_eq_false (fun hh => by have := hh.1.2; omega)).symm
      · rw [if_neg (by omega)]
        congr 1
        rw [decide_eq_decide]
        exact ⟨fun hh => ⟨⟨h1, by omega⟩, hh⟩, fun hh => hh.2⟩
    · rw [if_neg (by omega)]
      congr 1
      exact (decide_eq_false (fun hh => h1 hh.1.1)).symm
theorem ref4fits {l : List ByteArray} (hl : l.length ≤ 17592186044416) {k : Nat} (hk : l.length < k) : caulkref04_fits.f k l = some (decide (Fits l)) := by
  have := ref4fits_l0 l hl (k - l.length - 1) l.length 0 (by omega)
  rw [show k - l.length - 1 + l.length + 1 = k from by omega, List.drop_zero] at this
  exact this

theorem bt_strX (p : Nat) (f : Nat → GfM.F) {j : Nat} (hj : j < p) : bt (strX p f) (j : Int) = ((f j).toNat : Int) := by
  rw [← rd_bytesOf, strX_bytes, rd_rowL f hj]
theorem ref4times_l {n m p : Nat} (A D : GfM.Mx) (hn : n ≤ 255) (hm : m ≤ 255) (m1 : 1 ≤ m) (hp : p ≤ 65536) :
    ∀ (d i K : Nat), i + d = n → caulkref04_times.l0 (K + d * (m * (p + 2) + 2) + 1) (mxS m p D) (mxS i p (GfM.mm m A D)) (mxL n m A) (n : Int) (i : Int) = some (mxS n p (GfM.mm m A D)) := by
  have l2 : ∀ (i : Nat), i < n → ∀ (j : Nat), j < m → ∀ (d q K : Nat), q + d = p → caulkref04_times.l2 (K + d + 1) (mxS m p D) (mxS i p (GfM.mm m A D)) (rowL p (fun c => if c < q then GfM.mm (j + 1) A D i c else GfM.mm j A D i c)) (j : Int) ((A i j).toNat : Int) (mxL n m A) (n : Int) (i : Int) (rowL m (A i)) (m : Int) (j : Int) (p : Int) (q : Int) = caulkref04_times.l1 K (mxS m p D) (mxS i p (GfM.mm m A D)) (rowL p (GfM.mm (j + 1) A D i)) (mxL n m A) (n : Int) (i : Int) (rowL m (A i)) (m : Int) ((j + 1 : Nat) : Int) := by
    intro i hi j hj d
    induction d with
    | zero =>
      intro q K h
      have f0 : ¬ (q : Int) < (p : Int) := by omega
      have hw : wrap64 ((j : Int) + 1) = ((j + 1 : Nat) : Int) := by unfold wrap64; omega
      unfold caulkref04_times.l2
      rw [if_neg f0, hw, rowL_congr (f' := GfM.mm (j + 1) A D i) (fun c hc => by rw [if_pos (by omega)])]
    | succ d ih =>
      intro q K h
      have hq : q < p := by omega
      have f0 : (q : Int) < (p : Int) := by omega
      have f1 : (0 : Int) ≤ (q : Int) := by omega
      have f2 : (0 : Int) ≤ (j : Int) := by omega
      have f3 : (j : Int) < (m : Int) := by omega
      have hw : wrap64 ((q : Int) + 1) = ((q + 1 : Nat) : Int) := by unfold wrap64; omega
      have ih' := ih (q + 1) K (by omega)
      rw [show K + (d + 1) + 1 = (K + d + 1) + 1 from by omega]
      generalize hF : K + d + 1 = F at ih' ⊢
      unfold caulkref04_times.l2
      rw [if_pos f0, if_pos f1]
      simp only [rowL_length, mxS_length]
      rw [if_pos f0, if_pos f2, if_pos f3, rdS D hj, strX_size, if_pos f0, bt_strX p _ hq, refmul (isB_nat _) (isB_nat _)]
      simp only [Option.bind_some, hw, Int.toNat_natCast]
      rw [rd_rowL _ hq, mulI_nat, g_xor8, rowL_set]
      have e : rowL p (fun c => if c = q then ((fun c => if c < q then GfM.mm (j + 1) A D i c else GfM.mm j A D i c) q ^^^ GfM.mul (A i j) (D j q)) else (fun c => if c < q then GfM.mm (j + 1) A D i c else GfM.mm j A D i c) c) = rowL p (fun c => if c < q + 1 then GfM.mm (j + 1) A D i c else GfM.mm j A D i c) := rowL_congr fun c hc => by
        by_cases e : c = q
        · subst e
          rw [if_pos rfl, if_pos (by omega)]
          dsimp only
          rw [if_neg (by omega)]
          rfl
        · rw [if_neg e]
          dsimp only
          by_cases e2 : c < q
          · rw [if_pos e2, if_pos (by omega)]
          · rw [if_neg e2, if_neg (by omega)]
      rw [e]
      exact ih'
  have l1 : ∀ (i : Nat), i < n → ∀ (d j K : Nat), j + d = m → caulkref04_times.l1 (K + d * (p + 2) + 1) (mxS m p D) (mxS i p (GfM.mm m A D)) (rowL p (GfM.mm j A D i)) (mxL n m A) (n : Int) (i : Int) (rowL m (A i)) (m : Int) (j : Int) = caulkref04_times.l0 K (mxS m p D) (mxS (i + 1) p (GfM.mm m A D)) (mxL n m A) (n : Int) ((i + 1 : Nat) : Int) := by
    intro i hi d
    induction d with
    | zero =>
      intro j K h
      have hj : j = m := by omega
      subst hj
      have f0 : ¬ (j : Int) < (j : Int) := by omega
      have f2 : (mxS i p (GfM.mm j A D)).length < 8796093022208 := by rw [mxS_length]; omega
      have hw : wrap64 ((i : Int) + 1) = ((i + 1 : Nat) : Int) := by unfold wrap64; omega
      rw [Nat.zero_mul, Nat.add_zero]
      unfold caulkref04_times.l1
      rw [if_neg f0, if_pos f2, hw]
      rw [show strOfNums (rowL p (GfM.mm j A D i)) = strX p (GfM.mm j A D i) from rfl]
      have e : mxS i p (GfM.mm j A D) ++ [strX p (GfM.mm j A D i)] = mxS (i + 1) p (GfM.mm j A D) := by unfold mxS; rw [List.range_succ, List.map_append, List.map_cons, List.map_nil]
      rw [e]
    | succ d ih =>
      intro j K h
      have hj : j < m := by omega
      have f0 : (j : Int) < (m : Int) := by omega
      have f1 : (0 : Int) ≤ (j : Int) := by omega
      have ih' := ih (j + 1) K (by omega)
      have e := l2 i hi j hj p 0 (K + d * (p + 2) + 1) (by omega)
      rw [ih', rowL_congr (f' := GfM.mm j A D i) (fun c hc => by rw [if_neg (by omega)])] at e
      have ef : K + (d + 1) * (p + 2) + 1 = (K + d * (p + 2) + 1 + p + 1) + 1 := by rw [Nat.succ_mul]; omega
      rw [ef]
      generalize hF : K + d * (p + 2) + 1 + p + 1 = F at e ⊢
      unfold caulkref04_times.l1
      rw [if_pos f0, if_pos f1]
      simp only [rowL_length]
      rw [if_pos f0, rd_rowL _ hj]
      exact e
  intro d
  induction d with
  | zero =>
    intro i K h
    have e : i = n := by omega
    subst e
    have f0 : ¬ (i : Int) < (i : Int) := by omega
    rw [Nat.zero_mul, Nat.add_zero]
    unfold caulkref04_times.l0
    rw [if_neg f0]
  | succ d ih =>
    intro i K h
    have hi : i < n := by omega
    have f0 : (i : Int) < (n : Int) := by omega
    have f1 : (0 : Int) ≤ (i : Int) := by omega
    have f2 : (0 : Int) < (m : Int) := by omega
    have f3 : (0 : Int) ≤ (p : Int) := by omega
    have f4 : p ≤ 281474976710656 := by omega
    have ih' := ih (i + 1) K (by omega)
    have e := l1 i hi m 0 (K + d * (m * (p + 2) + 2) + 1) (by omega)
    rw [ih'] at e
    have ef : K + (d + 1) * (m * (p + 2) + 2) + 1 = (K + d * (m * (p + 2) + 2) + 1 + m * (p + 2) + 1) + 1 := by rw [Nat.succ_mul]; omega
    have e0 : rdOf ByteArray.empty (mxS m p D) 0 = strX p (D 0) := rdS D (i := 0) (by omega)
    have er : List.replicate p (0 : Int) = rowL p (GfM.mm 0 A D i) := rowL_ext (by simp) (fun j hj => by simp [List.getD_eq_getElem?_getD, hj]; rfl)
    rw [ef]
    generalize hF : K + d * (m * (p + 2) + 2) + 1 + m * (p + 2) + 1 = F at e ⊢
    unfold caulkref04_times.l0
    simp only [mxL_length, mxS_length, e0, strX_size, Int.toNat_natCast]
    rw [if_pos f0, if_pos f1, if_pos f0, if_pos f2, if_pos f3, if_pos f4, rd_L2_mxL A hi, rowL_length, er]
    exact e
theorem ref4times {n m p : Nat} (A D : GfM.Mx) (hn : n ≤ 255) (hm : m ≤ 255) (m1 : 1 ≤ m) (hp : p ≤ 65536) {k : Nat} (hk : 5000000000 ≤ k) : caulkref04_times.f k (mxL n m A) (mxS m p D) = some (mxS n p (GfM.mm m A D)) := by
  unfold caulkref04_times.f
  have hb1 : m * (p + 2) ≤ 255 * 65538 := Nat.mul_le_mul hm (by omega)
  have hb : n * (m * (p + 2) + 2) ≤ 255 * (255 * 65538 + 2) := Nat.mul_le_mul hn (by omega)
  have := ref4times_l A D hn hm m1 hp n 0 (k - n * (m * (p + 2) + 2) - 1) (by omega)
  rw [show k - n * (m * (p + 2) + 2) - 1 + n * (m * (p + 2) + 2) + 1 = k from by omega] at this
  rw [mxL_length]
  exact this
theorem ref4enc_j0 (k : Nat) (x0 x1 : Int) (x2 : List ByteArray) (x22 : Bool) : caulkref04_Encode.j0 (k + 1) x0 x1 x2 x22 = if x22 = true then (some (([] : List ByteArray), 2)) else (if x1 = 0 then (some (([] : List ByteArray), 0)) else ((caulkref03_Cauchy.f k x0 x1).bind fun bt574 => ((caulkref04_times.f k bt574.1 x2).bind fun t578 => (some (t578, 0))))) := rfl
theorem ref4encode {a0 a1 : Int} {l : List ByteArray} (hl : l.length ≤ 17592186044416) (s0 : a0 ≤ 20 ∨ a0 > 255) (s1 : a1 ≤ 20 ∨ a1 > 255) (w0 : -9223372036854775808 ≤ a0) (w1 : a0 ≤ 9223372036854775807) (w2 : -9223372036854775808 ≤ a1) (w3 : a1 ≤ 9223372036854775807) {K : Nat} (hK : 6000000000 ≤ K) (hK2 : l.length + 10 < K) (K' : Nat) (hK' : 70000 ≤ K') (hK3 : l.length < K') : caulkref04_Encode.f K a0 a1 l = rs_Encode.f K' a0 a1 l := by
  obtain ⟨F, rfl⟩ : ∃ F, K = F + 1 := ⟨K - 1, by omega⟩
  unfold caulkref04_Encode.f rs_Encode.f
  rw [ref4check a0 a1 w0 w1 w2 w3, rscheck]
  by_cases hc : 1 ≤ a0 ∧ a0 ≤ 255 ∧ 0 ≤ a1 ∧ a1 ≤ 255 - a0
  · rw [if_pos hc]
    simp only [Option.bind_some, if_true]
    by_cases hlen : (l.length : Int) = a0
    · rw [if_pos hlen, if_pos hlen, rsfits hl hK3, ref4fits hl (by omega)]
      simp only [Option.bind_some]
      by_cases hf : Fits l
      · rw [decide_eq_true hf]
        simp only [if_true, Bool.not_true]
        rw [ref4enc_j0, if_neg (by decide)]
        have hne : 0 < l.length := by omega
        have hp : (l.getD 0 ByteArray.empty).size ≤ 65536 := by
          refine (hf _ ?_).2
          rw [List.getD_eq_getElem?_getD, List.getElem?_eq_getElem hne]
          exact List.getElem_mem hne
        obtain ⟨m, hm⟩ := Int.eq_ofNat_of_zero_le hc.2.2.1
        have e := mxS_toB (l := l) (p := (l.getD 0 ByteArray.empty).size) (fun s hs => (hf s hs).1)
        have hpar := rsparity (k := l.length) (m := m) (toB l) (by omega) (by omega) hp hK'
        rw [e, hlen, ← hm] at hpar
        rw [hpar]
        by_cases h0 : a1 = 0
        · rw [if_pos h0]
          have : m = 0 := by omega
          subst this
          rfl
        · rw [if_neg h0, refcau a0 a1 s0 s1 (by omega)]
          have hcf := cauf l.length m (by omega) (by omega) (by omega)
          rw [hlen, ← hm] at hcf
          rw [hcf]
          simp only [Option.bind_some]
          have ht := ref4times (n := m) (m := l.length) (p := (l.getD 0 ByteArray.empty).size) (cauX l.length) (toB l) (by omega) (by omega) (by omega) hp (k := F) (by omega)
          rw [e] at ht
          rw [ht]
          rfl
      · rw [decide_eq_false hf]
        simp only [Bool.false_eq_true, if_false, Bool.not_false]
        rw [ref4enc_j0, if_pos rfl]
    · rw [if_neg hlen, if_neg hlen, ref4enc_j0, if_pos rfl]
  · rw [if_neg hc]
    rfl
/-! ### the document's Decode -/
/-- Which pieces are there, as far as n. -/
def thereL (t : Nat → Bool) (n : Nat) : List Nat := (List.range n).filter t
theorem thereL_succ (t : Nat → Bool) (n : Nat) : thereL t (n + 1) = thereL t n ++ (if t n = true then [n] else []) := by
  unfold thereL
  rw [List.range_succ, List.filter_append]
  congr 1
  by_cases h : t n = true <;> simp [h]
theorem thereL_lt {t : Nat → Bool} {n x : Nat} (h : x ∈ thereL t n) : x < n := List.mem_range.1 (List.mem_filter.1 h).1
theorem thereL_le (t : Nat → Bool) (n : Nat) : (thereL t n).length ≤ n := by have := List.length_filter_le t (List.range n); rw [List.length_range] at this; exact this
theorem thereL_sorted (t : Nat → Bool) (n : Nat) : (thereL t n).Pairwise (· < ·) := List.Pairwise.filter t List.pairwise_lt_range
def haveL (t : Nat → Bool) (p : Nat) (W : GfM.Mx) (n : Nat) : List ByteArray := (thereL t n).map fun r => strX p (W r)
def placeL (t : Nat → Bool) (n : Nat) : List Int := (thereL t n).map fun (r : Nat) => (r : Int)
theorem haveL_length (t : Nat → Bool) (p : Nat) (W : GfM.Mx) (n : Nat) : (haveL t p W n).length = (thereL t n).length := by simp [haveL]
theorem placeL_length (t : Nat → Bool) (n : Nat) : (placeL t n).length = (thereL t n).length := by simp [placeL]
theorem have_take (t : Nat → Bool) (p : Nat) (W : GfM.Mx) {n k : Nat} (hk : k ≤ (thereL t n).length) : (haveL t p W n).take k = mxS k p (fun i => W ((thereL t n).getD i 0)) := by
  apply List.ext_getElem?
  intro i
  by_cases hi : i < k
  · rw [List.getElem?_take, if_pos hi, mxS_get _ _ _ i hi]
    unfold haveL
    rw [List.getElem?_map, List.getElem?_eq_getElem (by omega), List.getD_eq_getElem?_getD, List.getElem?_eq_getElem (by omega)]
    rfl
  · rw [List.getElem?_eq_none (by rw [List.length_take, haveL_length]; omega), List.getElem?_eq_none (by rw [mxS_length]; omega)]
def thr (l : List S74) (r : Nat) : Bool := (l.getD r z74).f0
def dat (l : List S74) (r : Nat) : ByteArray := (l.getD r z74).f1
def haveD (t : Nat → Bool) (d : Nat → ByteArray) (n : Nat) : List ByteArray := (thereL t n).map d
theorem haveD_length (t : Nat → Bool) (d : Nat → ByteArray) (n : Nat) : (haveD t d n).length = (thereL t n).length := by simp [haveD]
theorem rd_thr (l : List S74) (i : Nat) : (rd_T74 l (i : Int)).f0 = thr l i ∧ (rd_T74 l (i : Int)).f1 = dat l i := by
  unfold rd_T74 thr dat
  rw [Int.toNat_natCast]
  exact ⟨rfl, rfl⟩
theorem have_step {t : Nat → Bool} (d : Nat → ByteArray) {i : Nat} (ht : t i = true) : haveD t d (i + 1) = haveD t d i ++ [d i] ∧ placeL t (i + 1) = placeL t i ++ [(i : Int)] := by
  unfold haveD placeL
  rw [thereL_succ, if_pos ht, List.map_append, List.map_append]
  exact ⟨rfl, rfl⟩
theorem have_stay {t : Nat → Bool} (d : Nat → ByteArray) {i : Nat} (ht : ¬ t i = true) : haveD t d (i + 1) = haveD t d i ∧ placeL t (i + 1) = placeL t i := by
  unfold haveD placeL
  rw [thereL_succ, if_neg ht, List.append_nil]
  exact ⟨rfl, rfl⟩
theorem ref4dec_l0 (x0 x1 : Int) (x2 l : List S74) (hn : l.length ≤ 255) (K : Nat) : ∀ (e i : Nat), i + e = l.length → caulkref04_Decode.l0 (K + e + 1) x0 x1 x2 (haveD (thr l) (dat l) i) (placeL (thr l) i) l (l.length : Int) (i : Int)
    = if (x2.length : Int) = (wrap64 (x0 + x1)) then ((caulkref04_fits.f K (haveD (thr l) (dat l) l.length)).bind fun t447 => (caulkref04_Decode.j1 K x0 x1 (haveD (thr l) (dat l) l.length) (placeL (thr l) l.length) (!t447))) else (caulkref04_Decode.j1 K x0 x1 (haveD (thr l) (dat l) l.length) (placeL (thr l) l.length) true)
  | 0, i, h => by
    have e : i = l.length := by omega
    have f0 : ¬ (i : Int) < (l.length : Int) := by omega
    rw [Nat.add_zero]
    conv => lhs; unfold caulkref04_Decode.l0
    rw [if_neg f0, e]
  | e + 1, i, h => by
    have f0 : (i : Int) < (l.length : Int) := by omega
    have f1 : (0 : Int) ≤ (i : Int) := by omega
    have hw : wrap64 ((i : Int) + 1) = ((i + 1 : Nat) : Int) := by unfold wrap64; omega
    have ih := ref4dec_l0 x0 x1 x2 l hn K e (i + 1) (by omega)
    have hle := thereL_le (thr l) i
    rw [show K + (e + 1) + 1 = (K + e + 1) + 1 from by omega]
    generalize hF : K + e + 1 = F at ih ⊢
    conv => lhs; unfold caulkref04_Decode.l0
    rw [if_pos f0, if_pos f1, if_pos f0, (rd_thr l i).1, (rd_thr l i).2, hw]
    by_cases ht : thr l i = true
    · rw [(have_step (dat l) ht).1, (have_step (dat l) ht).2] at ih
      rw [if_pos ht, if_pos (by rw [haveD_length]; omega), if_pos (by rw [placeL_length]; omega)]
      exact ih
    · rw [(have_stay (dat l) ht).1, (have_stay (dat l) ht).2] at ih
      rw [if_neg ht]
      exact ih
theorem ref4dec_j1 (k : Nat) (x0 x1 : Int) (x8 : List ByteArray) (x9 : List Int) (x56 : Bool) : caulkref04_Decode.j1 (k + 1) x0 x1 x8 x9 x56 = if x56 = true then (some (([] : List ByteArray), 2)) else (if (x8.length : Int) < x0 then (some (([] : List ByteArray), 10)) else ((caulkref03_Unit.f k x0).bind fun bt448 => (if x1 > 0 then ((caulkref03_Cauchy.f k x0 x1).bind fun bt452 => (if bt448.1.length + bt452.1.length < 5864062014805 then (caulkref04_Decode.j2 k x0 x1 x8 x9 (bt448.1 ++ bt452.1)) else (none))) else (caulkref04_Decode.j2 k x0 x1 x8 x9 bt448.1)))) := rfl
theorem ref4dec_j2 (k : Nat) (x0 x1 : Int) (x8 : List ByteArray) (x9 : List Int) (x12 : List (List Int)) : caulkref04_Decode.j2 (k + 1) x0 x1 x8 x9 x12 = if 0 ≤ x0 then (if x0 ≤ (x9.length : Int) then ((caulkref03_Rows.f k x12 (x9.take (x0 : Int).toNat)).bind fun bt464 => ((caulkref03_Invert.f bt464.1).bind fun bt468 => (if x0 ≤ (x8.length : Int) then ((caulkref04_times.f k bt468.1 (x8.take (x0 : Int).toNat)).bind fun t477 => ((caulkref04_Encode.f k x0 x1 t477).bind fun bt480 => (if t477.length + bt480.1.length < 8796093022208 then (some ((t477 ++ bt480.1), 0)) else (none)))) else (none)))) else (none)) else (none) := rfl
/-- The rows of the first k pieces that are there. -/
theorem rows_of {k m : Nat} (t : Nat → Bool) (hR : k ≤ (thereL t (k + m)).length) : ((placeL t (k + m)).take k).length = k ∧ (∀ x ∈ (placeL t (k + m)).take k, 0 ≤ x ∧ x < ((k + m : Nat) : Int)) ∧ ((placeL t (k + m)).take k).Nodup ∧ ∀ i, i < k → (((placeL t (k + m)).take k).getD i 0).toNat = (thereL t (k + m)).getD i 0 := by
  have hs := thereL_sorted t (k + m)
  refine ⟨by rw [List.length_take, placeL_length]; omega, fun x hx => ?_, ?_, fun i hi => ?_⟩
  · obtain ⟨r, hr, rfl⟩ := List.mem_map.1 (List.mem_of_mem_take hx)
    have := thereL_lt hr
    omega
  · refine List.Nodup.sublist (List.take_sublist _ _) ?_
    exact List.pairwise_map.2 (List.Pairwise.imp (fun hlt e => by omega) hs)
  · rw [List.getD_eq_getElem?_getD, List.getElem?_take, if_pos hi]
    unfold placeL
    rw [List.getElem?_map, List.getD_eq_getElem?_getD, List.getElem?_eq_getElem (show i < (thereL t (k + m)).length by omega)]
    rfl
theorem refinvert_small {k : Nat} (A : GfM.Mx) (k1 : 1 ≤ k) (k16 : k ≤ 16) : caulkref03_Invert.f (mxL k k A) = matrix_Invert.f (mxL k k A) := by
  have hb : BytesM (mxL k k A) := mxL_bytes _ _ _
  unfold caulkref03_Invert.f matrix_Invert.f
  rw [if_pos hb, if_pos ⟨hb, fun _ => by rw [mxL_length]; exact k16⟩]
/-- What explains the pieces mends them. -/
theorem mended {k m p : Nat} (W : GfM.Mx) (k1 : 1 ≤ k) (hkm : k + m ≤ 255) (hp : p ≤ 65536) {K : Nat} (hK : 70000 ≤ K) (hw : (wrongL (mxS m p (syn k W)) (mxS m p (syn k W)).length).length ≠ 0) (hf : (findR k m (mxS m p (syn k W))).2.2 = 0) :
    ∃ (a : Nat) (o : Nat → GfM.F), a < k + m ∧ (∃ j, j < p ∧ o j ≠ W a j) ∧ (∀ i, i < m → ∀ j, j < p → syn k (setRow W a o) i j = 0#8) ∧ locate_Find.f K (k : Int) (m : Int) (mxS (k + m) p W) = some ((a : Int), 0) ∧ locate_Fix.f K (k : Int) (m : Int) (mxS (k + m) p W) = some (mxS (k + m) p (setRow W a o), (a : Int), 0) := by
  have hl := lookF_mx W k1 hkm hp hK
  have hm : 1 ≤ m := by
    have := wrong_some hw
    rw [mxS_length] at this
    exact this
  have hm1 : (mayL k m (mxS m p (syn k W))).length = 1 := by
    apply Classical.byContradiction
    intro h
    unfold findR at hf
    rw [if_neg h] at hf
    cases hf
  obtain ⟨x, hx⟩ : ∃ x, mayL k m (mxS m p (syn k W)) = [x] := List.length_eq_one_iff.1 hm1
  have hfr : findR k m (mxS m p (syn k W)) = (x.1, x.2, 0) := by
    unfold findR
    rw [if_pos hm1, hx, lastM_one]
  have hnz : ∃ i, i < m ∧ ∃ j, j < p ∧ syn k W i j ≠ 0#8 := by
    apply Classical.byContradiction
    intro hn
    refine hw ?_
    rw [mxS_length, wrong_nil hp (fun i hi j hj => Classical.byContradiction fun e => hn ⟨i, hi, j, hj, e⟩)]
    rfl
  -- the piece that is mended
  have main : ∃ (a : Nat) (E : Nat → GfM.F), a < k + m ∧ x = ((a : Int), strX p E) ∧ (∃ j, j < p ∧ E j ≠ 0#8) ∧ (∀ i, i < m → ∀ j, j < p → syn k (setRow W a (fun j => W a j ^^^ E j)) i j = 0#8) := by
    have hmem : x ∈ mayL k m (mxS m p (syn k W)) := by rw [hx]; simp
    unfold mayL at hmem
    rcases List.mem_append.1 hmem with h | h
    · unfold mayF at h
      obtain ⟨q, hq, e⟩ := List.mem_filterMap.1 h
      have hql := List.mem_range.1 hq
      split at e
      · rename_i hfit
        injection e with e
        have hex := (fits_mx (syn k W) hm hql).1 hfit
        rw [byD_mx (syn k W) hm] at e
        refine ⟨q, fun j => GfM.mul (GfM.inv (cauX k 0 q)) (syn k W 0 j), by omega, e.symm, ?_, fun i hi j hj => ?_⟩
        · obtain ⟨i, hi, j, hj, hne⟩ := hnz
          refine ⟨j, hj, fun h0 => hne ?_⟩
          rw [← hex i hi j hj]
          show GfM.mul _ (GfM.mul (GfM.inv (cauX k 0 q)) (syn k W 0 j)) = 0#8
          have h0' : GfM.mul (GfM.inv (cauX k 0 q)) (syn k W 0 j) = 0#8 := h0
          rw [h0', GfM.mul_zero]
        · rw [syn_data W _ hql]
          have e2 : (W q j ^^^ GfM.mul (GfM.inv (cauX k 0 q)) (syn k W 0 j)) ^^^ W q j = GfM.mul (GfM.inv (cauX k 0 q)) (syn k W 0 j) := by
            rw [BitVec.xor_comm, ← BitVec.xor_assoc, BitVec.xor_self, BitVec.zero_xor]
          rw [e2, hex i hi j hj, BitVec.xor_self]
      · cases e
    · split at h
      · rename_i h1
        rw [mxS_length] at h1 h
        obtain ⟨z, hz⟩ : ∃ z, wrongL (mxS m p (syn k W)) m = [z] := List.length_eq_one_iff.1 h1
        have hzm : z ∈ wrongL (mxS m p (syn k W)) m := by rw [hz]; simp
        obtain ⟨r, rfl, hr, j0, hj0, hne0⟩ := (wrong_mx (syn k W) hp).1 hzm
        rw [hz] at h
        have e1 : ([(r : Int)] : List Int).getD 0 0 = (r : Int) := rfl
        rw [e1, Int.toNat_natCast, txtS (syn k W) hr] at h
        have hxe : x = (((k + r : Nat) : Int), strX p (syn k W r)) := by
          have := List.mem_singleton.1 h
          rw [this]
          simp
        refine ⟨k + r, syn k W r, by omega, hxe, ⟨j0, hj0, hne0⟩, fun i hi j hj => ?_⟩
        rw [syn_par]
        by_cases ei : i = r
        · subst ei
          rw [if_pos rfl]
          have e2 : (W (k + i) j ^^^ syn k W i j) ^^^ W (k + i) j = syn k W i j := by
            rw [BitVec.xor_comm, ← BitVec.xor_assoc, BitVec.xor_self, BitVec.zero_xor]
          rw [e2, BitVec.xor_self]
        · rw [if_neg ei]
          apply Classical.byContradiction
          intro hne
          have := (wrong_mx (syn k W) hp).2 ⟨i, rfl, hi, j, hj, hne⟩
          rw [hz] at this
          have := List.mem_singleton.1 this
          omega
      · cases h
  obtain ⟨a, E, ha, hxe, ⟨j0, hj0, hE0⟩, hs0⟩ := main
  rw [hxe] at hfr
  obtain ⟨g1, g2⟩ := fix_val hl hw hfr
  refine ⟨a, fun j => W a j ^^^ E j, ha, ⟨j0, hj0, fun h => hE0 ?_⟩, hs0, g1, ?_⟩
  · have h2 := congrArg (fun z => W a j0 ^^^ z) h
    have h3 : W a j0 ^^^ (W a j0 ^^^ E j0) = E j0 := by rw [← BitVec.xor_assoc, BitVec.xor_self, BitVec.zero_xor]
    have h4 : W a j0 ^^^ W a j0 = 0#8 := BitVec.xor_self
    exact h3.symm.trans (h2.trans h4)
  · rw [g2, txtS W ha, putX_str _ _ hp, mxS_set W _ ha]
/-! ### locate's document: which place alone explains the pieces -/
theorem xor_zero8 {a b : GfM.F} (h : a ^^^ b = 0#8) : a = b := by
  have h3 := congrArg (fun z => z ^^^ b) h
  simpa [BitVec.xor_assoc] using h3
theorem syn_congr {k m p : Nat} {A B : GfM.Mx} (h : ∀ i, i < k + m → ∀ j, j < p → A i j = B i j) : ∀ i, i < m → ∀ j, j < p → syn k A i j = syn k B i j := by
  intro i hi j hj
  unfold syn
  rw [h (k + i) (by omega) j hj, GfM.mm_congr (A' := cauX k) (B' := B) (fun _ _ => rfl) (fun q hq => h q (by omega) j hj)]
/-- A code word is what all rows make of its data. -/
theorem code_all {k m p : Nat} {U : GfM.Mx} (h : ∀ i, i < m → ∀ j, j < p → syn k U i j = 0#8) : ∀ i, i < k + m → ∀ j, j < p → GfM.mm k (allX k) U i j = U i j := by
  intro i hi j hj
  by_cases hik : i < k
  · have e2 : GfM.mm k (allX k) U i j = GfM.mm k GfM.idm U i j := GfM.mm_congr (fun q _ => by unfold allX; rw [if_pos hik]) (fun _ _ => rfl)
    rw [e2, GfM.mm_id_left hik]
  · obtain ⟨r, rfl⟩ : ∃ r, i = k + r := ⟨i - k, by omega⟩
    have h1 := h r (by omega) j hj
    unfold syn at h1
    rw [← xor_zero8 h1]
    unfold GfM.mm
    exact GfM.sumN_congr fun q _ => by unfold allX; rw [if_neg (by omega), Nat.add_sub_cancel_left]
/-- A place alone explains the pieces. -/
def Alone (k m p : Nat) (W : GfM.Mx) (a : Nat) : Prop := ∃ o : Nat → GfM.F, ∀ i, i < m → ∀ j, j < p → syn k (setRow W a o) i j = 0#8
theorem alone_data {k m p : Nat} (W : GfM.Mx) (hm : 1 ≤ m) (hkm : k + m ≤ 255) {q : Nat} (hq : q < k) : Alone k m p W q ↔ expl k m p (syn k W) q := by
  have c0 := cauX_ne (k := k) (m := m) (i := 0) (j := q) (by omega) hq hkm
  constructor
  · rintro ⟨o, ho⟩ i hi j hj
    have h0 := ho 0 (by omega) j hj
    have h1 := ho i hi j hj
    rw [syn_data W o hq] at h0 h1
    rw [xor_zero8 h0, xor_zero8 h1]
    congr 1
    rw [← GfM.mul_assoc, GfM.mul_comm (GfM.inv _), GfM.mul_inv _ c0, GfM.one_mul]
  · intro hex
    refine ⟨fun j => W q j ^^^ GfM.mul (GfM.inv (cauX k 0 q)) (syn k W 0 j), fun i hi j hj => ?_⟩
    rw [syn_data W _ hq]
    have e2 : (W q j ^^^ GfM.mul (GfM.inv (cauX k 0 q)) (syn k W 0 j)) ^^^ W q j = GfM.mul (GfM.inv (cauX k 0 q)) (syn k W 0 j) := by
      rw [BitVec.xor_comm, ← BitVec.xor_assoc, BitVec.xor_self, BitVec.zero_xor]
    rw [e2, hex i hi j hj, BitVec.xor_self]
theorem alone_par {k m p : Nat} (W : GfM.Mx) {r : Nat} : Alone k m p W (k + r) ↔ ∀ i, i < m → i ≠ r → ∀ j, j < p → syn k W i j = 0#8 := by
  constructor
  · rintro ⟨o, ho⟩ i hi hir j hj
    have h1 := ho i hi j hj
    rw [syn_par, if_neg hir] at h1
    exact h1
  · intro h
    refine ⟨fun j => W (k + r) j ^^^ syn k W r j, fun i hi j hj => ?_⟩
    rw [syn_par]
    by_cases ei : i = r
    · subst ei
      rw [if_pos rfl]
      have e2 : (W (k + i) j ^^^ syn k W i j) ^^^ W (k + i) j = syn k W i j := by
        rw [BitVec.xor_comm, ← BitVec.xor_assoc, BitVec.xor_self, BitVec.zero_xor]
      rw [e2, BitVec.xor_self]
    · rw [if_neg ei]; exact h i hi ei j hj
open Classical in
/-- The places as far as n of which something holds. -/
noncomputable def plc (P : Nat → Prop) (n : Nat) : List Nat := (List.range n).filter fun a => decide (P a)
theorem plc_yes {P : Nat → Prop} {n : Nat} (h : P n) : plc P (n + 1) = plc P n ++ [n] := by
  unfold plc
  rw [List.range_succ, List.filter_append]
  simp [h]
theorem plc_no {P : Nat → Prop} {n : Nat} (h : ¬ P n) : plc P (n + 1) = plc P n := by
  unfold plc
  rw [List.range_succ, List.filter_append]
  simp [h]
theorem plc_mem {P : Nat → Prop} {n a : Nat} : a ∈ plc P n ↔ a < n ∧ P a := by
  unfold plc
  simp
theorem plc_len (P : Nat → Prop) (n : Nat) : (plc P n).length ≤ n := by
  unfold plc
  have := List.length_filter_le (fun a => @decide (P a) (Classical.propDecidable _)) (List.range n)
  rw [List.length_range] at this
  exact this
theorem plc_stay {P : Nat → Prop} {i : Nat} : ∀ d, (∀ a, i ≤ a → a < i + d → ¬ P a) → plc P (i + d) = plc P i := by
  intro d
  induction d with
  | zero => intro _; rfl
  | succ d ih =>
    intro h
    rw [← Nat.add_assoc, plc_no (h (i + d) (by omega) (by omega)), ih (fun a h1 h2 => h a h1 (by omega))]
/-- As many places explain the pieces as the code has. -/
theorem plc_may {k m p : Nat} (W : GfM.Mx) (hm : 1 ≤ m) (hkm : k + m ≤ 255) (hp : p ≤ 65536) (hnz : ¬ ∀ i, i < m → ∀ j, j < p → syn k W i j = 0#8) : (plc (Alone k m p W) (k + m)).length = (mayL k m (mxS m p (syn k W))).length := by
  have hF : ∀ n, n ≤ k → (plc (Alone k m p W) n).length = (mayF k m (mxS m p (syn k W)) n).length := by
    intro n
    induction n with
    | zero => intro _; rfl
    | succ n ih =>
      intro hn
      have h1 := ih (by omega)
      by_cases c : Alone k m p W n
      · rw [plc_yes c, mayF_yes ((fits_mx (syn k W) hm (by omega)).2 ((alone_data W hm hkm (by omega)).1 c)), List.length_append, List.length_append, h1]
        rfl
      · rw [plc_no c, mayF_no (fun hf => c ((alone_data W hm hkm (by omega)).2 ((fits_mx (syn k W) hm (by omega)).1 hf))), h1]
  have hk := hF k (Nat.le_refl _)
  unfold mayL
  rw [List.length_append, ← hk, mxS_length]
  by_cases h1 : (wrongL (mxS m p (syn k W)) m).length = 1
  · rw [if_pos h1]
    obtain ⟨z, hz⟩ := List.length_eq_one_iff.1 h1
    have hzm : z ∈ wrongL (mxS m p (syn k W)) m := by rw [hz]; simp
    obtain ⟨r0, rfl, hr0, j0, hj0, hne0⟩ := (wrong_mx (syn k W) hp).1 hzm
    have hP : ∀ r, r < m → (Alone k m p W (k + r) ↔ r = r0) := by
      intro r hr
      rw [alone_par]
      constructor
      · intro h
        apply Classical.byContradiction
        intro hne
        exact hne0 (h r0 hr0 (fun e => hne e.symm) j0 hj0)
      · intro e i hi hir j hj
        apply Classical.byContradiction
        intro hne
        have := (wrong_mx (syn k W) hp).2 ⟨i, rfl, hi, j, hj, hne⟩
        rw [hz] at this
        have := List.mem_singleton.1 this
        omega
    have e1 := plc_stay (P := Alone k m p W) (i := k) r0 (fun a h1 h2 hA => by
      obtain ⟨r, rfl⟩ : ∃ r, a = k + r := ⟨a - k, by omega⟩
      have := (hP r (by omega)).1 hA
      omega)
    have e2 := plc_yes (P := Alone k m p W) (n := k + r0) ((hP r0 hr0).2 rfl)
    have e3 := plc_stay (P := Alone k m p W) (i := k + r0 + 1) (m - r0 - 1) (fun a h1 h2 hA => by
      obtain ⟨r, rfl⟩ : ∃ r, a = k + r := ⟨a - k, by omega⟩
      have := (hP r (by omega)).1 hA
      omega)
    rw [show k + r0 + 1 + (m - r0 - 1) = k + m from by omega] at e3
    rw [e3, e2, e1, List.length_append]
    rfl
  · rw [if_neg h1]
    rw [plc_stay (P := Alone k m p W) (i := k) m (fun a h1' h2 hA => by
      obtain ⟨r, rfl⟩ : ∃ r, a = k + r := ⟨a - k, by omega⟩
      have hz := alone_par W |>.1 hA
      have hnz2 : ∃ j, j < p ∧ syn k W r j ≠ 0#8 := by
        apply Classical.byContradiction
        intro hn
        refine hnz (fun i hi j hj => ?_)
        by_cases e : i = r
        · subst e
          exact Classical.byContradiction fun hne => hn ⟨j, hj, hne⟩
        · exact hz i hi e j hj
      exact h1 (by rw [wrong_one hp (by omega : r < m) hz hnz2]; rfl))]
    rfl
/-- All pieces, of which one is told not to be there. -/
def butL (a p : Nat) (W : GfM.Mx) (n : Nat) : List S74 := (List.range n).map fun (i : Nat) => ⟨((i : Int) != (a : Int)), strX p (W i)⟩
theorem butL_length (a p : Nat) (W : GfM.Mx) (n : Nat) : (butL a p W n).length = n := by simp [butL]
theorem butL_succ (a p : Nat) (W : GfM.Mx) (n : Nat) : butL a p W (n + 1) = butL a p W n ++ [⟨((n : Int) != (a : Int)), strX p (W n)⟩] := by simp [butL, List.range_succ]
theorem butL_get (a p : Nat) (W : GfM.Mx) {n i : Nat} (hi : i < n) : (butL a p W n).getD i z74 = ⟨((i : Int) != (a : Int)), strX p (W i)⟩ := by
  unfold butL
  rw [List.getD_eq_getElem?_getD, List.getElem?_map, List.getElem?_range hi]
  rfl
theorem thereL_len (t : Nat → Bool) (a : Nat) (h : ∀ i, i ≠ a → t i = true) : ∀ n, n ≤ (thereL t n).length + 1 := by
  have key : ∀ n, n ≤ (thereL t n).length + (if a < n then 1 else 0) := by
    intro n
    induction n with
    | zero => exact Nat.zero_le _
    | succ n ih =>
      rw [thereL_succ]
      by_cases e : n = a
      · subst e
        have h0 : (if n < n then 1 else 0) = 0 := if_neg (by omega)
        have h1 : (if n < n + 1 then 1 else 0) = 1 := if_pos (by omega)
        rw [h0] at ih
        rw [h1, List.length_append]
        omega
      · have h1 : (if a < n + 1 then 1 else 0) = (if a < n then 1 else 0) := by
          have e2 : (a < n + 1) = (a < n) := by apply propext; omega
          simp only [e2]
        rw [if_pos (h n e), List.length_append, h1]
        have h2 : [n].length = 1 := rfl
        omega
  intro n
  have := key n
  split at this <;> omega
theorem haveD_congr {t t' : Nat → Bool} {d d' : Nat → ByteArray} {n : Nat} (ht : ∀ i, i < n → t i = t' i) (hd : ∀ i, i < n → d i = d' i) : haveD t d n = haveD t' d' n ∧ placeL t n = placeL t' n := by
  have e : thereL t n = thereL t' n := List.filter_congr fun x hx => ht x (List.mem_range.1 hx)
  unfold haveD placeL
  rw [e]
  exact ⟨List.map_congr_left fun r hr => hd r (thereL_lt hr), rfl⟩
theorem dec_but {k m p a : Nat} (W : GfM.Mx) (k1 : 1 ≤ k) (k16 : k ≤ 16) (m1 : 1 ≤ m) (m16 : m ≤ 16) (hp : p ≤ 65536) (ha : a < k + m) {F : Nat} (hF : 7000000000 ≤ F) :
    ∃ V : GfM.Mx, caulkref04_Decode.f F (k : Int) (m : Int) (butL a p W (k + m)) = some (mxS (k + m) p V, 0) ∧ (∀ i, i < m → ∀ j, syn k V i j = 0#8) ∧ ∀ U : GfM.Mx, (∀ i, i < m → ∀ j, j < p → syn k U i j = 0#8) → (∀ i, i < k + m → i ≠ a → ∀ j, j < p → U i j = W i j) → ∀ i, i < k + m → ∀ j, j < p → V i j = U i j := by
  obtain ⟨t, ht⟩ : ∃ t : Nat → Bool, t = fun (i : Nat) => ((i : Int) != (a : Int)) := ⟨_, rfl⟩
  have htt : ∀ i, i ≠ a → t i = true := fun i hi => by rw [ht]; exact bne_iff_ne.mpr (by omega)
  have htf : ∀ i, t i = true → i ≠ a := fun i hi => by rw [ht] at hi; have := bne_iff_ne.mp hi; omega
  have hR : k ≤ (thereL t (k + m)).length := by have := thereL_len t a htt (k + m); omega
  have hle := thereL_le t (k + m)
  have hlen := butL_length a p W (k + m)
  have hcg := haveD_congr (t := thr (butL a p W (k + m))) (t' := t) (d := dat (butL a p W (k + m))) (d' := fun r => strX p (W r)) (n := k + m) (fun i hi => by unfold thr; rw [butL_get a p W hi, ht]) (fun i hi => by unfold dat; rw [butL_get a p W hi])
  have hH : haveD t (fun r => strX p (W r)) (k + m) = haveL t p W (k + m) := rfl
  obtain ⟨hrl, hmem, hnd, hget⟩ := rows_of t hR
  obtain ⟨X, hX⟩ := any_inv k1 (by omega : k + m ≤ 255) hrl hnd hmem
  obtain ⟨D, hD⟩ : ∃ D, D = GfM.mm k X (fun i => W ((thereL t (k + m)).getD i 0)) := ⟨_, rfl⟩
  refine ⟨GfM.mm k (allX k) D, ?_, fun i hi j => codeW_syn (m := m) D i j hi, ?_⟩
  · unfold caulkref04_Decode.f
    rw [ref4check (k : Int) (m : Int) (by omega) (by omega) (by omega) (by omega), rscheck, if_pos (by omega)]
    simp only [Option.bind_some, if_true]
    have hd := ref4dec_l0 (k : Int) (m : Int) (butL a p W (k + m)) (butL a p W (k + m)) (by omega) (F - (butL a p W (k + m)).length - 1) (butL a p W (k + m)).length 0 (by omega)
    rw [show F - (butL a p W (k + m)).length - 1 + (butL a p W (k + m)).length + 1 = F from by omega] at hd
    rw [show caulkref04_Decode.l0 F (k : Int) (m : Int) (butL a p W (k + m)) ([] : List ByteArray) ([] : List Int) (butL a p W (k + m)) ((butL a p W (k + m)).length : Int) 0 = _ from hd]
    clear hd
    obtain ⟨G, hG⟩ : ∃ G, F - (butL a p W (k + m)).length - 1 = G + 2 := ⟨F - (butL a p W (k + m)).length - 3, by omega⟩
    have hG6 : 6000000100 ≤ G := by omega
    rw [hG, hlen, hcg.1, hcg.2, hH]
    clear hG hF hcg hlen
    have hwk : wrap64 ((k : Int) + (m : Int)) = ((k + m : Nat) : Int) := by unfold wrap64; omega
    have hfit : Fits (haveL t p W (k + m)) := by
      have hne : 0 < (haveL t p W (k + m)).length := by rw [haveL_length]; omega
      have hall : ∀ s ∈ haveL t p W (k + m), s.size = p := fun s hs => by
        obtain ⟨r, _, rfl⟩ := List.mem_map.1 hs
        rw [strX_size]
      have h0 : ((haveL t p W (k + m)).getD 0 ByteArray.empty).size = p := hall _ (by rw [List.getD_eq_getElem?_getD, List.getElem?_eq_getElem hne]; exact List.getElem_mem hne)
      intro s hs
      rw [h0, hall s hs]
      exact ⟨rfl, hp⟩
    rw [hwk, if_pos rfl, ref4fits (by rw [haveL_length]; omega) (by rw [haveL_length]; omega), decide_eq_true hfit]
    simp only [Option.bind_some]
    rw [ref4dec_j1]
    simp only [Bool.not_true, Bool.false_eq_true, if_false]
    rw [if_neg (by rw [haveL_length]; omega), refunit _ (by omega), unitf k k1 (by omega)]
    simp only [Option.bind_some]
    have hj2 : caulkref04_Decode.j2 (G + 1) (k : Int) (m : Int) (haveL t p W (k + m)) (placeL t (k + m)) (mxL (k + m) k (allX k)) = some (mxS k p (GfM.mm k X (fun i => W ((thereL t (k + m)).getD i 0))) ++ mxS m p (GfM.mm k (cauX k) (GfM.mm k X (fun i => W ((thereL t (k + m)).getD i 0)))), 0) := by
      rw [ref4dec_j2, if_pos (by omega), placeL_length, if_pos (by omega), Int.toNat_natCast, refrows (mxL_bytes _ _ _) _ (by omega), rowsf (allX k) (by omega) (by omega) k1 (by omega) _ (by omega) (by omega) hmem]
      simp only [Option.bind_some, hrl]
      rw [refinvert_small _ k1 k16, invf_some k1 (by omega) hX]
      simp only [Option.bind_some]
      rw [haveL_length, if_pos (by omega), have_take t p W hR, ref4times X _ (by omega) (by omega) k1 hp (by omega)]
      simp only [Option.bind_some]
      rw [ref4encode (by rw [mxS_length]; omega) (by omega) (by omega) (by omega) (by omega) (by omega) (by omega) (by omega) (by rw [mxS_length]; omega) 100000 (by omega) (by rw [mxS_length]; omega), rsencode_ok _ k1 (by omega) hp (by omega)]
      simp only [Option.bind_some, mxS_length]
      rw [if_pos (by omega)]
    rw [if_pos (by omega), refcau _ _ (by omega) (by omega) (by omega), cauf k m k1 (by omega) (by omega)]
    simp only [Option.bind_some]
    rw [if_pos (by rw [mxL_length, mxL_length]; omega), all_mxL, hj2, ← hD, all_mxS]
  · intro U hU hUW i hi j hj
    have hc := code_all hU
    have hl := GfM.inv_left hX
    have hDU : ∀ q, q < k → D q j = U q j := by
      intro q hq
      rw [hD]
      have e1 : GfM.mm k X (fun i => W ((thereL t (k + m)).getD i 0)) q j = GfM.mm k X (GfM.mm k (fun i c => allX k (((placeL t (k + m)).take k).getD i 0).toNat c) U) q j := by
        refine GfM.mm_congr (fun _ _ => rfl) (fun s hs => ?_)
        have hmemR : (thereL t (k + m)).getD s 0 ∈ thereL t (k + m) := by
          rw [List.getD_eq_getElem?_getD, List.getElem?_eq_getElem (show s < (thereL t (k + m)).length by omega)]
          exact List.getElem_mem _
        have hlt := thereL_lt hmemR
        have hna := htf _ (List.mem_filter.1 hmemR).2
        rw [← hUW _ hlt hna j hj, ← hc _ hlt j hj]
        unfold GfM.mm
        exact GfM.sumN_congr fun c _ => by
          show _ = GfM.mul (allX k (((placeL t (k + m)).take k).getD s 0).toNat c) (U c j)
          rw [hget s hs]
      rw [e1, ← GfM.mm_assoc]
      rw [GfM.mm_congr (A' := GfM.idm) (B' := U) (fun c hc' => hl q hq c hc') (fun _ _ => rfl), GfM.mm_id_left hq]
    rw [← hc i hi j hj]
    exact GfM.mm_congr (fun _ _ => rfl) hDU
theorem without_l1 {n p : Nat} (a : Nat) (V W : GfM.Mx) (hn : n ≤ 255) : ∀ (d i K : Nat), i + d = n → d < K →
    ((∀ r, i ≤ r → r < n → r ≠ a → strX p (V r) = strX p (W r)) → caulkref34_without.l1 K (a : Int) (mxS n p V) (mxS n p W) (n : Int) (i : Int) = some (mxS n p V, true)) ∧ ((¬ ∀ r, i ≤ r → r < n → r ≠ a → strX p (V r) = strX p (W r)) → caulkref34_without.l1 K (a : Int) (mxS n p V) (mxS n p W) (n : Int) (i : Int) = some ([], false)) := by
  intro d
  induction d with
  | zero =>
    intro i K hi hK
    obtain ⟨K, rfl⟩ : ∃ q, K = q + 1 := ⟨K - 1, by omega⟩
    refine ⟨fun _ => ?_, fun h => absurd (fun r h1 h2 _ => absurd h2 (by omega)) h⟩
    rw [caulkref34_without.l1, if_neg (by omega)]
  | succ d ih =>
    intro i K hi hK
    obtain ⟨K, rfl⟩ : ∃ q, K = q + 1 := ⟨K - 1, by omega⟩
    have hw : wrap64 ((i : Int) + 1) = ((i + 1 : Nat) : Int) := by unfold wrap64; omega
    obtain ⟨ih1, ih2⟩ := ih (i + 1) K (by omega) (by omega)
    rw [caulkref34_without.l1, if_pos (by omega), if_pos (by omega), if_pos (by rw [mxS_length]; omega), hw]
    by_cases e : i = a
    · rw [if_pos (by omega)]
      refine ⟨fun h => ih1 (fun r h1 h2 h3 => h r (by omega) h2 h3), fun h => ih2 (fun h' => h (fun r h1 h2 h3 => h' r (by omega) h2 h3))⟩
    · rw [if_neg (by omega), if_pos (by rw [mxS_length]; omega), rdS V (by omega), rdS W (by omega)]
      by_cases c : strX p (V i) = strX p (W i)
      · rw [if_pos (by rw [c])]
        refine ⟨fun h => ih1 (fun r h1 h2 h3 => h r (by omega) h2 h3), fun h => ih2 (fun h' => h (fun r h1 h2 h3 => ?_))⟩
        by_cases er : r = i
        · rw [er]; exact c
        · exact h' r (by omega) h2 h3
      · rw [if_neg (fun h => c (toList_inj h))]
        exact ⟨fun h => absurd (h i (Nat.le_refl _) (by omega) e) c, fun _ => rfl⟩
theorem without_l0 {n p : Nat} (x0 x1 : Int) (a : Nat) (W : GfM.Mx) (hn : n ≤ 255) (K : Nat) : ∀ (d i : Nat), i + d = n →
    caulkref34_without.l0 (K + d + 1) x0 x1 (a : Int) (mxS n p W) (butL a p W i) (mxS n p W) (n : Int) (i : Int) = ((caulkref04_Decode.f K x0 x1 (butL a p W n)).bind fun bt357 => (if bt357.2 = 0 then (caulkref34_without.l1 K (a : Int) bt357.1 (mxS n p W) ((mxS n p W).length : Int) 0) else (some (([] : List ByteArray), false)))) := by
  intro d
  induction d with
  | zero =>
    intro i hi
    have : i = n := by omega
    subst this
    rw [Nat.add_zero, caulkref34_without.l0, if_neg (by omega)]
  | succ d ih =>
    intro i hi
    have hw : wrap64 ((i : Int) + 1) = ((i + 1 : Nat) : Int) := by unfold wrap64; omega
    have ih' := ih (i + 1) (by omega)
    rw [show K + (d + 1) + 1 = (K + d + 1) + 1 from by omega, caulkref34_without.l0, if_pos (by omega), if_pos (by omega), if_pos (by rw [mxS_length]; omega), if_pos (by rw [butL_length]; omega), hw, rdS W (by omega), ← butL_succ]
    exact ih'
theorem without_yes {k m p a : Nat} (W : GfM.Mx) (k1 : 1 ≤ k) (k16 : k ≤ 16) (m1 : 1 ≤ m) (m16 : m ≤ 16) (hp : p ≤ 65536) (ha : a < k + m) {F : Nat} (hF : 7000001000 ≤ F) :
    (∀ o : Nat → GfM.F, (∀ i, i < m → ∀ j, j < p → syn k (setRow W a o) i j = 0#8) → caulkref34_without.f F (k : Int) (m : Int) (a : Int) (mxS (k + m) p W) = some (mxS (k + m) p (setRow W a o), true)) ∧ (¬ Alone k m p W a → caulkref34_without.f F (k : Int) (m : Int) (a : Int) (mxS (k + m) p W) = some ([], false)) := by
  obtain ⟨G, rfl⟩ : ∃ G, F = G + (k + m) + 1 := ⟨F - (k + m) - 1, by omega⟩
  obtain ⟨V, hV, hs, hu⟩ := dec_but W k1 k16 m1 m16 hp ha (F := G) (by omega)
  have hl0 := without_l0 (n := k + m) (p := p) (k : Int) (m : Int) a W (by omega) G (k + m) 0 (by omega)
  obtain ⟨h1, h2⟩ := without_l1 (n := k + m) (p := p) a V W (by omega) (k + m) 0 G (by omega) (by omega)
  have hf : caulkref34_without.f (G + (k + m) + 1) (k : Int) (m : Int) (a : Int) (mxS (k + m) p W) = caulkref34_without.l1 G (a : Int) (mxS (k + m) p V) (mxS (k + m) p W) ((k + m : Nat) : Int) 0 := by
    unfold caulkref34_without.f
    have hb0 : butL a p W 0 = [] := rfl
    rw [hb0] at hl0
    rw [mxS_length]
    refine Eq.trans hl0 ?_
    rw [hV]
    simp only [Option.bind_some, if_true]
    rw [mxS_length]
  rw [hf]
  constructor
  · intro o ho
    have hVU : ∀ i, i < k + m → ∀ j, j < p → V i j = setRow W a o i j := hu (setRow W a o) ho (fun i hi hia j hj => by unfold setRow; rw [if_neg hia])
    have e := mxS_congr hVU
    refine (h1 (fun r _ hr hra => strX_congr fun j hj => ?_)).trans (by rw [e])
    rw [hVU r hr j hj]
    unfold setRow
    rw [if_neg hra]
  · intro hA
    refine h2 (fun h => hA ⟨V a, fun i hi j hj => ?_⟩)
    have hcg : ∀ i, i < k + m → ∀ j, j < p → setRow W a (V a) i j = V i j := by
      intro i hi j hj
      unfold setRow
      by_cases e : i = a
      · subst e; rw [if_pos rfl]
      · rw [if_neg e]
        exact (strX_inj.1 (h i (Nat.zero_le _) hi e) j hj).symm
    rw [syn_congr hcg i hi j hj]
    exact hs i hi j
/-- What the document's Find counts. -/
theorem find_l0 {k m p : Nat} (W : GfM.Mx) (k1 : 1 ≤ k) (k16 : k ≤ 16) (m1 : 1 ≤ m) (m16 : m ≤ 16) (hp : p ≤ 65536) : ∀ (d i K : Nat) (x : Int), i + d = k + m → 7000002000 + d ≤ K → (∀ a, plc (Alone k m p W) i = [a] → x = (a : Int)) →
    (∀ a, plc (Alone k m p W) (k + m) = [a] → caulkref34_Find.l0 K (k : Int) (m : Int) (mxS (k + m) p W) x ((plc (Alone k m p W) i).length : Int) ((k + m : Nat) : Int) (i : Int) = some ((a : Int), 0)) ∧ ((plc (Alone k m p W) (k + m)).length ≠ 1 → caulkref34_Find.l0 K (k : Int) (m : Int) (mxS (k + m) p W) x ((plc (Alone k m p W) i).length : Int) ((k + m : Nat) : Int) (i : Int) = some (0, 10)) := by
  intro d
  induction d with
  | zero =>
    intro i K x hi hK hx
    obtain ⟨K, rfl⟩ : ∃ q, K = q + 1 := ⟨K - 1, by omega⟩
    have hi' : i = k + m := by omega
    subst hi'
    rw [caulkref34_Find.l0, if_neg (by omega)]
    constructor
    · intro a ha
      rw [ha, hx a ha, if_pos (by rfl)]
    · intro h
      rw [if_neg (by omega)]
  | succ d ih =>
    intro i K x hi hK hx
    obtain ⟨K, rfl⟩ : ∃ q, K = q + 1 := ⟨K - 1, by omega⟩
    have hw : wrap64 ((i : Int) + 1) = ((i + 1 : Nat) : Int) := by unfold wrap64; omega
    have hpl := plc_len (Alone k m p W) i
    have hw2 : wrap64 (((plc (Alone k m p W) i).length : Int) + 1) = (((plc (Alone k m p W) i).length + 1 : Nat) : Int) := by unfold wrap64; omega
    obtain ⟨w1, w2⟩ := without_yes W k1 k16 m1 m16 hp (by omega : i < k + m) (F := K) (by omega)
    rw [caulkref34_Find.l0, if_pos (by omega)]
    by_cases c : Alone k m p W i
    · obtain ⟨o, ho⟩ := c
      rw [w1 o ho]
      simp only [Option.bind_some, if_true]
      rw [hw, hw2]
      have e := plc_yes (P := Alone k m p W) (n := i) ⟨o, ho⟩
      have e2 : (plc (Alone k m p W) i).length + 1 = (plc (Alone k m p W) (i + 1)).length := by rw [e, List.length_append]; rfl
      rw [e2]
      refine ih (i + 1) K (i : Int) (by omega) (by omega) (fun a ha => ?_)
      rw [e] at ha
      have hm : i ∈ plc (Alone k m p W) i ++ [i] := by simp
      rw [ha] at hm
      rw [List.mem_singleton.1 hm]
    · rw [w2 c]
      simp only [Option.bind_some]
      rw [if_neg (by decide), hw]
      have e := plc_no (P := Alone k m p W) (n := i) c
      rw [← e]
      exact ih (i + 1) K x (by omega) (by omega) (fun a ha => hx a (by rw [← e]; exact ha))
/-! ### the document's Wrong -/
theorem refwrong_uneven (a0 a1 : Int) (l : List ByteArray) (hl : l.length ≤ 1000) (hs : ∀ s ∈ l, s.size ≤ 65536) (hu : Uneven l) : ∀ (d i K : Nat), i + d = l.length → d < K → (∀ j, j < i → (txt l j).size = (txt l 0).size) → caulkref34_Wrong.l0 K a0 a1 l l (l.length : Int) (i : Int) = some ([], 2) := by
  intro d
  induction d with
  | zero =>
    intro i K hi hK hj
    obtain ⟨q, hq, hne⟩ := hu
    exact absurd (hj q (by omega)) hne
  | succ d ih =>
    intro i K hi hK hj
    obtain ⟨K, rfl⟩ : ∃ q, K = q + 1 := ⟨K - 1, by omega⟩
    have hw : wrap64 ((i : Int) + 1) = ((i + 1 : Nat) : Int) := by unfold wrap64; omega
    have h2 : (txt l i).size ≤ 65536 := by rw [txt_get l (by omega : i < l.length)]; exact hs _ (List.getElem_mem _)
    have e0 : rdOf ByteArray.empty l 0 = txt l 0 := rdOf_txt l 0
    rw [caulkref34_Wrong.l0, if_pos (by omega), if_pos (by omega), if_pos (by omega), if_pos (by omega), rdOf_txt, e0, hw]
    by_cases c : (txt l i).size = (txt l 0).size
    · rw [if_pos (by omega), if_neg (by omega)]
      refine ih (i + 1) K (by omega) (by omega) (fun j hj' => ?_)
      by_cases e : j = i
      · rw [e]; exact c
      · exact hj j (by omega)
    · rw [if_neg (by omega)]
theorem refwrong_even (a0 a1 : Int) (l : List ByteArray) (hl : l.length ≤ 1000) (hs : ∀ s ∈ l, s.size ≤ 65536) (hu : ¬ Uneven l) (K : Nat) : ∀ (d i : Nat), i + d = l.length → caulkref34_Wrong.l0 (K + d + 1) a0 a1 l l (l.length : Int) (i : Int) = (if 0 ≤ a0 then (if a0 ≤ (l.length : Int) then ((caulkref04_Encode.f K a0 a1 (l.take (a0 : Int).toNat)).bind fun bt249 => (caulkref34_Wrong.l1 K a0 l ([] : List Int) bt249.1 (bt249.1.length : Int) 0)) else (none)) else (none)) := by
  intro d
  induction d with
  | zero =>
    intro i hi
    rw [Nat.add_zero, caulkref34_Wrong.l0, if_neg (by omega)]
  | succ d ih =>
    intro i hi
    have hw : wrap64 ((i : Int) + 1) = ((i + 1 : Nat) : Int) := by unfold wrap64; omega
    have h2 : (txt l i).size ≤ 65536 := by rw [txt_get l (by omega : i < l.length)]; exact hs _ (List.getElem_mem _)
    have e0 : rdOf ByteArray.empty l 0 = txt l 0 := rdOf_txt l 0
    have c : (txt l i).size = (txt l 0).size := Classical.byContradiction fun e => hu ⟨i, by omega, e⟩
    rw [show K + (d + 1) + 1 = (K + d + 1) + 1 from by omega, caulkref34_Wrong.l0, if_pos (by omega), if_pos (by omega), if_pos (by omega), if_pos (by omega), rdOf_txt, e0, hw, if_pos (by omega), if_neg (by omega)]
    exact ih (i + 1) (by omega)
theorem refwrong_l1 {k m p : Nat} (W : GfM.Mx) (hkm : k + m ≤ 255) (hp : p ≤ 65536) : ∀ (d i K : Nat), i + d = m → d < K → caulkref34_Wrong.l1 K (k : Int) (mxS (k + m) p W) (wrongL (mxS m p (syn k W)) i) (mxS m p (GfM.mm k (cauX k) W)) (m : Int) (i : Int) = some (wrongL (mxS m p (syn k W)) m, 0) := by
  intro d
  induction d with
  | zero =>
    intro i K hi hK
    obtain ⟨K, rfl⟩ : ∃ q, K = q + 1 := ⟨K - 1, by omega⟩
    have : i = m := by omega
    subst this
    rw [caulkref34_Wrong.l1, if_neg (by omega)]
  | succ d ih =>
    intro i K hi hK
    obtain ⟨K, rfl⟩ : ∃ q, K = q + 1 := ⟨K - 1, by omega⟩
    have hw : wrap64 ((i : Int) + 1) = ((i + 1 : Nat) : Int) := by unfold wrap64; omega
    have hw2 : wrap64 ((k : Int) + (i : Int)) = ((k + i : Nat) : Int) := by unfold wrap64; omega
    have hwl : (wrongL (mxS m p (syn k W)) i).length ≤ i := by
      unfold wrongL
      rw [List.length_map]
      have := List.length_filter_le (fun j => !nought (txt (mxS m p (syn k W)) j)) (List.range i)
      rw [List.length_range] at this
      exact this
    have ih' := ih (i + 1) K (by omega) (by omega)
    have hiff : strX p (GfM.mm k (cauX k) W i) = strX p (W (k + i)) ↔ nought (txt (mxS m p (syn k W)) i) = true := by
      rw [txtS (syn k W) (by omega : i < m), nought_str (syn k W i) hp, strX_inj]
      unfold syn
      exact ⟨fun h j hj => by rw [h j hj, BitVec.xor_self], fun h j hj => xor_zero8 (h j hj)⟩
    rw [caulkref34_Wrong.l1, if_pos (by omega), if_pos (by omega), if_pos (by rw [mxS_length]; omega), hw2, if_pos (by omega), if_pos (by rw [mxS_length]; omega), rdS _ (by omega), rdS _ (by omega), hw]
    by_cases c : strX p (GfM.mm k (cauX k) W i) = strX p (W (k + i))
    · rw [if_pos (by rw [c])]
      rw [wrongL_succ, if_pos (hiff.1 c)] at ih'
      exact ih'
    · rw [if_neg (fun h => c (toList_inj h)), if_pos (by omega)]
      rw [wrongL_succ, if_neg (fun h => c (hiff.2 h))] at ih'
      exact ih'
theorem refwrong_bad {a0 a1 : Int} {l : List ByteArray} (w0 : -9223372036854775808 ≤ a0) (w1 : a0 ≤ 9223372036854775807) (w2 : -9223372036854775808 ≤ a1) (w3 : a1 ≤ 9223372036854775807) (hl : l.length ≤ 1000) (hs : ∀ s ∈ l, s.size ≤ 65536) (h0 : lookWhy a0 a1 l ≠ 0) {F : Nat} (hF : 100000 ≤ F) : caulkref34_Wrong.f F a0 a1 l = some ([], lookWhy a0 a1 l) := by
  unfold caulkref34_Wrong.f
  rw [ref4check a0 a1 w0 w1 w2 w3, check_why]
  unfold lookWhy at h0 ⊢
  by_cases c1 : a0 < 1 ∨ a1 < 0 ∨ 255 < a0 + a1
  · rw [if_pos c1, if_pos c1]
    simp only [Option.bind_some]
    rw [if_neg (by decide)]
  · rw [if_neg c1] at h0
    rw [if_neg c1, if_neg c1]
    simp only [Option.bind_some, if_true]
    have hw : wrap64 (a0 + a1) = a0 + a1 := by unfold wrap64; omega
    rw [hw]
    by_cases c2 : (l.length : Int) = a0 + a1
    · have hu : Uneven l := Classical.byContradiction fun hu => h0 (if_neg (fun h => h.elim (fun h => h c2) hu))
      rw [if_pos c2, if_pos (Or.inr hu)]
      exact refwrong_uneven a0 a1 l hl hs hu l.length 0 F (by omega) (by omega) (fun j hj => absurd hj (by omega))
    · rw [if_neg c2, if_pos (Or.inl c2)]
theorem ref4enc_mx {k m p : Nat} (W : GfM.Mx) (k1 : 1 ≤ k) (k16 : k ≤ 16) (m16 : m ≤ 16) (hp : p ≤ 65536) {F : Nat} (hF : 6000000000 ≤ F) : caulkref04_Encode.f F (k : Int) (m : Int) (mxS k p W) = some (mxS m p (GfM.mm k (cauX k) W), 0) := by
  obtain ⟨G, hG⟩ : ∃ G : Nat, G = 100000 := ⟨_, rfl⟩
  rw [ref4encode (by rw [mxS_length]; omega) (by omega) (by omega) (by omega) (by omega) (by omega) (by omega) hF (by rw [mxS_length]; omega) G (by omega) (by rw [mxS_length]; omega)]
  exact rsencode_ok W k1 (by omega) hp (by omega)
theorem mxS_even {n p : Nat} (W : GfM.Mx) (hn : 1 ≤ n) : ¬ Uneven (mxS n p W) := by
  rintro ⟨i, hi, hne⟩
  rw [mxS_length] at hi
  rw [txtS W hi, txtS W (by omega : 0 < n), strX_size, strX_size] at hne
  exact hne rfl
theorem mxS_sizes {n p : Nat} (W : GfM.Mx) (hp : p ≤ 65536) : ∀ s ∈ mxS n p W, s.size ≤ 65536 := by
  intro s hs
  obtain ⟨i, _, rfl⟩ := List.mem_map.1 hs
  rw [strX_size]
  exact hp
theorem refwrong_good {k m p : Nat} (W : GfM.Mx) (k1 : 1 ≤ k) (k16 : k ≤ 16) (m16 : m ≤ 16) (hp : p ≤ 65536) {F : Nat} (hF : 7000000000 ≤ F) : caulkref34_Wrong.f F (k : Int) (m : Int) (mxS (k + m) p W) = some (wrongL (mxS m p (syn k W)) m, 0) := by
  obtain ⟨G, hG⟩ : ∃ G, F = G + (k + m) + 1 := ⟨F - (k + m) - 1, by omega⟩
  have hlen := mxS_length (k + m) p W
  have he := refwrong_even (k : Int) (m : Int) (mxS (k + m) p W) (by omega) (mxS_sizes W hp) (mxS_even W (by omega)) G (k + m) 0 (by omega)
  have hl1 := refwrong_l1 (k := k) (m := m) W (by omega) hp m 0 G (by omega) (by omega)
  have e0 : wrongL (mxS m p (syn k W)) 0 = [] := rfl
  rw [e0] at hl1
  have hw : wrap64 ((k : Int) + (m : Int)) = ((k + m : Nat) : Int) := by unfold wrap64; omega
  have hEnc := ref4enc_mx (m := m) W k1 k16 m16 hp (F := G) (by omega)
  have hc : caulkref04_Check.f (k : Int) (m : Int) = some 0 := by
    rw [ref4check (k : Int) (m : Int) (by omega) (by omega) (by omega) (by omega), rscheck, if_pos (by omega)]
  rw [← hG] at he
  clear hF hG
  unfold caulkref34_Wrong.f
  rw [hc]
  rw [Option.bind_some, if_pos rfl]
  rw [hw, if_pos (by rw [hlen])]
  refine Eq.trans he ?_
  rw [if_pos (by omega), if_pos (by omega), Int.toNat_natCast, mxS_take _ _ _ _ (by omega), hEnc]
  rw [Option.bind_some, mxS_length m]
  exact hl1
/-- The program and the document answer alike. -/
theorem tells_alike (a0 a1 : Int) (l : List ByteArray) (w0 : -9223372036854775808 ≤ a0) (w1 : a0 ≤ 9223372036854775807) (w2 : -9223372036854775808 ≤ a1) (w3 : a1 ≤ 9223372036854775807) (h12 : l.length ≤ 12) (hs : ∀ s ∈ l, s.size ≤ 4096) {F : Nat} (hF : 7000010000 ≤ F) :
    ∃ (A : List Int) (e1 q e2 : Int) (c : List ByteArray) (x e3 : Int), locate_Wrong.f F a0 a1 l = some (A, e1) ∧ caulkref34_Wrong.f F a0 a1 l = some (A, e1) ∧ locate_Find.f F a0 a1 l = some (q, e2) ∧ caulkref34_Find.f F a0 a1 l = some (q, e2) ∧ locate_Fix.f F a0 a1 l = some (c, x, e3) ∧ caulkref34_Fix.f F a0 a1 l = some (c, x, e3) ∧ A.length ≤ 1000 ∧ c.length ≤ 1000 := by
  have hs' : ∀ s ∈ l, s.size ≤ 65536 := fun s h => by have := hs s h; omega
  by_cases h0 : lookWhy a0 a1 l = 0
  · have hw := h0
    unfold lookWhy at hw
    by_cases c1 : a0 < 1 ∨ a1 < 0 ∨ 255 < a0 + a1
    · rw [if_pos c1] at hw; cases hw
    · rw [if_neg c1] at hw
      by_cases c2 : (l.length : Int) ≠ a0 + a1 ∨ Uneven l
      · rw [if_pos c2] at hw; cases hw
      · obtain ⟨k, rfl⟩ : ∃ k : Nat, a0 = k := ⟨a0.toNat, by omega⟩
        obtain ⟨m, rfl⟩ : ∃ m : Nat, a1 = m := ⟨a1.toNat, by omega⟩
        have hlen : l.length = k + m := by
          have : (l.length : Int) = (k : Int) + m := Classical.byContradiction fun e => c2 (.inl e)
          omega
        have hev : ∀ s ∈ l, s.size = (txt l 0).size := by
          intro s hm
          obtain ⟨i, hi, rfl⟩ := List.mem_iff_getElem.1 hm
          apply Classical.byContradiction
          intro hne
          exact c2 (.inr ⟨i, hi, by rw [txt_get l hi]; exact hne⟩)
        have hp : (txt l 0).size ≤ 65536 := hs' (txt l 0) (by rw [txt_get l (by omega : 0 < l.length)]; exact List.getElem_mem _)
        have hl := mxS_toB hev
        rw [hlen] at hl
        obtain ⟨W, hW⟩ : ∃ W, W = toB l := ⟨_, rfl⟩
        obtain ⟨p, hpp⟩ : ∃ p, p = (txt l 0).size := ⟨_, rfl⟩
        rw [← hW, ← hpp] at hl
        rw [← hpp] at hp
        clear hW hpp
        have k1 : 1 ≤ k := by omega
        have hkm : k + m ≤ 255 := by omega
        have k16 : k ≤ 16 := by omega
        have m16 : m ≤ 16 := by omega
        have hrw := refwrong_good W k1 k16 m16 hp (F := F) (by omega)
        rw [hl] at hrw
        have hcode := lookF_mx W k1 hkm hp (K := F) (by omega)
        have hcw : locate_Wrong.f F (k : Int) (m : Int) l = some (wrongL (mxS m p (syn k W)) m, 0) := by
          rw [← hl]
          unfold locate_Wrong.f
          rw [hcode]
          simp only [Option.bind_some]
          rw [if_neg (by simp), mxS_length]
        have hwl : (wrongL (mxS m p (syn k W)) m).length ≤ 1000 := by
          unfold wrongL
          rw [List.length_map]
          have := List.length_filter_le (fun j => !nought (txt (mxS m p (syn k W)) j)) (List.range m)
          rw [List.length_range] at this
          omega
        by_cases hz : ∀ i, i < m → ∀ j, j < p → syn k W i j = 0#8
        · obtain ⟨f1, f2, f3⟩ := fix_none W k1 hkm hp hz (K := F) (by omega)
          rw [hl] at f1 f2 f3
          have hn : wrongL (mxS m p (syn k W)) m = [] := wrong_nil hp hz
          have hrf : caulkref34_Find.f F (k : Int) (m : Int) l = some (-1, 0) := by
            unfold caulkref34_Find.f
            rw [hrw, hn]
            simp only [Option.bind_some, if_true]
            rw [if_pos (by rfl)]
          refine ⟨_, _, _, _, _, _, _, hcw, hrw, f1, hrf, f2, ?_, hwl, by omega⟩
          unfold caulkref34_Fix.f
          rw [hrf]
          simp only [Option.bind_some, if_true, List.nil_append]
          rw [if_pos (by simp; omega), if_neg (by decide)]
        · have hm1 : 1 ≤ m := by
            apply Classical.byContradiction
            intro h
            exact hz (fun i hi => absurd hi (by omega))
          have hwn : (wrongL (mxS m p (syn k W)) (mxS m p (syn k W)).length).length ≠ 0 := fun h => hz (by rw [mxS_length] at h; exact wrong_zero hp h)
          have hwn2 : ¬ ((wrongL (mxS m p (syn k W)) m).length : Int) = 0 := by rw [mxS_length] at hwn; omega
          have hcount := plc_may W hm1 hkm hp hz
          have hfl := find_l0 W k1 k16 hm1 m16 hp (k + m) 0 F 0 (by omega) (by omega) (fun a h => by cases h)
          have hfind : caulkref34_Find.f F (k : Int) (m : Int) l = caulkref34_Find.l0 F (k : Int) (m : Int) (mxS (k + m) p W) 0 0 ((k + m : Nat) : Int) 0 := by
            unfold caulkref34_Find.f
            rw [hrw]
            simp only [Option.bind_some, if_true]
            rw [if_neg hwn2, hlen, hl]
          by_cases hf : (findR k m (mxS m p (syn k W))).2.2 = 0
          · obtain ⟨a, o, ha, hne, hso, g1, g2⟩ := mended W k1 hkm hp (K := F) (by omega) hwn hf
            rw [hl] at g1 g2
            have hc1 : (mayL k m (mxS m p (syn k W))).length = 1 := by
              apply Classical.byContradiction
              intro h
              unfold findR at hf
              rw [if_neg h] at hf
              cases hf
            rw [hc1] at hcount
            obtain ⟨a', ha'⟩ := List.length_eq_one_iff.1 hcount
            have hmem : a ∈ plc (Alone k m p W) (k + m) := plc_mem.2 ⟨ha, o, hso⟩
            rw [ha'] at hmem
            have haa := List.mem_singleton.1 hmem
            rw [← haa] at ha'
            have hrf := hfl.1 a ha'
            have hrf2 : caulkref34_Find.f F (k : Int) (m : Int) l = some ((a : Int), 0) := by rw [hfind]; exact hrf
            refine ⟨_, _, _, _, _, _, _, hcw, hrw, g1, hrf2, g2, ?_, hwl, by rw [mxS_length]; omega⟩
            unfold caulkref34_Fix.f
            rw [hrf2]
            simp only [Option.bind_some, if_true]
            rw [if_pos (by simp; omega), if_pos (by omega), ← hl, (without_yes W k1 k16 hm1 m16 hp ha (F := F) (by omega)).1 o hso]
            rfl
          · have hc1 : (mayL k m (mxS m p (syn k W))).length ≠ 1 := by
              intro h
              apply hf
              unfold findR
              rw [if_pos h]
            have hfr : findR k m (mxS m p (syn k W)) = (0, ⟨#[]⟩, 10) := by
              unfold findR
              rw [if_neg hc1]
            have hrf := hfl.2 (by rw [hcount]; exact hc1)
            have hrf2 : caulkref34_Find.f F (k : Int) (m : Int) l = some (0, 10) := by rw [hfind]; exact hrf
            refine ⟨_, _, 0, 10, [], 0, 10, hcw, hrw, ?_, hrf2, ?_, ?_, hwl, by simp⟩
            · rw [← hl]
              unfold locate_Find.f
              rw [hcode]
              simp only [Option.bind_some]
              rw [if_neg (by simp), if_neg hwn, Int.toNat_natCast, Int.toNat_natCast, hfr]
            · rw [← hl]
              unfold locate_Fix.f
              rw [hcode]
              simp only [Option.bind_some]
              rw [if_neg (by simp), if_neg hwn, Int.toNat_natCast, Int.toNat_natCast, hfr, if_pos (by simp)]
            · unfold caulkref34_Fix.f
              rw [hrf2]
              simp only [Option.bind_some]
              rw [if_neg (by decide)]
  · have hrw := refwrong_bad w0 w1 w2 w3 (by omega) hs' h0 (F := F) (by omega)
    have hrf : caulkref34_Find.f F a0 a1 l = some (0, lookWhy a0 a1 l) := by
      unfold caulkref34_Find.f
      rw [hrw]
      simp only [Option.bind_some]
      rw [if_neg h0]
    refine ⟨[], lookWhy a0 a1 l, 0, lookWhy a0 a1 l, [], 0, lookWhy a0 a1 l, ?_, hrw, ?_, hrf, ?_, ?_, by simp, by simp⟩
    · unfold locate_Wrong.f lookF
      rw [if_pos h0]
      simp only [Option.bind_some]
      rw [if_pos h0]
    · unfold locate_Find.f lookF
      rw [if_pos h0]
      simp only [Option.bind_some]
      rw [if_pos h0]
    · unfold locate_Fix.f lookF
      rw [if_pos h0]
      simp only [Option.bind_some]
      rw [if_pos h0]
    · unfold caulkref34_Fix.f
      rw [hrf]
      simp only [Option.bind_some]
      rw [if_neg h0]
theorem LocateTells : caulklaw34_LocateTells.Pure := by
  intro a0 a1 l2 w0 w1 w2
  have h2 : l2.length ≤ 17592186044416 := by have := w2.1; omega
  have wa := bounds_i64 w0
  have wb := bounds_i64 w1
  obtain ⟨F, hF⟩ : ∃ F : Nat, F = 8000000000 + l2.length := ⟨_, rfl⟩
  refine ⟨F, ?_⟩
  unfold caulklaw34_LocateTells.f
  obtain ⟨b2, e2, g2⟩ := small34 a0 a1 (l := l2) (k := F) (by omega) (by omega)
  rw [lives34 F (by omega), e2]
  simp only [Option.bind_some]
  cases b2 with
  | false => rw [if_neg (by decide)]
  | true =>
    have s2 := g2 rfl
    rw [if_pos rfl]
    obtain ⟨A, e1, q, e2, c, x, e3, h1, h2, h3, h4, h5, h6, hA, hc⟩ := tells_alike a0 a1 l2 (by omega) (by omega) (by omega) (by omega) s2.1 s2.2 (F := F) (by omega)
    rw [h1, h2, h3, h4, h5, h6]
    simp only [Option.bind_some, if_true]
    rw [same5 hA (by omega), same4 hc (by omega)]
    simp only [Option.bind_some, if_true, beq_self_eq_true]
end Go.Proofs.YteiiaonpdamkhaaDoor.Pure
