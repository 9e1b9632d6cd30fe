/- RsEach: the pure statement: numbers and lists alone. Conditions: those of the statement itself. -/
import Derived.Test.YtlobaomleocpjaaEach
import Derived.OpenShut
import Derived.Test.YtlobaomleocpjaaMatSame
namespace Go.Proofs.Ytlobaomleocpjaa.Pure
open Go.RowKit Go.Proofs.Ytlobaomleocpjaa.G Go.Proofs.YtlobaomleocpjaaW.PrintWords Go.Proofs.YtlobaomleocpjaaW.PrintLast Go.Proofs.YtlobaomleocpjaaW.PrintMore Go.OpenShut
set_option linter.unusedVariables false
set_option linter.unusedSimpArgs false
theorem isB_of {a : Int} (h : (Lit.int .u8 a).wf = true) : isB a := by have := bounds_u8 h; unfold isB; omega
theorem mulI_isB (a b : Int) : isB (mulI a b) := el_range _
theorem gfmul {a b : Int} (ha : isB a) (hb : isB b) : gf_Mul.f a b = some (mulI a b) := if_pos ⟨ha, hb⟩
theorem el_mulI (a b : Int) : el (mulI a b) = GfM.mul (el a) (el b) := el_nat _
theorem mulI_nat (a b : BitVec 8) : mulI (a.toNat : Int) (b.toNat : Int) = ((GfM.mul a b).toNat : Int) := by unfold mulI; rw [el_nat, el_nat]
theorem asel {a : Int} (h : isB a) : ∃ x : BitVec 8, a = (x.toNat : Int) := ⟨el a, (el_back h.1 h.2).symm⟩
theorem isB_nat (x : BitVec 8) : isB (x.toNat : Int) := el_range x
theorem el_ne {x : BitVec 8} (h : (x.toNat : Int) ≠ 0) : x ≠ 0#8 := by intro e; apply h; rw [e]; rfl
theorem ne_el {x : BitVec 8} (h : x ≠ 0#8) : (x.toNat : Int) ≠ 0 := by intro e; apply h; apply BitVec.eq_of_toNat_eq; simp; omega
/-- The inverse. -/
def invI (a : Int) : Int := ((GfM.inv (el a)).toNat : Int)
theorem invI_isB (a : Int) : isB (invI a) := el_range _
/-! ### the matrix functions over plain matrices -/
theorem bytesM_of {l : List (List Int)} {n : Nat} (h : l.length * 24 ≤ n ∧ ∀ x0_ ∈ l, (x0_.length * 1 ≤ n ∧ ∀ x1_ ∈ x0_, (Lit.int .u8 x1_).wf = true)) : BytesM l := fun r hr x hx => isB_of ((h.2 r hr).2 x hx)
theorem unitf (n : Nat) (h1 : 1 ≤ n) (h2 : n ≤ 255) : matrix_Unit.f (n : Int) = some (mxL n n GfM.idm, 0) := by
  unfold matrix_Unit.f
  rw [if_pos (by omega), Int.toNat_natCast]
theorem cauf (k m : Nat) (h1 : 1 ≤ k) (h2 : 1 ≤ m) (h3 : k + m ≤ 255) : matrix_Cauchy.f (k : Int) (m : Int) = some (mxL m k (cauX k), 0) := by
  unfold matrix_Cauchy.f
  rw [if_pos (by omega), Int.toNat_natCast, Int.toNat_natCast]
theorem mulf {n m p : Nat} (A B : GfM.Mx) (n1 : 1 ≤ n) (n2 : n ≤ 255) (m1 : 1 ≤ m) (m2 : m ≤ 255) (p1 : 1 ≤ p) (p2 : p ≤ 255) : matrix_Mul.f (mxL n m A) (mxL m p B) = some (mxL n p (GfM.mm m A B), 0) := by
  unfold matrix_Mul.f
  rw [if_pos ⟨mxL_bytes _ _ _, mxL_bytes _ _ _⟩, if_pos ⟨mxL_ok _ n1 n2 m1 m2, mxL_ok _ m1 m2 p1 p2⟩, mxL_length, colsM_mxL _ n1, if_pos rfl, mxL_length, colsM_mxL _ m1]
  congr 2
  exact mxL_congr fun i hi j hj => GfM.mm_congr (fun k hk => toMx_mxL A hi hk) (fun k hk => toMx_mxL B hk hj)
theorem invf {n : Nat} (A : GfM.Mx) (n1 : 1 ≤ n) (n2 : n ≤ 255) : (∃ X, GfM.invX n A = some X ∧ matrix_Invert.f (mxL n n A) = some (mxL n n X, 0)) ∨ (GfM.invX n A = none ∧ matrix_Invert.f (mxL n n A) = some ([], 13)) := by
  unfold matrix_Invert.f invAns
  rw [if_pos (mxL_bytes _ _ _), if_pos (mxL_ok _ n1 n2 n1 n2), colsM_mxL _ n1, mxL_length, if_pos rfl]
  have hc : (GfM.invX n (toMx (mxL n n A))).isSome = (GfM.invX n A).isSome ∧ ∀ X X', GfM.invX n (toMx (mxL n n A)) = some X → GfM.invX n A = some X' → GfM.EqM n n X X' := GfM.elimX_congr (n := n) (d := n) (c := 0) (by omega) (fun i hi j hj => toMx_mxL A hi hj) (fun _ _ _ _ => rfl)
  obtain ⟨h1, h2⟩ := hc
  cases e : GfM.invX n A with
  | none =>
    rw [e] at h1
    right
    cases e2 : GfM.invX n (toMx (mxL n n A)) with
    | none => exact ⟨rfl, rfl⟩
    | some X => rw [e2] at h1; cases h1
  | some X =>
    rw [e] at h1
    left
    cases e2 : GfM.invX n (toMx (mxL n n A)) with
    | none => rw [e2] at h1; cases h1
    | some X' => exact ⟨X, rfl, by show some (mxL n n X', (0 : Int)) = some (mxL n n X, 0); rw [mxL_congr (h2 X' X e2 e)]⟩
theorem invf_some {n : Nat} {A X : GfM.Mx} (n1 : 1 ≤ n) (n2 : n ≤ 255) (h : GfM.invX n A = some X) : matrix_Invert.f (mxL n n A) = some (mxL n n X, 0) := by
  rcases invf A n1 n2 with ⟨Y, h1, h2⟩ | ⟨h1, _⟩
  · rw [h] at h1; rw [h2, Option.some.inj h1]
  · rw [h] at h1; cases h1
theorem samef {n p : Nat} {A B : GfM.Mx} (n2 : n ≤ 255) (h : ∀ i, i < n → ∀ j, j < p → A i j = B i j) : caulkref03_Same.f (mxL n p A) (mxL n p B) = some true := by
  unfold caulkref03_Same.f
  rw [if_pos ⟨mxL_bytes _ _ _, mxL_bytes _ _ _, by rw [mxL_length]; omega⟩, decide_eq_true (mxL_congr h)]
theorem rowsf {n p : Nat} (A : GfM.Mx) (n1 : 1 ≤ n) (n2 : n ≤ 255) (p1 : 1 ≤ p) (p2 : p ≤ 255) (rows : List Int) (h1 : 1 ≤ rows.length) (h2 : rows.length ≤ 255) (h : ∀ x ∈ rows, 0 ≤ x ∧ x < (n : Int)) :
    matrix_Rows.f (mxL n p A) rows = some (mxL rows.length p (fun k c => A (rows.getD k 0).toNat c), 0) := by
  unfold matrix_Rows.f
  rw [if_pos (mxL_bytes _ _ _), if_pos (mxL_ok _ n1 n2 p1 p2), if_pos ⟨h1, h2⟩, mxL_length, if_pos h, colsM_mxL _ n1]
  congr 2
  exact mxL_congr fun i hi j hj => by
    have hm : rows.getD i 0 ∈ rows := by rw [List.getD_eq_getElem?_getD, List.getElem?_eq_getElem hi]; exact List.getElem_mem hi
    have := h _ hm
    exact toMx_mxL A (by omega) hj
/-- A right matrix of bytes is one of the plain ones. -/
theorem as_mxL {l : List (List Int)} (hb : BytesM l) (ho : OkM l) : ∃ (n p : Nat) (A : GfM.Mx), 1 ≤ n ∧ n ≤ 255 ∧ 1 ≤ p ∧ p ≤ 255 ∧ l = mxL n p A := ⟨l.length, colsM l, toMx l, ho.1, ho.2.1, ho.2.2.1, ho.2.2.2.1, (mxL_toMx hb ho).symm⟩
theorem rd_L2_mxL {n p : Nat} (A : GfM.Mx) {i : Nat} (hi : i < n) : rd_L2 (mxL n p A) (i : Int) = rowL p (A i) := by
  rw [rd_L2_nat, List.getD_eq_getElem?_getD, mxL_get n p A i hi]; rfl
theorem rowL_set (p : Nat) (f : Nat → GfM.F) (j : Nat) (x : GfM.F) : (rowL p f).set j (x.toNat : Int) = rowL p (fun c => if c = j then x else f c) := by
  apply rowL_ext
  · rw [List.length_set, rowL_length]
  · intro c hc
    by_cases e : c = j
    · subst e
      rw [List.getD_eq_getElem?_getD, List.getElem?_set_self (by rw [rowL_length]; exact hc), if_pos rfl]; rfl
    · rw [List.getD_eq_getElem?_getD, List.getElem?_set_ne (fun e' => e e'.symm), ← List.getD_eq_getElem?_getD, rowL_get p f c hc, if_neg e]
theorem mxL_set {n p : Nat} (A : GfM.Mx) {i : Nat} (hi : i < n) (j : Nat) (x : GfM.F) : (mxL n p A).set i ((rowL p (A i)).set j (x.toNat : Int)) = mxL n p (fun r c => if r = i ∧ c = j then x else A r c) := by
  rw [rowL_set]
  apply List.ext_getElem?
  intro r
  by_cases hr : r < n
  · rw [mxL_get _ _ _ r hr]
    by_cases e : r = i
    · subst e
      rw [List.getElem?_set_self (by rw [mxL_length]; exact hr)]
      exact congrArg some (rowL_congr fun c _ => by by_cases e : c = j <;> simp [e])
    · rw [List.getElem?_set_ne (fun e' => e e'.symm), mxL_get _ _ _ r hr]
      exact congrArg some (rowL_congr fun c _ => by rw [if_neg (fun hh => e hh.1)])
  · rw [List.getElem?_eq_none (by rw [List.length_set, mxL_length]; omega), List.getElem?_eq_none (by rw [mxL_length]; omega)]
theorem rd_rowL {p : Nat} (f : Nat → GfM.F) {j : Nat} (hj : j < p) : rd (rowL p f) (j : Int) = ((f j).toNat : Int) := by
  unfold rd
  rw [Int.toNat_natCast, rowL_get p f j hj]
/-! ### rs over plain matrices -/
theorem bytesOf_isB (s : ByteArray) : ∀ x ∈ bytesOf s, isB x := by
  intro x hx
  simp only [bytesOf, List.mem_map] at hx
  obtain ⟨b, _, rfl⟩ := hx
  have := b.toNat_lt
  exact ⟨by omega, by omega⟩
theorem son_bytesOf (s : ByteArray) : strOfNums (bytesOf s) = s := by
  have : (strOfNums (bytesOf s)).data.toList = s.data.toList := by
    unfold strOfNums bytesOf
    simp only [List.map_map]
    conv => rhs; rw [← List.map_id s.data.toList]
    apply List.map_congr_left
    intro x hx
    simp
  cases s with
  | mk d =>
    cases h : strOfNums (bytesOf ⟨d⟩) with
    | mk e =>
      rw [h] at this
      exact congrArg ByteArray.mk (Array.toList_inj.1 this)
/-- Pieces of p bytes each. -/
def mxS (n p : Nat) (A : GfM.Mx) : List ByteArray := (List.range n).map fun i => strX p (A i)
theorem mxS_length (n p : Nat) (A : GfM.Mx) : (mxS n p A).length = n := by simp [mxS]
theorem mxS_get (n p : Nat) (A : GfM.Mx) (i : Nat) (hi : i < n) : (mxS n p A)[i]? = some (strX p (A i)) := by simp [mxS, hi]
theorem strX_congr {p : Nat} {f f' : Nat → GfM.F} (h : ∀ j, j < p → f j = f' j) : strX p f = strX p f' := by unfold strX; rw [rowL_congr h]
theorem mxS_congr {n p : Nat} {A A' : GfM.Mx} (h : ∀ i, i < n → ∀ j, j < p → A i j = A' i j) : mxS n p A = mxS n p A' := by
  unfold mxS
  apply List.map_congr_left
  intro i hi
  exact strX_congr (h i (List.mem_range.1 hi))
theorem rdS {n p : Nat} (A : GfM.Mx) {i : Nat} (hi : i < n) : rdOf ByteArray.empty (mxS n p A) (i : Int) = strX p (A i) := by
  unfold rdOf
  rw [Int.toNat_natCast, List.getD_eq_getElem?_getD, mxS_get n p A i hi]; rfl
theorem rdOf_nat (l : List ByteArray) (i : Nat) : rdOf ByteArray.empty l (i : Int) = l.getD i ByteArray.empty := by unfold rdOf; rw [Int.toNat_natCast]
/-- Pieces as a matrix. -/
def toB (l : List ByteArray) : GfM.Mx := fun i j => el ((bytesOf (l.getD i ByteArray.empty)).getD j 0)
theorem strX_back (s : ByteArray) (f : Nat → GfM.F) (h : ∀ j, j < s.size → f j = el ((bytesOf s).getD j 0)) : strX s.size f = s := by
  unfold strX
  have e : bytesOf s = rowL s.size f := rowL_ext (bytesOf_length s) (fun j hj => by
    have hm : (bytesOf s).getD j 0 ∈ bytesOf s := by rw [List.getD_eq_getElem?_getD, List.getElem?_eq_getElem (by rw [bytesOf_length]; exact hj)]; exact List.getElem_mem _
    have := bytesOf_isB s _ hm
    rw [h j hj]
    exact (el_back this.1 this.2).symm)
  rw [← e, son_bytesOf]
theorem mxS_toB {l : List ByteArray} {p : Nat} (h : ∀ s ∈ l, s.size = p) : mxS l.length p (toB l) = l := by
  apply List.ext_getElem?
  intro i
  by_cases hi : i < l.length
  · rw [mxS_get _ _ _ i hi, List.getElem?_eq_getElem hi]
    have hs := h _ (List.getElem_mem hi)
    congr 1
    rw [← hs]
    have e : l.getD i ByteArray.empty = l[i] := by rw [List.getD_eq_getElem?_getD, List.getElem?_eq_getElem hi]; rfl
    exact strX_back _ _ (fun j _ => by unfold toB; rw [e])
  · rw [List.getElem?_eq_none (by rw [mxS_length]; omega), List.getElem?_eq_none (by omega)]
theorem rscheck (a0 a1 : Int) : rs_Check.f a0 a1 = some (if 1 ≤ a0 ∧ a0 ≤ 255 ∧ 0 ≤ a1 ∧ a1 ≤ 255 - a0 then 0 else 1) := by
  unfold rs_Check.f
  by_cases h1 : a0 < 1
  · rw [if_pos h1, if_neg (by omega)]
  · rw [if_neg h1]
    by_cases h2 : a1 < 0
    · rw [if_pos h2, if_neg (by omega)]
    · rw [if_neg h2]
      by_cases h3 : a0 > 255
      · rw [if_pos h3, if_neg (by omega)]
      · rw [if_neg h3]
        have hw : wrap64 (255 - a0) = 255 - a0 := by unfold wrap64; omega
        rw [hw]
        by_cases h4 : a1 > 255 - a0
        · rw [if_pos h4, if_neg (by omega)]
        · rw [if_neg h4, if_pos (by omega)]
/-- Pieces are of one length, and not too long. -/
def Fits (l : List ByteArray) : Prop := ∀ s ∈ l, s.size = (l.getD 0 ByteArray.empty).size ∧ s.size ≤ 65536
instance (l : List ByteArray) : Decidable (Fits l) := by unfold Fits; infer_instance
theorem rsfits_l0 (l : List ByteArray) (hl : l.length ≤ 17592186044416) (K : Nat) : ∀ (d i : Nat), i + d = l.length → rs_fits.l0 (K + d + 1) l l (l.length : Int) (i : Int) = some (decide (∀ s ∈ l.drop i, s.size = (l.getD 0 ByteArray.empty).size ∧ s.size ≤ 65536))
  | 0, i, h => by
    have f0 : ¬ (i : Int) < (l.length : Int) := by omega
    show (if (i : Int) < (l.length : Int) then _ else some true) = _
    rw [if_neg f0, List.drop_of_length_le (by omega)]
    simp
  | d + 1, i, h => by
    have hi : i < l.length := by omega
    have f0 : (i : Int) < (l.length : Int) := by omega
    have f1 : (0 : Int) ≤ (i : Int) := by omega
    have f2 : (0 : Int) < (l.length : Int) := by omega
    have hw : wrap64 ((i : Int) + 1) = ((i + 1 : Nat) : Int) := by unfold wrap64; omega
    have ih := rsfits_l0 l hl K d (i + 1) (by omega)
    have e0 : rdOf ByteArray.empty l 0 = l.getD 0 ByteArray.empty := rdOf_nat l 0
    have ei : l.getD i ByteArray.empty = l[i] := by rw [List.getD_eq_getElem?_getD, List.getElem?_eq_getElem hi]; rfl
    rw [show K + (d + 1) + 1 = (K + d + 1) + 1 from by omega]
    generalize hF : K + d + 1 = F at ih ⊢
    unfold rs_fits.l0
    rw [if_pos f0, if_pos f1, if_pos f0, if_pos f2, rdOf_nat, e0, ei, hw, ih, List.drop_eq_getElem_cons hi]
    simp only [List.forall_mem_cons]
    by_cases h1 : l[i].size = (l.getD 0 ByteArray.empty).size
    · rw [if_pos (by omega)]
      by_cases h2 : l[i].size > 65536
      · rw [if_pos (by omega)]
        congr 1
        exact (decide_eq_false (fun hh => by have := hh.1.2; omega)).symm
      · rw [if_neg (by omega)]
        congr 1
        rw [decide_eq_decide]
        exact ⟨fun hh => ⟨⟨h1, by omega⟩, hh⟩, fun hh => hh.2⟩
    · rw [if_neg (by omega)]
      congr 1
      exact (decide_eq_false (fun hh => h1 hh.1.1)).symm
theorem rsfits {l : List ByteArray} (hl : l.length ≤ 17592186044416) {k : Nat} (hk : l.length < k) : rs_fits.f k l = some (decide (Fits l)) := by
  have := rsfits_l0 l hl (k - l.length - 1) l.length 0 (by omega)
  rw [show k - l.length - 1 + l.length + 1 = k from by omega, List.drop_zero] at this
  exact this
/-! times -/
def stS (n p m : Nat) (A D : GfM.Mx) (i : Nat) : List ByteArray := (List.range n).map fun r => if r < i then strX p (GfM.mm m A D r) else ⟨#[]⟩
theorem stS_length (n p m : Nat) (A D : GfM.Mx) (i : Nat) : (stS n p m A D i).length = n := by simp [stS]
theorem stS_set (n p m : Nat) (A D : GfM.Mx) (i : Nat) (hi : i < n) : (stS n p m A D i).set i (strX p (GfM.mm m A D i)) = stS n p m A D (i + 1) := by
  apply List.ext_getElem?
  intro r
  by_cases hr : r < n
  · by_cases e : r = i
    · subst e
      rw [List.getElem?_set_self (by rw [stS_length]; exact hr)]
      simp [stS, hr]
    · rw [List.getElem?_set_ne (fun e' => e e'.symm)]
      have : (r < i + 1) = (r < i) := by apply propext; omega
      simp only [stS, List.getElem?_map, List.getElem?_range hr, Option.map_some, this]
  · rw [List.getElem?_eq_none (by rw [List.length_set, stS_length]; omega), List.getElem?_eq_none (by rw [stS_length]; omega)]
theorem putf (p : Nat) (f : Nat → GfM.F) (x : GfM.F) (s : Nat → GfM.F) (hp : p ≤ 65536) : gf_Put.f (rowL p f) (x.toNat : Int) (strX p s) = some (rowL p (fun j => f j ^^^ GfM.mul x (s j))) := by
  unfold gf_Put.f
  have hx := x.isLt
  rw [if_pos ⟨⟨by omega, by omega⟩, by rw [strX_size]; omega, by rw [rowL_length]; omega, fun y hy => by
    obtain ⟨j, _, rfl⟩ := List.mem_map.1 hy
    exact ⟨by omega, by have := (f j).isLt; omega⟩⟩, rowL_length, strX_size, Nat.min_self, strX_bytes, putL_rowL]
theorem rstimes_l {n m p : Nat} (A D : GfM.Mx) (hn : n ≤ 255) (hm : m ≤ 255) (m1 : 1 ≤ m) (hp : p ≤ 65536) :
    ∀ (d i K : Nat), i + d = n → rs_times.l0 (K + d * (m + 2) + 1) (mxS m p D) (stS n p m A D i) (mxL n m A) (n : Int) (i : Int) = some (mxS n p (GfM.mm m A D)) := by
  have l1 : ∀ (i : Nat), i < n → ∀ (d j K : Nat), j + d = m → rs_times.l1 (K + d + 1) (mxS m p D) (stS n p m A D i) (i : Int) (rowL p (GfM.mm j A D i)) (mxL n m A) (n : Int) (i : Int) (rowL m (A i)) (m : Int) (j : Int) = rs_times.l0 K (mxS m p D) (stS n p m A D (i + 1)) (mxL n m A) (n : Int) ((i + 1 : Nat) : Int) := by
    intro i hi d
    induction d with
    | zero =>
      intro j K h
      have hj : j = m := by omega
      subst hj
      have f0 : ¬ (j : Int) < (j : Int) := by omega
      have f1 : (0 : Int) ≤ (i : Int) := by omega
      have f2 : (i : Int) < ((stS n p j A D i).length : Int) := by rw [stS_length]; omega
      have hw : wrap64 ((i : Int) + 1) = ((i + 1 : Nat) : Int) := by unfold wrap64; omega
      unfold rs_times.l1
      rw [if_neg f0, if_pos f1, if_pos f2, hw, Int.toNat_natCast]
      rw [show strOfNums (rowL p (GfM.mm j A D i)) = strX p (GfM.mm j A D i) from rfl, stS_set n p j A D i hi]
    | succ d ih =>
      intro j K h
      have hj : j < m := by omega
      have f0 : (j : Int) < (m : Int) := by omega
      have f1 : (0 : Int) ≤ (j : Int) := by omega
      have hw : wrap64 ((j : Int) + 1) = ((j + 1 : Nat) : Int) := by unfold wrap64; omega
      have ih' := ih (j + 1) K (by omega)
      rw [show K + (d + 1) + 1 = (K + d + 1) + 1 from by omega]
      generalize hF : K + d + 1 = F at ih' ⊢
      unfold rs_times.l1
      rw [if_pos f0, if_pos f1]
      simp only [rowL_length, mxS_length]
      rw [if_pos f0, if_pos f0, rd_rowL _ hj, rdS D hj, putf p _ _ _ hp, hw]
      exact ih'
  intro d
  induction d with
  | zero =>
    intro i K h
    have f0 : ¬ (i : Int) < (n : Int) := by omega
    rw [Nat.zero_mul, Nat.add_zero]
    unfold rs_times.l0
    rw [if_neg f0]
    have e : stS n p m A D i = mxS n p (GfM.mm m A D) := by
      unfold stS mxS
      apply List.map_congr_left
      intro r hr
      have := List.mem_range.1 hr
      rw [if_pos (by omega)]
    rw [e]
  | succ d ih =>
    intro i K h
    have hi : i < n := by omega
    have f0 : (i : Int) < (n : Int) := by omega
    have f1 : (0 : Int) ≤ (i : Int) := by omega
    have f2 : (0 : Int) < (m : Int) := by omega
    have f3 : (0 : Int) ≤ (p : Int) := by omega
    have f4 : p ≤ 281474976710656 := by omega
    have ih' := ih (i + 1) K (by omega)
    have e := l1 i hi m 0 (K + d * (m + 2) + 1) (by omega)
    rw [ih'] at e
    have ef : K + (d + 1) * (m + 2) + 1 = (K + d * (m + 2) + 1 + m + 1) + 1 := by rw [Nat.succ_mul]; omega
    have e0 : rdOf ByteArray.empty (mxS m p D) 0 = strX p (D 0) := rdS D (i := 0) (by omega)
    have er : List.replicate p (0 : Int) = rowL p (GfM.mm 0 A D i) := rowL_ext (by simp) (fun j hj => by simp [List.getD_eq_getElem?_getD, hj]; rfl)
    rw [ef]
    generalize hF : K + d * (m + 2) + 1 + m + 1 = F at e ⊢
    unfold rs_times.l0
    simp only [mxL_length, mxS_length, e0, strX_size, Int.toNat_natCast]
    rw [if_pos f0, if_pos f1, if_pos f0, if_pos f2, if_pos f3, if_pos f4, rd_L2_mxL A hi, rowL_length, er]
    exact e
theorem rstimes {n m p : Nat} (A D : GfM.Mx) (hn : n ≤ 255) (hm : m ≤ 255) (m1 : 1 ≤ m) (hp : p ≤ 65536) {k : Nat} (hk : 70000 ≤ k) : rs_times.f k (mxL n m A) (mxS m p D) = some (mxS n p (GfM.mm m A D)) := by
  unfold rs_times.f
  have f1 : (0 : Int) ≤ (n : Int) := by omega
  have f2 : n ≤ 17592186044416 := by omega
  have e : List.replicate n (⟨#[]⟩ : ByteArray) = stS n p m A D 0 := by
    apply List.ext_getElem?
    intro r
    by_cases hr : r < n
    · simp [stS, hr]
    · rw [List.getElem?_eq_none (by simp; omega), List.getElem?_eq_none (by rw [stS_length]; omega)]
  have hb : n * (m + 2) ≤ 255 * 257 := Nat.mul_le_mul hn (by omega)
  have := rstimes_l A D hn hm m1 hp n 0 (k - n * (m + 2) - 1) (by omega)
  rw [show k - n * (m + 2) - 1 + n * (m + 2) + 1 = k from by omega] at this
  simp only [mxL_length, Int.toNat_natCast]
  rw [if_pos f1, if_pos f2, e]
  exact this
/-! parity, Encode -/
theorem rsparity {k m p : Nat} (D : GfM.Mx) (k1 : 1 ≤ k) (hkm : k + m ≤ 255) (hp : p ≤ 65536) {K : Nat} (hK : 70000 ≤ K) : rs_parity.f K (k : Int) (m : Int) (mxS k p D) = some (mxS m p (GfM.mm k (cauX k) D)) := by
  unfold rs_parity.f
  by_cases h : m = 0
  · subst h
    rw [if_pos (by rfl)]; rfl
  · rw [if_neg (by omega), cauf k m k1 (by omega) hkm]
    simp only [Option.bind_some]
    rw [rstimes (cauX k) D (by omega) (by omega) k1 hp hK]
    rfl
/-- What Encode answers, if all is right. -/
theorem rsencode_ok {k m p : Nat} (D : GfM.Mx) (k1 : 1 ≤ k) (hkm : k + m ≤ 255) (hp : p ≤ 65536) {K : Nat} (hK : 70000 ≤ K) : rs_Encode.f K (k : Int) (m : Int) (mxS k p D) = some (mxS m p (GfM.mm k (cauX k) D), 0) := by
  have hfit : Fits (mxS k p D) := by
    intro s hs
    obtain ⟨i, _, rfl⟩ := List.mem_map.1 hs
    have e : (mxS k p D).getD 0 ByteArray.empty = strX p (D 0) := by rw [List.getD_eq_getElem?_getD, mxS_get k p D 0 (by omega)]; rfl
    rw [e, strX_size, strX_size]
    exact ⟨rfl, hp⟩
  unfold rs_Encode.f
  rw [rscheck, if_pos (by omega), rsfits (by rw [mxS_length]; omega) (by rw [mxS_length]; omega), decide_eq_true hfit, rsparity D k1 hkm hp hK]
  simp only [Option.bind_some, mxS_length, if_true]
/-- Either all is right, or there is an error, and nothing. -/
theorem rsencode {a0 a1 : Int} {l : List ByteArray} (hl : l.length ≤ 17592186044416) {K : Nat} (hK : 70000 ≤ K) (hK2 : l.length < K) :
    (∃ (k m p : Nat) (D : GfM.Mx), a0 = (k : Int) ∧ a1 = (m : Int) ∧ 1 ≤ k ∧ k + m ≤ 255 ∧ p ≤ 65536 ∧ l = mxS k p D ∧ rs_Encode.f K a0 a1 l = some (mxS m p (GfM.mm k (cauX k) D), 0)) ∨ ∃ e, e ≠ 0 ∧ rs_Encode.f K a0 a1 l = some ([], e) := by
  by_cases hc : 1 ≤ a0 ∧ a0 ≤ 255 ∧ 0 ≤ a1 ∧ a1 ≤ 255 - a0
  · by_cases hlen : (l.length : Int) = a0
    · by_cases hf : Fits l
      · left
        have hne : 0 < l.length := by omega
        have hp : (l.getD 0 ByteArray.empty).size ≤ 65536 := by
          refine (hf _ ?_).2
          rw [List.getD_eq_getElem?_getD, List.getElem?_eq_getElem hne]
          exact List.getElem_mem hne
        obtain ⟨m, hm⟩ := Int.eq_ofNat_of_zero_le hc.2.2.1
        have e := mxS_toB (l := l) (p := (l.getD 0 ByteArray.empty).size) (fun s hs => (hf s hs).1)
        refine ⟨l.length, m, (l.getD 0 ByteArray.empty).size, toB l, hlen.symm, hm, by omega, by omega, hp, e.symm, ?_⟩
        have := rsencode_ok (k := l.length) (m := m) (toB l) (by omega) (by omega) hp hK
        rw [e, hlen, ← hm] at this
        exact this
      · right
        unfold rs_Encode.f
        rw [rscheck, if_pos hc, rsfits hl hK2, decide_eq_false hf]
        simp only [Option.bind_some, if_true]
        rw [if_pos hlen]
        exact ⟨2, by decide, rfl⟩
    · right
      unfold rs_Encode.f
      rw [rscheck, if_pos hc]
      simp only [Option.bind_some, if_true]
      rw [if_neg hlen]
      exact ⟨2, by decide, rfl⟩
  · right
    unfold rs_Encode.f
    rw [rscheck, if_neg hc]
    exact ⟨1, by decide, rfl⟩
theorem lives04 (k : Nat) (hk : 70100 ≤ k) : caulklaw04_lives.f k = some true := by
  have h : caulklaw04_lives.f 300 = some true := by decide +kernel
  have mono : ∀ d : Nat, caulklaw04_lives.f (300 + d) = some true := by
    intro d
    induction d with
    | zero => exact h
    | succ d ih => exact caulklaw04_lives.mono (300 + d) _ ih
  have := mono (k - 300)
  rwa [show 300 + (k - 300) = k from by omega] at this
theorem small04_l0 (x0 x1 : Int) (l : List ByteArray) (hl : l.length ≤ 17592186044416) (K : Nat) : ∀ (d i : Nat) (x7 : Int), i + d = l.length → i ≤ 16 → 0 ≤ x7 → x7 ≤ 16384 * (i : Int) → (∀ j, j < i → (l.getD j ByteArray.empty).size ≤ 16384) →
    ∃ b, caulklaw04_small.l0 (K + d + 1) x0 x1 x7 l (l.length : Int) (i : Int) = some b ∧ (b = true → l.length ≤ 16 ∧ ∀ s ∈ l, s.size ≤ 16384)
  | 0, i, x7, h, h16, h0, h1, hs => by
    have f0 : ¬ (i : Int) < (l.length : Int) := by omega
    have good : l.length ≤ 16 ∧ ∀ s ∈ l, s.size ≤ 16384 := ⟨by omega, fun s hm => by
      obtain ⟨j, hj, rfl⟩ := List.mem_iff_getElem.1 hm
      have := hs j (by omega)
      rwa [List.getD_eq_getElem?_getD, List.getElem?_eq_getElem hj] at this⟩
    unfold caulklaw04_small.l0
    rw [if_neg f0]
    repeat' split
    all_goals exact ⟨_, rfl, fun _ => good⟩
  | d + 1, i, x7, h, h16, h0, h1, hs => by
    have hi : i < l.length := by omega
    have f0 : (i : Int) < (l.length : Int) := by omega
    have f1 : (0 : Int) ≤ (i : Int) := by omega
    have hw : wrap64 ((i : Int) + 1) = ((i + 1 : Nat) : Int) := by clear h1 hs; unfold wrap64; omega
    rw [show K + (d + 1) + 1 = (K + d + 1) + 1 from by omega]
    have ih := small04_l0 x0 x1 l hl K d (i + 1)
    generalize hF : K + d + 1 = F at ih ⊢
    unfold caulklaw04_small.l0
    rw [if_pos f0, if_pos f1, if_pos f0, rdOf_nat]
    by_cases e : (i : Int) = 16
    · rw [if_pos e]; exact ⟨false, rfl, fun hh => by cases hh⟩
    · rw [if_neg e]
      by_cases e1 : ((l.getD i ByteArray.empty).size : Int) > 16384
      · rw [if_pos e1]; exact ⟨false, rfl, fun hh => by cases hh⟩
      · rw [if_neg e1]
        by_cases e2 : x7 > 16384
        · rw [if_pos e2]; exact ⟨false, rfl, fun hh => by cases hh⟩
        · have hw2 : wrap64 (x7 + ((l.getD i ByteArray.empty).size : Int)) = x7 + ((l.getD i ByteArray.empty).size : Int) := by clear hw ih hs; unfold wrap64; omega
          rw [if_neg e2, hw, hw2]
          refine ih _ (by omega) (by omega) (by omega) (by omega) (fun j hj => ?_)
          by_cases ej : j = i
          · subst ej; omega
          · exact hs j (by omega)
theorem small04 (a0 a1 : Int) {l : List ByteArray} (hl : l.length ≤ 17592186044416) {k : Nat} (hk : l.length < k) : ∃ b, caulklaw04_small.f k a0 a1 l = some b ∧ (b = true → l.length ≤ 16 ∧ ∀ s ∈ l, s.size ≤ 16384) := by
  have := small04_l0 a0 a1 l hl (k - l.length - 1) l.length 0 0 (by omega) (by omega) (by omega) (by omega) (fun j hj => by omega)
  rw [show k - l.length - 1 + l.length + 1 = k from by omega] at this
  exact this
theorem mm_xor (n : Nat) (A D E : GfM.Mx) (i j : Nat) : GfM.mm n A (fun r c => D r c ^^^ E r c) i j = GfM.mm n A D i j ^^^ GfM.mm n A E i j := by
  unfold GfM.mm
  rw [← GfM.sumN_xor]
  exact GfM.sumN_congr fun k _ => GfM.mul_xor_right _ _ _
theorem cauX_ne {k m i j : Nat} (hi : i < m) (hj : j < k) (hkm : k + m ≤ 255) : cauX k i j ≠ 0#8 := by
  have ha : BitVec.ofNat 8 (k + i) ^^^ BitVec.ofNat 8 j ≠ 0#8 := by
    intro h
    have h2 : BitVec.ofNat 8 (k + i) = BitVec.ofNat 8 j := by
      have h2 := congrArg (· ^^^ BitVec.ofNat 8 j) h
      simpa [BitVec.xor_assoc] using h2
    have h3 := congrArg BitVec.toNat h2
    simp at h3
    omega
  exact GfM.inv_ne ha
/-- One byte of one piece changed by y. -/
def eachD (D : GfM.Mx) (pn an : Nat) (y : GfM.F) : GfM.Mx := fun r c => D r c ^^^ (if r = pn ∧ c = an then y else 0#8)
theorem mm_one {n pn : Nat} (hp : pn < n) (A : GfM.Mx) (an : Nat) (y : GfM.F) (i j : Nat) : GfM.mm n A (fun r c => if r = pn ∧ c = an then y else 0#8) i j = if j = an then GfM.mul (A i pn) y else 0#8 := by
  unfold GfM.mm
  rw [GfM.sumN_one hp (fun k _ hne => by
    have e0 : (if k = pn ∧ j = an then y else 0#8) = 0#8 := if_neg (fun h => hne h.1)
    show GfM.mul (A i k) (if k = pn ∧ j = an then y else 0#8) = 0#8
    rw [e0, GfM.mul_zero])]
  show GfM.mul (A i pn) (if pn = pn ∧ j = an then y else 0#8) = _
  by_cases e : j = an
  · rw [if_pos (⟨rfl, e⟩ : pn = pn ∧ j = an), if_pos e]
  · rw [if_neg (fun h : pn = pn ∧ j = an => e h.2), if_neg e, GfM.mul_zero]
theorem mm_each {n pn : Nat} (hp : pn < n) (A D : GfM.Mx) (an : Nat) (y : GfM.F) (i j : Nat) : GfM.mm n A (eachD D pn an y) i j = GfM.mm n A D i j ^^^ (if j = an then GfM.mul (A i pn) y else 0#8) := by
  unfold eachD
  rw [mm_xor, mm_one hp]
theorem bt_strX {p : Nat} (f : Nat → GfM.F) {j : Nat} (hj : j < p) : bt (strX p f) (j : Int) = ((f j).toNat : Int) := by
  rw [← rd_bytesOf, strX_bytes, rd_rowL f hj]
theorem eachX_str {p an : Nat} (f : Nat → GfM.F) (ha : an < p) (a5 : Int) (h5 : isB a5) : strOfNums (eachX (strX p f) an a5) = strX p (fun c => if c = an then f c ^^^ el a5 else f c) := by
  have e5 : a5 = ((el a5).toNat : Int) := (el_back h5.1 h5.2).symm
  unfold eachX
  rw [strX_bytes, rowL_get p f an ha]
  conv => lhs; rw [e5, g_xor8, rowL_set]
  unfold strX
  rw [rowL_congr (f' := fun c => if c = an then f c ^^^ el a5 else f c) (fun c _ => by by_cases e : c = an <;> simp [e])]
theorem eachO_mxS {k p pn an : Nat} (D : GfM.Mx) (hp : pn < k) (ha : an < p) (a5 : Int) (h5 : isB a5) : eachO (mxS k p D) pn an a5 = mxS k p (eachD D pn an (el a5)) := by
  unfold eachO
  rw [rdS D hp, eachX_str (D pn) ha a5 h5]
  apply List.ext_getElem?
  intro r
  by_cases hr : r < k
  · rw [mxS_get _ _ _ r hr]
    by_cases e : r = pn
    · subst e
      rw [List.getElem?_set_self (by rw [mxS_length]; exact hr)]
      exact congrArg some (strX_congr fun c _ => by unfold eachD; by_cases e : c = an <;> simp [e])
    · rw [List.getElem?_set_ne (fun e' => e e'.symm), mxS_get _ _ _ r hr]
      exact congrArg some (strX_congr fun c _ => by unfold eachD; rw [if_neg (fun hh => e hh.1)]; simp)
  · rw [List.getElem?_eq_none (by rw [List.length_set, mxS_length]; omega), List.getElem?_eq_none (by rw [mxS_length]; omega)]
theorem xor_same {a b : GfM.F} (h : a = a ^^^ b) : b = 0#8 := by
  have h2 := congrArg (a ^^^ ·) h
  simp only [← BitVec.xor_assoc, BitVec.xor_self, BitVec.zero_xor] at h2
  exact h2.symm
theorem each_ok {k m p pn an : Nat} (D : GfM.Mx) (hp : pn < k) (hkm : k + m ≤ 255) (a5 : Int) (h5 : isB a5) : eachOk (mxS m p (GfM.mm k (cauX k) D)) (mxS m p (GfM.mm k (cauX k) (eachD D pn an (el a5)))) p an a5 := by
  intro i hi
  rw [mxS_length] at hi
  rw [rdS _ hi, rdS _ hi, strX_size, strX_size]
  refine ⟨rfl, rfl, fun j hj => ?_⟩
  rw [bt_strX _ hj, bt_strX _ hj, mm_each hp]
  constructor
  · intro h
    by_cases e : j = an
    · right
      rw [if_pos e] at h
      have h2 := xor_same (BitVec.eq_of_toNat_eq (Int.ofNat.inj h))
      have h3 := (GfM.mul_eq_zero h2).resolve_left (cauX_ne hi hp hkm)
      rw [← el_back h5.1 h5.2, h3]; rfl
    · exact Or.inl e
  · intro h
    rcases h with h | h
    · rw [if_neg h]; simp
    · have e0 : el a5 = 0#8 := by rw [h]; rfl
      rw [e0, GfM.mul_zero]
      by_cases e : j = an <;> simp [e]
theorem RsEach : caulklaw04_RsEach.Pure := by
  intro a0 a1 l2 a3 a4 a5 w0 w1 w2 w3 w4 w5
  have h2 : l2.length ≤ 17592186044416 := by have := w2.1; omega
  have hb5 := isB_of w5
  obtain ⟨F, hF⟩ : ∃ F : Nat, F = 100000 + l2.length := ⟨_, rfl⟩
  refine ⟨F, ?_⟩
  obtain ⟨b2, e2, g2⟩ := small04 a0 a1 (l := l2) (k := F) h2 (by omega)
  unfold caulklaw04_RsEach.f
  rw [lives04 F (by omega), Option.bind_some, if_pos rfl, e2, Option.bind_some]
  by_cases hc : b2 = true ∧ 0 ≤ a3 ∧ a3 < l2.length ∧ 0 ≤ a4 ∧ a4 < (rdOf ByteArray.empty l2 a3).size
  · rw [if_pos hc]
    obtain ⟨rfl, h3, h4, h5, h6⟩ := hc
    obtain ⟨s1, s2⟩ := g2 rfl
    obtain ⟨pn, rfl⟩ := Int.eq_ofNat_of_zero_le h3
    obtain ⟨an, rfl⟩ := Int.eq_ofNat_of_zero_le h5
    have hpn : pn < l2.length := by omega
    have hsz : (rdOf ByteArray.empty l2 (pn : Int)).size ≤ 16384 := by
      rw [rdOf_nat, List.getD_eq_getElem?_getD, List.getElem?_eq_getElem hpn]
      exact s2 _ (List.getElem_mem hpn)
    rw [if_pos ⟨by omega, hsz⟩]
    rcases rsencode (a0 := a0) (a1 := a1) (l := l2) h2 (K := F) (by omega) (by omega) with ⟨k, m, p, D, rfl, rfl, k1, hkm, hp, rfl, hE⟩ | ⟨e, he, hE⟩
    · rw [mxS_length] at hpn
      rw [rdS D hpn, strX_size] at h6
      have ha : an < p := by omega
      rw [hE, Option.bind_some, if_pos rfl, Int.toNat_natCast, Int.toNat_natCast, eachO_mxS D hpn ha a5 hb5, rsencode_ok (eachD D pn an (el a5)) k1 hkm hp (K := F) (by omega), Option.bind_some, rdS D hpn, strX_size]
      exact if_pos ⟨rfl, by simp only [mxS_length], by simp only [mxS_length]; omega, each_ok D hpn hkm a5 hb5⟩
    · rw [hE, Option.bind_some]
      exact if_neg he
  · rw [if_neg hc]
end Go.Proofs.Ytlobaomleocpjaa.Pure
