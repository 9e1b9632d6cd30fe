/- TopSolved: the pure statement: numbers and lists alone. Conditions: those of the statement itself. -/
import Derived.Test.YtlobaomleocpjabDoorGx4
import Derived.OpenShut
namespace Go.Proofs.YtlobaomleocpjabDoor.Pure
open Go.RowKit Go.Proofs.YtlobaomleocpjabDoor.G Go.Proofs.YtlobaomleocpjabDoorW.PrintWords Go.Proofs.YtlobaomleocpjabDoorW.PrintLast Go.Proofs.YtlobaomleocpjabDoorW.PrintMore Go.OpenShut
set_option linter.unusedVariables false
set_option linter.unusedSimpArgs false
theorem isB_of {a : Int} (h : (Lit.int .u8 a).wf = true) : isB a := by have := bounds_u8 h; unfold isB; omega
theorem mulI_isB (a b : Int) : isB (mulI a b) := el_range _
theorem gfmul {a b : Int} (ha : isB a) (hb : isB b) : gf_Mul.f a b = some (mulI a b) := if_pos ⟨ha, hb⟩
theorem el_mulI (a b : Int) : el (mulI a b) = GfM.mul (el a) (el b) := el_nat _
theorem mulI_nat (a b : BitVec 8) : mulI (a.toNat : Int) (b.toNat : Int) = ((GfM.mul a b).toNat : Int) := by unfold mulI; rw [el_nat, el_nat]
theorem asel {a : Int} (h : isB a) : ∃ x : BitVec 8, a = (x.toNat : Int) := ⟨el a, (el_back h.1 h.2).symm⟩
theorem isB_nat (x : BitVec 8) : isB (x.toNat : Int) := el_range x
theorem el_ne {x : BitVec 8} (h : (x.toNat : Int) ≠ 0) : x ≠ 0#8 := by intro e; apply h; rw [e]; rfl
theorem ne_el {x : BitVec 8} (h : x ≠ 0#8) : (x.toNat : Int) ≠ 0 := by intro e; apply h; apply BitVec.eq_of_toNat_eq; simp; omega
/-- The inverse. -/
def invI (a : Int) : Int := ((GfM.inv (el a)).toNat : Int)
theorem invI_isB (a : Int) : isB (invI a) := el_range _
/-! ### the matrix functions over plain matrices -/
theorem bytesM_of {l : List (List Int)} {n : Nat} (h : l.length * 24 ≤ n ∧ ∀ x0_ ∈ l, (x0_.length * 1 ≤ n ∧ ∀ x1_ ∈ x0_, (Lit.int .u8 x1_).wf = true)) : BytesM l := fun r hr x hx => isB_of ((h.2 r hr).2 x hx)
theorem unitf (n : Nat) (h1 : 1 ≤ n) (h2 : n ≤ 255) : matrix_Unit.f (n : Int) = some (mxL n n GfM.idm, 0) := by
  unfold matrix_Unit.f
  rw [if_pos (by omega), Int.toNat_natCast]
theorem cauf (k m : Nat) (h1 : 1 ≤ k) (h2 : 1 ≤ m) (h3 : k + m ≤ 255) : matrix_Cauchy.f (k : Int) (m : Int) = some (mxL m k (cauX k), 0) := by
  unfold matrix_Cauchy.f
  rw [if_pos (by omega), Int.toNat_natCast, Int.toNat_natCast]
theorem invf {n : Nat} (A : GfM.Mx) (n1 : 1 ≤ n) (n2 : n ≤ 255) : (∃ X, GfM.invX n A = some X ∧ matrix_Invert.f (mxL n n A) = some (mxL n n X, 0)) ∨ (GfM.invX n A = none ∧ matrix_Invert.f (mxL n n A) = some ([], 13)) := by
  unfold matrix_Invert.f invAns
  rw [if_pos (mxL_bytes _ _ _), if_pos (mxL_ok _ n1 n2 n1 n2), colsM_mxL _ n1, mxL_length, if_pos rfl]
  have hc : (GfM.invX n (toMx (mxL n n A))).isSome = (GfM.invX n A).isSome ∧ ∀ X X', GfM.invX n (toMx (mxL n n A)) = some X → GfM.invX n A = some X' → GfM.EqM n n X X' := GfM.elimX_congr (n := n) (d := n) (c := 0) (by omega) (fun i hi j hj => toMx_mxL A hi hj) (fun _ _ _ _ => rfl)
  obtain ⟨h1, h2⟩ := hc
  cases e : GfM.invX n A with
  | none =>
    rw [e] at h1
    right
    cases e2 : GfM.invX n (toMx (mxL n n A)) with
    | none => exact ⟨rfl, rfl⟩
    | some X => rw [e2] at h1; cases h1
  | some X =>
    rw [e] at h1
    left
    cases e2 : GfM.invX n (toMx (mxL n n A)) with
    | none => rw [e2] at h1; cases h1
    | some X' => exact ⟨X, rfl, by show some (mxL n n X', (0 : Int)) = some (mxL n n X, 0); rw [mxL_congr (h2 X' X e2 e)]⟩
theorem invf_some {n : Nat} {A X : GfM.Mx} (n1 : 1 ≤ n) (n2 : n ≤ 255) (h : GfM.invX n A = some X) : matrix_Invert.f (mxL n n A) = some (mxL n n X, 0) := by
  rcases invf A n1 n2 with ⟨Y, h1, h2⟩ | ⟨h1, _⟩
  · rw [h] at h1; rw [h2, Option.some.inj h1]
  · rw [h] at h1; cases h1
theorem rowsf {n p : Nat} (A : GfM.Mx) (n1 : 1 ≤ n) (n2 : n ≤ 255) (p1 : 1 ≤ p) (p2 : p ≤ 255) (rows : List Int) (h1 : 1 ≤ rows.length) (h2 : rows.length ≤ 255) (h : ∀ x ∈ rows, 0 ≤ x ∧ x < (n : Int)) :
    matrix_Rows.f (mxL n p A) rows = some (mxL rows.length p (fun k c => A (rows.getD k 0).toNat c), 0) := by
  unfold matrix_Rows.f
  rw [if_pos (mxL_bytes _ _ _), if_pos (mxL_ok _ n1 n2 p1 p2), if_pos ⟨h1, h2⟩, mxL_length, if_pos h, colsM_mxL _ n1]
  congr 2
  exact mxL_congr fun i hi j hj => by
    have hm : rows.getD i 0 ∈ rows := by rw [List.getD_eq_getElem?_getD, List.getElem?_eq_getElem hi]; exact List.getElem_mem hi
    have := h _ hm
    exact toMx_mxL A (by omega) hj
/-- A right matrix of bytes is one of the plain ones. -/
theorem as_mxL {l : List (List Int)} (hb : BytesM l) (ho : OkM l) : ∃ (n p : Nat) (A : GfM.Mx), 1 ≤ n ∧ n ≤ 255 ∧ 1 ≤ p ∧ p ≤ 255 ∧ l = mxL n p A := ⟨l.length, colsM l, toMx l, ho.1, ho.2.1, ho.2.2.1, ho.2.2.2.1, (mxL_toMx hb ho).symm⟩
theorem rd_L2_mxL {n p : Nat} (A : GfM.Mx) {i : Nat} (hi : i < n) : rd_L2 (mxL n p A) (i : Int) = rowL p (A i) := by
  rw [rd_L2_nat, List.getD_eq_getElem?_getD, mxL_get n p A i hi]; rfl
theorem rowL_set (p : Nat) (f : Nat → GfM.F) (j : Nat) (x : GfM.F) : (rowL p f).set j (x.toNat : Int) = rowL p (fun c => if c = j then x else f c) := by
  apply rowL_ext
  · rw [List.length_set, rowL_length]
  · intro c hc
    by_cases e : c = j
    · subst e
      rw [List.getD_eq_getElem?_getD, List.getElem?_set_self (by rw [rowL_length]; exact hc), if_pos rfl]; rfl
    · rw [List.getD_eq_getElem?_getD, List.getElem?_set_ne (fun e' => e e'.symm), ← List.getD_eq_getElem?_getD, rowL_get p f c hc, if_neg e]
theorem mxL_set {n p : Nat} (A : GfM.Mx) {i : Nat} (hi : i < n) (j : Nat) (x : GfM.F) : (mxL n p A).set i ((rowL p (A i)).set j (x.toNat : Int)) = mxL n p (fun r c => if r = i ∧ c = j then x else A r c) := by
  rw [rowL_set]
  apply List.ext_getElem?
  intro r
  by_cases hr : r < n
  · rw [mxL_get _ _ _ r hr]
    by_cases e : r = i
    · subst e
      rw [List.getElem?_set_self (by rw [mxL_length]; exact hr)]
      exact congrArg some (rowL_congr fun c _ => by by_cases e : c = j <;> simp [e])
    · rw [List.getElem?_set_ne (fun e' => e e'.symm), mxL_get _ _ _ r hr]
      exact congrArg some (rowL_congr fun c _ => by rw [if_neg (fun hh => e hh.1)])
  · rw [List.getElem?_eq_none (by rw [List.length_set, mxL_length]; omega), List.getElem?_eq_none (by rw [mxL_length]; omega)]
theorem rd_rowL {p : Nat} (f : Nat → GfM.F) {j : Nat} (hj : j < p) : rd (rowL p f) (j : Int) = ((f j).toNat : Int) := by
  unfold rd
  rw [Int.toNat_natCast, rowL_get p f j hj]
/-! ### any k rows of the unit with parity's matrix below it -/
def allX (k : Nat) : GfM.Mx := fun i j => if i < k then GfM.idm i j else cauX k (i - k) j
theorem sumN_range (f : Nat → GfM.F) : ∀ n : Nat, GfM.sumN n f = GfM.sumL (List.range n) f := by
  have app : ∀ (l : List Nat) (x : Nat), GfM.sumL (l ++ [x]) f = GfM.sumL l f ^^^ f x := by
    intro l x
    induction l with
    | nil => simp [GfM.sumL]
    | cons a l ih => rw [List.cons_append, GfM.sumL_cons, GfM.sumL_cons, ih, BitVec.xor_assoc]
  intro n
  induction n with
  | zero => rfl
  | succ n ih => rw [GfM.sumN, ih, List.range_succ, app]
theorem sumL_filter (f : Nat → GfM.F) (p : Nat → Bool) (l : List Nat) (h : ∀ x ∈ l, p x = false → f x = 0#8) : GfM.sumL (l.filter p) f = GfM.sumL l f := by
  induction l with
  | nil => rfl
  | cons a l ih =>
    have ih' := ih (fun x hx => h x (List.mem_cons_of_mem _ hx))
    rw [GfM.sumL_cons, List.filter_cons]
    by_cases e : p a = true
    · rw [if_pos e, GfM.sumL_cons, ih']
    · rw [if_neg e, ih', h a List.mem_cons_self (by simpa using e)]; simp
theorem ofNat_inj8 {a b : Nat} (ha : a < 256) (hb : b < 256) (h : BitVec.ofNat 8 a = BitVec.ofNat 8 b) : a = b := by
  have := congrArg BitVec.toNat h
  rwa [BitVec.toNat_ofNat, BitVec.toNat_ofNat, Nat.mod_eq_of_lt ha, Nat.mod_eq_of_lt hb] at this
theorem any_inj {k m : Nat} (h : k + m ≤ 255) {R : List Nat} (hl : R.length = k) (hn : R.Nodup) (hr : ∀ x ∈ R, x < k + m) : GfM.Inj k (fun i c => allX k (R.getD i 0) c) := by
  intro v hv
  have hx : ∀ x ∈ R, GfM.sumN k (fun c => GfM.mul (allX k x c) (v c)) = 0#8 := by
    intro x hx
    obtain ⟨i, hi, e⟩ := List.mem_iff_getElem.1 hx
    have h3 : R.getD i 0 = x := by rw [List.getD_eq_getElem?_getD, List.getElem?_eq_getElem hi]; exact e
    have := hv i (by omega)
    unfold GfM.mm at this
    simp only [h3] at this
    exact this
  have hu : ∀ j, j < k → j ∈ R → v j = 0#8 := by
    intro j hj hjR
    have := hx j hjR
    have e : GfM.sumN k (fun c => GfM.mul (allX k j c) (v c)) = GfM.mm k GfM.idm (fun c _ => v c) j 0 := by
      unfold GfM.mm
      exact GfM.sumN_congr fun c _ => by unfold allX; rw [if_pos hj]
    rw [e, GfM.mm_id_left hj] at this
    exact this
  have hc1 : ((R.filter (fun x => decide (k ≤ x))).map (BitVec.ofNat 8)).length = ((List.range k).filter (fun j => decide (j ∉ R))).length := by
    rw [List.length_map]
    have p1 := (List.filter_append_perm (fun x => decide (k ≤ x)) R).length_eq
    have p2 := (List.filter_append_perm (fun j => decide (j ∉ R)) (List.range k)).length_eq
    rw [List.length_append] at p1 p2
    rw [List.length_range] at p2
    have p3 : (R.filter (fun x => !decide (k ≤ x))).Perm ((List.range k).filter (fun j => !decide (j ∉ R))) := by
      refine (List.perm_ext_iff_of_nodup (hn.sublist List.filter_sublist) (List.nodup_range.sublist List.filter_sublist)).2 fun a => ?_
      simp only [List.mem_filter, List.mem_range, Bool.not_eq_true', decide_eq_false_iff_not, Decidable.not_not]
      constructor
      · rintro ⟨h1, h2⟩; exact ⟨by omega, h1⟩
      · rintro ⟨h1, h2⟩; exact ⟨h2, by omega⟩
    have := p3.length_eq
    omega
  have hY := GfM.cauchy_zero ((R.filter (fun x => decide (k ≤ x))).map (BitVec.ofNat 8)) ((List.range k).filter (fun j => decide (j ∉ R))) (fun j => BitVec.ofNat 8 j) v hc1 ?_ ?_ ?_ ?_
  · intro j hj
    by_cases hjR : j ∈ R
    · exact hu j hj hjR
    · exact hY j (by simp [hj, hjR])
  · have h1 : (R.filter (fun x => decide (k ≤ x))).Nodup := hn.sublist List.filter_sublist
    refine List.pairwise_map.2 (List.Pairwise.imp_of_mem ?_ h1)
    intro a b ha hb hne e
    have ha' := hr a (List.mem_filter.1 ha).1
    have hb' := hr b (List.mem_filter.1 hb).1
    exact hne (ofNat_inj8 (by omega) (by omega) e)
  · have h1 : ((List.range k).filter (fun j => decide (j ∉ R))).Nodup := List.nodup_range.sublist List.filter_sublist
    refine List.Pairwise.imp_of_mem ?_ h1
    intro a b ha hb hne e
    have ha' := List.mem_range.1 (List.mem_filter.1 ha).1
    have hb' := List.mem_range.1 (List.mem_filter.1 hb).1
    exact hne (ofNat_inj8 (by omega) (by omega) e)
  · intro x hxm j hj e
    obtain ⟨r, hr1, rfl⟩ := List.mem_map.1 hxm
    have h1 := List.mem_filter.1 hr1
    have h2 := hr r h1.1
    have h3 : k ≤ r := by simpa using h1.2
    have h4 := List.mem_range.1 (List.mem_filter.1 hj).1
    have := ofNat_inj8 (by omega) (by omega) e
    omega
  · intro x hxm
    obtain ⟨r, hr1, rfl⟩ := List.mem_map.1 hxm
    have h1 := List.mem_filter.1 hr1
    have h2 := hr r h1.1
    have h3 : k ≤ r := by simpa using h1.2
    have h5 := hx r h1.1
    rw [sumL_filter, ← sumN_range]
    · rw [← h5]
      refine GfM.sumN_congr fun c _ => ?_
      unfold allX cauX
      rw [if_neg (by omega), show k + (r - k) = r from by omega, GfM.mul_comm]
    · intro j hj hp
      have hjR : j ∈ R := by simpa using hp
      rw [hu j (List.mem_range.1 hj) hjR, GfM.zero_mul]
/-- Any k rows, each once, have an inverse. -/
theorem any_inv {k m : Nat} (h1 : 1 ≤ k) (h : k + m ≤ 255) {rows : List Int} (hl : rows.length = k) (hn : rows.Nodup) (hr : ∀ x ∈ rows, 0 ≤ x ∧ x < ((k + m : Nat) : Int)) : ∃ X, GfM.invX k (fun i c => allX k (rows.getD i 0).toNat c) = some X := by
  apply GfM.inv_of_inj
  have hi := any_inj h (R := rows.map Int.toNat) (by rw [List.length_map]; exact hl) (List.pairwise_map.2 (List.Pairwise.imp_of_mem (fun ha hb hne e => hne (by have := hr _ ha; have := hr _ hb; omega)) hn)) (by
    intro x hx
    obtain ⟨y, hy, rfl⟩ := List.mem_map.1 hx
    have := hr y hy
    omega)
  have e : (fun i c => allX k ((rows.map Int.toNat).getD i 0) c) = (fun i c => allX k (rows.getD i 0).toNat c) := by
    funext i c
    congr 1
    rw [List.getD_eq_getElem?_getD, List.getD_eq_getElem?_getD, List.getElem?_map]
    cases rows[i]? <;> rfl
  rwa [e] at hi
theorem all_mxL (k m : Nat) : mxL k k GfM.idm ++ mxL m k (cauX k) = mxL (k + m) k (allX k) := by
  apply List.ext_getElem?
  intro i
  by_cases h1 : i < k
  · rw [List.getElem?_append_left (by rw [mxL_length]; exact h1), mxL_get _ _ _ i h1, mxL_get _ _ _ i (by omega)]
    exact congrArg some (rowL_congr fun j _ => by unfold allX; rw [if_pos h1])
  · rw [List.getElem?_append_right (by rw [mxL_length]; omega), mxL_length]
    by_cases h2 : i < k + m
    · rw [mxL_get _ _ _ (i - k) (by omega), mxL_get _ _ _ i h2]
      exact congrArg some (rowL_congr fun j _ => by unfold allX; rw [if_neg h1])
    · rw [List.getElem?_eq_none (by rw [mxL_length]; omega), List.getElem?_eq_none (by rw [mxL_length]; omega)]
/-! ### rs over plain matrices -/
theorem bytesOf_isB (s : ByteArray) : ∀ x ∈ bytesOf s, isB x := by
  intro x hx
  simp only [bytesOf, List.mem_map] at hx
  obtain ⟨b, _, rfl⟩ := hx
  have := b.toNat_lt
  exact ⟨by omega, by omega⟩
theorem son_bytesOf (s : ByteArray) : strOfNums (bytesOf s) = s := by
  have : (strOfNums (bytesOf s)).data.toList = s.data.toList := by
    unfold strOfNums bytesOf
    simp only [List.map_map]
    conv => rhs; rw [← List.map_id s.data.toList]
    apply List.map_congr_left
    intro x hx
    simp
  cases s with
  | mk d =>
    cases h : strOfNums (bytesOf ⟨d⟩) with
    | mk e =>
      rw [h] at this
      exact congrArg ByteArray.mk (Array.toList_inj.1 this)
/-- Pieces of p bytes each. -/
def mxS (n p : Nat) (A : GfM.Mx) : List ByteArray := (List.range n).map fun i => strX p (A i)
theorem mxS_length (n p : Nat) (A : GfM.Mx) : (mxS n p A).length = n := by simp [mxS]
theorem mxS_get (n p : Nat) (A : GfM.Mx) (i : Nat) (hi : i < n) : (mxS n p A)[i]? = some (strX p (A i)) := by simp [mxS, hi]
theorem strX_congr {p : Nat} {f f' : Nat → GfM.F} (h : ∀ j, j < p → f j = f' j) : strX p f = strX p f' := by unfold strX; rw [rowL_congr h]
theorem mxS_congr {n p : Nat} {A A' : GfM.Mx} (h : ∀ i, i < n → ∀ j, j < p → A i j = A' i j) : mxS n p A = mxS n p A' := by
  unfold mxS
  apply List.map_congr_left
  intro i hi
  exact strX_congr (h i (List.mem_range.1 hi))
theorem rdS {n p : Nat} (A : GfM.Mx) {i : Nat} (hi : i < n) : rdOf ByteArray.empty (mxS n p A) (i : Int) = strX p (A i) := by
  unfold rdOf
  rw [Int.toNat_natCast, List.getD_eq_getElem?_getD, mxS_get n p A i hi]; rfl
theorem rdOf_nat (l : List ByteArray) (i : Nat) : rdOf ByteArray.empty l (i : Int) = l.getD i ByteArray.empty := by unfold rdOf; rw [Int.toNat_natCast]
/-- Pieces as a matrix. -/
def toB (l : List ByteArray) : GfM.Mx := fun i j => el ((bytesOf (l.getD i ByteArray.empty)).getD j 0)
theorem strX_back (s : ByteArray) (f : Nat → GfM.F) (h : ∀ j, j < s.size → f j = el ((bytesOf s).getD j 0)) : strX s.size f = s := by
  unfold strX
  have e : bytesOf s = rowL s.size f := rowL_ext (bytesOf_length s) (fun j hj => by
    have hm : (bytesOf s).getD j 0 ∈ bytesOf s := by rw [List.getD_eq_getElem?_getD, List.getElem?_eq_getElem (by rw [bytesOf_length]; exact hj)]; exact List.getElem_mem _
    have := bytesOf_isB s _ hm
    rw [h j hj]
    exact (el_back this.1 this.2).symm)
  rw [← e, son_bytesOf]
theorem mxS_toB {l : List ByteArray} {p : Nat} (h : ∀ s ∈ l, s.size = p) : mxS l.length p (toB l) = l := by
  apply List.ext_getElem?
  intro i
  by_cases hi : i < l.length
  · rw [mxS_get _ _ _ i hi, List.getElem?_eq_getElem hi]
    have hs := h _ (List.getElem_mem hi)
    congr 1
    rw [← hs]
    have e : l.getD i ByteArray.empty = l[i] := by rw [List.getD_eq_getElem?_getD, List.getElem?_eq_getElem hi]; rfl
    exact strX_back _ _ (fun j _ => by unfold toB; rw [e])
  · rw [List.getElem?_eq_none (by rw [mxS_length]; omega), List.getElem?_eq_none (by omega)]
theorem rscheck (a0 a1 : Int) : rs_Check.f a0 a1 = some (if 1 ≤ a0 ∧ a0 ≤ 255 ∧ 0 ≤ a1 ∧ a1 ≤ 255 - a0 then 0 else 1) := by
  unfold rs_Check.f
  by_cases h1 : a0 < 1
  · rw [if_pos h1, if_neg (by omega)]
  · rw [if_neg h1]
    by_cases h2 : a1 < 0
    · rw [if_pos h2, if_neg (by omega)]
    · rw [if_neg h2]
      by_cases h3 : a0 > 255
      · rw [if_pos h3, if_neg (by omega)]
      · rw [if_neg h3]
        have hw : wrap64 (255 - a0) = 255 - a0 := by unfold wrap64; omega
        rw [hw]
        by_cases h4 : a1 > 255 - a0
        · rw [if_pos h4, if_neg (by omega)]
        · rw [if_neg h4, if_pos (by omega)]
/-- Pieces are of one length, and not too long. -/
def Fits (l : List ByteArray) : Prop := ∀ s ∈ l, s.size = (l.getD 0 ByteArray.empty).size ∧ s.size ≤ 65536
instance (l : List ByteArray) : Decidable (Fits l) := by unfold Fits; infer_instance
theorem rsfits_l0 (l : List ByteArray) (hl : l.length ≤ 17592186044416) (K : Nat) : ∀ (d i : Nat), i + d = l.length → rs_fits.l0 (K + d + 1) l l (l.length : Int) (i : Int) = some (decide (∀ s ∈ l.drop i, s.size = (l.getD 0 ByteArray.empty).size ∧ s.size ≤ 65536))
  | 0, i, h => by
    have f0 : ¬ (i : Int) < (l.length : Int) := by omega
    show (if (i : Int) < (l.length : Int) then _ else some true) = _
    rw [if_neg f0, List.drop_of_length_le (by omega)]
    simp
  | d + 1, i, h => by
    have hi : i < l.length := by omega
    have f0 : (i : Int) < (l.length : Int) := by omega
    have f1 : (0 : Int) ≤ (i : Int) := by omega
    have f2 : (0 : Int) < (l.length : Int) := by omega
    have hw : wrap64 ((i : Int) + 1) = ((i + 1 : Nat) : Int) := by unfold wrap64; omega
    have ih := rsfits_l0 l hl K d (i + 1) (by omega)
    have e0 : rdOf ByteArray.empty l 0 = l.getD 0 ByteArray.empty := rdOf_nat l 0
    have ei : l.getD i ByteArray.empty = l[i] := by rw [List.getD_eq_getElem?_getD, List.getElem?_eq_getElem hi]; rfl
    rw [show K + (d + 1) + 1 = (K + d + 1) + 1 from by omega]
    generalize hF : K + d + 1 = F at ih ⊢
    unfold rs_fits.l0
    rw [if_pos f0, if_pos f1, if_pos f0, if_pos f2, rdOf_nat, e0, ei, hw, ih, List.drop_eq_getElem_cons hi]
    simp only [List.forall_mem_cons]
    by_cases h1 : l[i].size = (l.getD 0 ByteArray.empty).size
    · rw [if_pos (by omega)]
      by_cases h2 : l[i].size > 65536
      · rw [if_pos (by omega)]
        congr 1
        exact (decide_eq_false (fun hh => by have := hh.1.2; omega)).symm
      · rw [if_neg (by omega)]
        congr 1
        rw [decide_eq_decide]
        exact ⟨fun hh => ⟨⟨h1, by omega⟩, hh⟩, fun hh => hh.2⟩
    · rw [if_neg (by omega)]
      congr 1
      exact (decide_eq_false (fun hh => h1 hh.1.1)).symm
theorem rsfits {l : List ByteArray} (hl : l.length ≤ 17592186044416) {k : Nat} (hk : l.length < k) : rs_fits.f k l = some (decide (Fits l)) := by
  have := rsfits_l0 l hl (k - l.length - 1) l.length 0 (by omega)
  rw [show k - l.length - 1 + l.length + 1 = k from by omega, List.drop_zero] at this
  exact this
/-! times -/
def stS (n p m : Nat) (A D : GfM.Mx) (i : Nat) : List ByteArray := (List.range n).map fun r => if r < i then strX p (GfM.mm m A D r) else ⟨#[]⟩
theorem stS_length (n p m : Nat) (A D : GfM.Mx) (i : Nat) : (stS n p m A D i).length = n := by simp [stS]
theorem stS_set (n p m : Nat) (A D : GfM.Mx) (i : Nat) (hi : i < n) : (stS n p m A D i).set i (strX p (GfM.mm m A D i)) = stS n p m A D (i + 1) := by
  apply List.ext_getElem?
  intro r
  by_cases hr : r < n
  · by_cases e : r = i
    · subst e
      rw [List.getElem?_set_self (by rw [stS_length]; exact hr)]
      simp [stS, hr]
    · rw [List.getElem?_set_ne (fun e' => e e'.symm)]
      have : (r < i + 1) = (r < i) := by apply propext; omega
      simp only [stS, List.getElem?_map, List.getElem?_range hr, Option.map_some, this]
  · rw [List.getElem?_eq_none (by rw [List.length_set, stS_length]; omega), List.getElem?_eq_none (by rw [stS_length]; omega)]
theorem putf (p : Nat) (f : Nat → GfM.F) (x : GfM.F) (s : Nat → GfM.F) (hp : p ≤ 65536) : gf_Put.f (rowL p f) (x.toNat : Int) (strX p s) = some (rowL p (fun j => f j ^^^ GfM.mul x (s j))) := by
  unfold gf_Put.f
  have hx := x.isLt
  rw [if_pos ⟨⟨by omega, by omega⟩, by rw [strX_size]; omega, by rw [rowL_length]; omega, fun y hy => by
    obtain ⟨j, _, rfl⟩ := List.mem_map.1 hy
    exact ⟨by omega, by have := (f j).isLt; omega⟩⟩, rowL_length, strX_size, Nat.min_self, strX_bytes, putL_rowL]
theorem rstimes_l {n m p : Nat} (A D : GfM.Mx) (hn : n ≤ 255) (hm : m ≤ 255) (m1 : 1 ≤ m) (hp : p ≤ 65536) :
    ∀ (d i K : Nat), i + d = n → rs_times.l0 (K + d * (m + 2) + 1) (mxS m p D) (stS n p m A D i) (mxL n m A) (n : Int) (i : Int) = some (mxS n p (GfM.mm m A D)) := by
  have l1 : ∀ (i : Nat), i < n → ∀ (d j K : Nat), j + d = m → rs_times.l1 (K + d + 1) (mxS m p D) (stS n p m A D i) (i : Int) (rowL p (GfM.mm j A D i)) (mxL n m A) (n : Int) (i : Int) (rowL m (A i)) (m : Int) (j : Int) = rs_times.l0 K (mxS m p D) (stS n p m A D (i + 1)) (mxL n m A) (n : Int) ((i + 1 : Nat) : Int) := by
    intro i hi d
    induction d with
    | zero =>
      intro j K h
      have hj : j = m := by omega
      subst hj
      have f0 : ¬ (j : Int) < (j : Int) := by omega
      have f1 : (0 : Int) ≤ (i : Int) := by omega
      have f2 : (i : Int) < ((stS n p j A D i).length : Int) := by rw [stS_length]; omega
      have hw : wrap64 ((i : Int) + 1) = ((i + 1 : Nat) : Int) := by unfold wrap64; omega
      unfold rs_times.l1
      rw [if_neg f0, if_pos f1, if_pos f2, hw, Int.toNat_natCast]
      rw [show strOfNums (rowL p (GfM.mm j A D i)) = strX p (GfM.mm j A D i) from rfl, stS_set n p j A D i hi]
    | succ d ih =>
      intro j K h
      have hj : j < m := by omega
      have f0 : (j : Int) < (m : Int) := by omega
      have f1 : (0 : Int) ≤ (j : Int) := by omega
      have hw : wrap64 ((j : Int) + 1) = ((j + 1 : Nat) : Int) := by unfold wrap64; omega
      have ih' := ih (j + 1) K (by omega)
      rw [show K + (d + 1) + 1 = (K + d + 1) + 1 from by omega]
      generalize hF : K + d + 1 = F at ih' ⊢
      unfold rs_times.l1
      rw [if_pos f0, if_pos f1]
      simp only [rowL_length, mxS_length]
      rw [if_pos f0, if_pos f0, rd_rowL _ hj, rdS D hj, putf p _ _ _ hp, hw]
      exact ih'
  intro d
  induction d with
  | zero =>
    intro i K h
    have f0 : ¬ (i : Int) < (n : Int) := by omega
    rw [Nat.zero_mul, Nat.add_zero]
    unfold rs_times.l0
    rw [if_neg f0]
    have e : stS n p m A D i = mxS n p (GfM.mm m A D) := by
      unfold stS mxS
      apply List.map_congr_left
      intro r hr
      have := List.mem_range.1 hr
      rw [if_pos (by omega)]
    rw [e]
  | succ d ih =>
    intro i K h
    have hi : i < n := by omega
    have f0 : (i : Int) < (n : Int) := by omega
    have f1 : (0 : Int) ≤ (i : Int) := by omega
    have f2 : (0 : Int) < (m : Int) := by omega
    have f3 : (0 : Int) ≤ (p : Int) := by omega
    have f4 : p ≤ 281474976710656 := by omega
    have ih' := ih (i + 1) K (by omega)
    have e := l1 i hi m 0 (K + d * (m + 2) + 1) (by omega)
    rw [ih'] at e
    have ef : K + (d + 1) * (m + 2) + 1 = (K + d * (m + 2) + 1 + m + 1) + 1 := by rw [Nat.succ_mul]; omega
    have e0 : rdOf ByteArray.empty (mxS m p D) 0 = strX p (D 0) := rdS D (i := 0) (by omega)
    have er : List.replicate p (0 : Int) = rowL p (GfM.mm 0 A D i) := rowL_ext (by simp) (fun j hj => by simp [List.getD_eq_getElem?_getD, hj]; rfl)
    rw [ef]
    generalize hF : K + d * (m + 2) + 1 + m + 1 = F at e ⊢
    unfold rs_times.l0
    simp only [mxL_length, mxS_length, e0, strX_size, Int.toNat_natCast]
    rw [if_pos f0, if_pos f1, if_pos f0, if_pos f2, if_pos f3, if_pos f4, rd_L2_mxL A hi, rowL_length, er]
    exact e
theorem rstimes {n m p : Nat} (A D : GfM.Mx) (hn : n ≤ 255) (hm : m ≤ 255) (m1 : 1 ≤ m) (hp : p ≤ 65536) {k : Nat} (hk : 70000 ≤ k) : rs_times.f k (mxL n m A) (mxS m p D) = some (mxS n p (GfM.mm m A D)) := by
  unfold rs_times.f
  have f1 : (0 : Int) ≤ (n : Int) := by omega
  have f2 : n ≤ 17592186044416 := by omega
  have e : List.replicate n (⟨#[]⟩ : ByteArray) = stS n p m A D 0 := by
    apply List.ext_getElem?
    intro r
    by_cases hr : r < n
    · simp [stS, hr]
    · rw [List.getElem?_eq_none (by simp; omega), List.getElem?_eq_none (by rw [stS_length]; omega)]
  have hb : n * (m + 2) ≤ 255 * 257 := Nat.mul_le_mul hn (by omega)
  have := rstimes_l A D hn hm m1 hp n 0 (k - n * (m + 2) - 1) (by omega)
  rw [show k - n * (m + 2) - 1 + n * (m + 2) + 1 = k from by omega] at this
  simp only [mxL_length, Int.toNat_natCast]
  rw [if_pos f1, if_pos f2, e]
  exact this
/-! parity, Encode -/
theorem rsparity {k m p : Nat} (D : GfM.Mx) (k1 : 1 ≤ k) (hkm : k + m ≤ 255) (hp : p ≤ 65536) {K : Nat} (hK : 70000 ≤ K) : rs_parity.f K (k : Int) (m : Int) (mxS k p D) = some (mxS m p (GfM.mm k (cauX k) D)) := by
  unfold rs_parity.f
  by_cases h : m = 0
  · subst h
    rw [if_pos (by rfl)]; rfl
  · rw [if_neg (by omega), cauf k m k1 (by omega) hkm]
    simp only [Option.bind_some]
    rw [rstimes (cauX k) D (by omega) (by omega) k1 hp hK]
    rfl
/-- What Encode answers, if all is right. -/
theorem rsencode_ok {k m p : Nat} (D : GfM.Mx) (k1 : 1 ≤ k) (hkm : k + m ≤ 255) (hp : p ≤ 65536) {K : Nat} (hK : 70000 ≤ K) : rs_Encode.f K (k : Int) (m : Int) (mxS k p D) = some (mxS m p (GfM.mm k (cauX k) D), 0) := by
  have hfit : Fits (mxS k p D) := by
    intro s hs
    obtain ⟨i, _, rfl⟩ := List.mem_map.1 hs
    have e : (mxS k p D).getD 0 ByteArray.empty = strX p (D 0) := by rw [List.getD_eq_getElem?_getD, mxS_get k p D 0 (by omega)]; rfl
    rw [e, strX_size, strX_size]
    exact ⟨rfl, hp⟩
  unfold rs_Encode.f
  rw [rscheck, if_pos (by omega), rsfits (by rw [mxS_length]; omega) (by rw [mxS_length]; omega), decide_eq_true hfit, rsparity D k1 hkm hp hK]
  simp only [Option.bind_some, mxS_length, if_true]
/-- Either all is right, or there is an error, and nothing. -/
theorem rsencode {a0 a1 : Int} {l : List ByteArray} (hl : l.length ≤ 17592186044416) {K : Nat} (hK : 70000 ≤ K) (hK2 : l.length < K) :
    (∃ (k m p : Nat) (D : GfM.Mx), a0 = (k : Int) ∧ a1 = (m : Int) ∧ 1 ≤ k ∧ k + m ≤ 255 ∧ p ≤ 65536 ∧ l = mxS k p D ∧ rs_Encode.f K a0 a1 l = some (mxS m p (GfM.mm k (cauX k) D), 0)) ∨ ∃ e, e ≠ 0 ∧ rs_Encode.f K a0 a1 l = some ([], e) := by
  by_cases hc : 1 ≤ a0 ∧ a0 ≤ 255 ∧ 0 ≤ a1 ∧ a1 ≤ 255 - a0
  · by_cases hlen : (l.length : Int) = a0
    · by_cases hf : Fits l
      · left
        have hne : 0 < l.length := by omega
        have hp : (l.getD 0 ByteArray.empty).size ≤ 65536 := by
          refine (hf _ ?_).2
          rw [List.getD_eq_getElem?_getD, List.getElem?_eq_getElem hne]
          exact List.getElem_mem hne
        obtain ⟨m, hm⟩ := Int.eq_ofNat_of_zero_le hc.2.2.1
        have e := mxS_toB (l := l) (p := (l.getD 0 ByteArray.empty).size) (fun s hs => (hf s hs).1)
        refine ⟨l.length, m, (l.getD 0 ByteArray.empty).size, toB l, hlen.symm, hm, by omega, by omega, hp, e.symm, ?_⟩
        have := rsencode_ok (k := l.length) (m := m) (toB l) (by omega) (by omega) hp hK
        rw [e, hlen, ← hm] at this
        exact this
      · right
        unfold rs_Encode.f
        rw [rscheck, if_pos hc, rsfits hl hK2, decide_eq_false hf]
        simp only [Option.bind_some, if_true]
        rw [if_pos hlen]
        exact ⟨2, by decide, rfl⟩
    · right
      unfold rs_Encode.f
      rw [rscheck, if_pos hc]
      simp only [Option.bind_some, if_true]
      rw [if_neg hlen]
      exact ⟨2, by decide, rfl⟩
  · right
    unfold rs_Encode.f
    rw [rscheck, if_neg hc]
    exact ⟨1, by decide, rfl⟩
/-! ### Decode -/
/-- Which pieces are there, as far as n. -/
def thereL (t : Nat → Bool) (n : Nat) : List Nat := (List.range n).filter t
theorem thereL_succ (t : Nat → Bool) (n : Nat) : thereL t (n + 1) = thereL t n ++ (if t n = true then [n] else []) := by
  unfold thereL
  rw [List.range_succ, List.filter_append]
  congr 1
  by_cases h : t n = true <;> simp [h]
theorem thereL_lt {t : Nat → Bool} {n x : Nat} (h : x ∈ thereL t n) : x < n := List.mem_range.1 (List.mem_filter.1 h).1
theorem thereL_le (t : Nat → Bool) (n : Nat) : (thereL t n).length ≤ n := by have := List.length_filter_le t (List.range n); rw [List.length_range] at this; exact this
theorem thereL_sorted (t : Nat → Bool) (n : Nat) : (thereL t n).Pairwise (· < ·) := List.Pairwise.filter t List.pairwise_lt_range
theorem sorted_step {R : List Nat} (h : R.Pairwise (· < ·)) {i j : Nat} (hj : j < R.length) (hij : i ≤ j) : R.getD i 0 + (j - i) ≤ R.getD j 0 := by
  have key : ∀ d i : Nat, i + d < R.length → R.getD i 0 + d ≤ R.getD (i + d) 0 := by
    intro d
    induction d with
    | zero => intro i _; exact Nat.le_refl _
    | succ d ih =>
      intro i hi
      have h1 := ih i (by omega)
      have h2 : R.getD (i + d) 0 < R.getD (i + (d + 1)) 0 := by
        rw [List.getD_eq_getElem?_getD, List.getD_eq_getElem?_getD, List.getElem?_eq_getElem (show i + d < R.length by omega), List.getElem?_eq_getElem hi]
        exact List.pairwise_iff_getElem.1 h (i + d) (i + (d + 1)) (by omega) hi (by omega)
      omega
  have := key (j - i) i (by omega)
  rwa [show i + (j - i) = j from by omega] at this
/-- The pieces that come in. -/
def piecesL (t : Nat → Bool) (p : Nat) (W : GfM.Mx) (n : Nat) : List S36 := (List.range n).map fun r => ⟨t r, strX p (W r)⟩
theorem piecesL_length (t : Nat → Bool) (p : Nat) (W : GfM.Mx) (n : Nat) : (piecesL t p W n).length = n := by simp [piecesL]
theorem piecesL_succ (t : Nat → Bool) (p : Nat) (W : GfM.Mx) (n : Nat) : piecesL t p W (n + 1) = piecesL t p W n ++ [⟨t n, strX p (W n)⟩] := by unfold piecesL; rw [List.range_succ, List.map_append, List.map_cons, List.map_nil]
theorem piecesL_rd (t : Nat → Bool) (p : Nat) (W : GfM.Mx) (n : Nat) {i : Nat} (hi : i < n) : rd_T36 (piecesL t p W n) (i : Int) = ⟨t i, strX p (W i)⟩ := by
  unfold rd_T36
  rw [Int.toNat_natCast, List.getD_eq_getElem?_getD]
  simp [piecesL, hi]
def haveL (t : Nat → Bool) (p : Nat) (W : GfM.Mx) (n : Nat) : List ByteArray := (thereL t n).map fun r => strX p (W r)
def placeL (t : Nat → Bool) (n : Nat) : List Int := (thereL t n).map fun (r : Nat) => (r : Int)
theorem haveL_length (t : Nat → Bool) (p : Nat) (W : GfM.Mx) (n : Nat) : (haveL t p W n).length = (thereL t n).length := by simp [haveL]
theorem placeL_length (t : Nat → Bool) (n : Nat) : (placeL t n).length = (thereL t n).length := by simp [placeL]
theorem rsthere_l0 (t : Nat → Bool) (p : Nat) (W : GfM.Mx) (n : Nat) (hn : n ≤ 255) (K : Nat) : ∀ (d i : Nat), i + d = n → rs_there.l0 (K + d + 1) (haveL t p W i) (placeL t i) (piecesL t p W n) (n : Int) (i : Int) = some (haveL t p W n, placeL t n)
  | 0, i, h => by
    have e : i = n := by omega
    subst e
    have f0 : ¬ (i : Int) < (i : Int) := by omega
    show (if (i : Int) < (i : Int) then _ else some (haveL t p W i, placeL t i)) = _
    rw [if_neg f0]
  | d + 1, i, h => by
    have hi : i < n := by omega
    have f0 : (i : Int) < (n : Int) := by omega
    have f1 : (0 : Int) ≤ (i : Int) := by omega
    have hw : wrap64 ((i : Int) + 1) = ((i + 1 : Nat) : Int) := by unfold wrap64; omega
    have ih := rsthere_l0 t p W n hn K d (i + 1) (by omega)
    have hle := thereL_le t i
    rw [show K + (d + 1) + 1 = (K + d + 1) + 1 from by omega]
    generalize hF : K + d + 1 = F at ih ⊢
    unfold rs_there.l0
    rw [if_pos f0, if_pos f1, piecesL_length, if_pos f0, piecesL_rd t p W n hi, hw]
    by_cases ht : t i = true
    · have e1 : haveL t p W (i + 1) = haveL t p W i ++ [strX p (W i)] := by unfold haveL; rw [thereL_succ, if_pos ht, List.map_append]; rfl
      have e2 : placeL t (i + 1) = placeL t i ++ [(i : Int)] := by unfold placeL; rw [thereL_succ, if_pos ht, List.map_append]; rfl
      rw [e1, e2] at ih
      simp only [ht, if_true]
      rw [if_pos (by rw [haveL_length]; omega), if_pos (by rw [placeL_length]; omega)]
      exact ih
    · have e1 : haveL t p W (i + 1) = haveL t p W i := by unfold haveL; rw [thereL_succ, if_neg ht, List.append_nil]
      have e2 : placeL t (i + 1) = placeL t i := by unfold placeL; rw [thereL_succ, if_neg ht, List.append_nil]
      rw [e1, e2] at ih
      simp only [ht, Bool.false_eq_true, if_false]
      exact ih
theorem rsthere (t : Nat → Bool) (p : Nat) (W : GfM.Mx) {n : Nat} (hn : n ≤ 255) {K : Nat} (hK : 300 ≤ K) : rs_there.f K (piecesL t p W n) = some (haveL t p W n, placeL t n) := by
  have := rsthere_l0 t p W n hn (K - n - 1) n 0 (by omega)
  rw [show K - n - 1 + n + 1 = K from by omega] at this
  unfold rs_there.f
  rw [piecesL_length]
  exact this
theorem have_take (t : Nat → Bool) (p : Nat) (W : GfM.Mx) {n k : Nat} (hk : k ≤ (thereL t n).length) : (haveL t p W n).take k = mxS k p (fun i => W ((thereL t n).getD i 0)) := by
  apply List.ext_getElem?
  intro i
  by_cases hi : i < k
  · rw [List.getElem?_take, if_pos hi, mxS_get _ _ _ i hi]
    unfold haveL
    rw [List.getElem?_map, List.getElem?_eq_getElem (by omega), List.getD_eq_getElem?_getD, List.getElem?_eq_getElem (by omega)]
    rfl
  · rw [List.getElem?_eq_none (by rw [List.length_take, haveL_length]; omega), List.getElem?_eq_none (by rw [mxS_length]; omega)]
theorem rswhole {k m : Nat} (k1 : 1 ≤ k) (hkm : k + m ≤ 255) : rs_whole.f (k : Int) (m : Int) = some (mxL (k + m) k (allX k)) := by
  unfold rs_whole.f
  rw [unitf k k1 (by omega)]
  simp only [Option.bind_some]
  by_cases h : m = 0
  · subst h
    rw [if_pos (by rfl)]
    congr 1
    exact mxL_congr fun i hi j _ => by unfold allX; rw [if_pos (by omega)]
  · rw [if_neg (by omega), cauf k m k1 (by omega) hkm]
    simp only [Option.bind_some]
    rw [if_pos (by rw [mxL_length, mxL_length]; omega), all_mxL]
/-- The data that come back of k pieces or more. -/
theorem rsdata {k m p : Nat} (t : Nat → Bool) (D : GfM.Mx) (k1 : 1 ≤ k) (hkm : k + m ≤ 255) (hp : p ≤ 65536) (hR : k ≤ (thereL t (k + m)).length) {K : Nat} (hK : 70000 ≤ K) :
    rs_data.f K (k : Int) (m : Int) (haveL t p (GfM.mm k (allX k) D) (k + m)) (placeL t (k + m)) = some (mxS k p D) := by
  have hw : wrap64 ((k : Int) - 1) = ((k - 1 : Nat) : Int) := by unfold wrap64; omega
  have hle := thereL_le t (k + m)
  have hrd : rd (placeL t (k + m)) ((k - 1 : Nat) : Int) = (((thereL t (k + m)).getD (k - 1) 0 : Nat) : Int) := by
    unfold rd placeL
    rw [Int.toNat_natCast, List.getD_eq_getElem?_getD, List.getElem?_map, List.getD_eq_getElem?_getD, List.getElem?_eq_getElem (by omega)]
    rfl
  have hs := thereL_sorted t (k + m)
  have htk := have_take t p (GfM.mm k (allX k) D) (n := k + m) hR
  unfold rs_data.f
  rw [hw, hrd, placeL_length, if_pos (by omega), if_pos (by omega), haveL_length, Int.toNat_natCast, htk]
  by_cases hc : (thereL t (k + m)).getD (k - 1) 0 = k - 1
  · rw [if_pos (by omega), if_pos (by omega), if_pos (by omega)]
    unfold slices_Clone_string_string.f
    rw [mxS_length, if_pos (by omega)]
    simp only [Option.bind_some]
    congr 1
    apply mxS_congr
    intro i hi j _
    have h1 := sorted_step hs (i := i) (j := k - 1) (by omega) (by omega)
    have h2 := sorted_step hs (i := 0) (j := i) (by omega) (by omega)
    have e : (thereL t (k + m)).getD i 0 = i := by omega
    rw [e]
    have e2 : GfM.mm k (allX k) D i j = GfM.mm k GfM.idm D i j := GfM.mm_congr (fun q _ => by unfold allX; rw [if_pos hi]) (fun _ _ => rfl)
    rw [e2, GfM.mm_id_left hi]
  · rw [if_neg (by omega), rswhole k1 hkm]
    simp only [Option.bind_some]
    have hlen : ((placeL t (k + m)).take k).length = k := by rw [List.length_take, placeL_length]; omega
    have hmem : ∀ x ∈ (placeL t (k + m)).take k, 0 ≤ x ∧ x < ((k + m : Nat) : Int) := by
      intro x hx
      obtain ⟨r, hr, rfl⟩ := List.mem_map.1 (List.mem_of_mem_take hx)
      have := thereL_lt hr
      omega
    have hnd : ((placeL t (k + m)).take k).Nodup := by
      refine List.Nodup.sublist (List.take_sublist _ _) ?_
      exact List.pairwise_map.2 (List.Pairwise.imp (fun hlt e => by omega) hs)
    have hget : ∀ i, i < k → (((placeL t (k + m)).take k).getD i 0).toNat = (thereL t (k + m)).getD i 0 := by
      intro i hi
      rw [List.getD_eq_getElem?_getD, List.getElem?_take, if_pos hi]
      unfold placeL
      rw [List.getElem?_map, List.getD_eq_getElem?_getD, List.getElem?_eq_getElem (show i < (thereL t (k + m)).length by omega)]
      rfl
    obtain ⟨X, hX⟩ := any_inv k1 hkm hlen hnd hmem
    rw [if_pos (by omega), if_pos (by omega), rowsf (allX k) (by omega) hkm k1 (by omega) _ (by omega) (by omega) hmem]
    simp only [Option.bind_some, hlen]
    rw [invf_some k1 (by omega) hX]
    simp only [Option.bind_some]
    rw [if_pos (by omega), rstimes X _ (by omega) (by omega) k1 hp hK]
    simp only [Option.bind_some]
    congr 1
    apply mxS_congr
    intro i hi j _
    have hl := GfM.inv_left hX
    have e1 : GfM.mm k X (fun i => GfM.mm k (allX k) D ((thereL t (k + m)).getD i 0)) i j = GfM.mm k X (GfM.mm k (fun i c => allX k (((placeL t (k + m)).take k).getD i 0).toNat c) D) i j := by
      refine GfM.mm_congr (fun _ _ => rfl) (fun q hq => ?_)
      unfold GfM.mm
      simp only [hget q hq]
    rw [e1, ← GfM.mm_assoc, GfM.mm_congr (A' := GfM.idm) (B' := D) (fun q hq => hl i hi q hq) (fun _ _ => rfl), GfM.mm_id_left hi]
theorem all_mxS (k m p : Nat) (D : GfM.Mx) : mxS k p D ++ mxS m p (GfM.mm k (cauX k) D) = mxS (k + m) p (GfM.mm k (allX k) D) := by
  apply List.ext_getElem?
  intro i
  by_cases h1 : i < k
  · rw [List.getElem?_append_left (by rw [mxS_length]; exact h1), mxS_get _ _ _ i h1, mxS_get _ _ _ i (by omega)]
    congr 1
    apply strX_congr
    intro j _
    have e2 : GfM.mm k (allX k) D i j = GfM.mm k GfM.idm D i j := GfM.mm_congr (fun q _ => by unfold allX; rw [if_pos h1]) (fun _ _ => rfl)
    rw [e2, GfM.mm_id_left h1]
  · rw [List.getElem?_append_right (by rw [mxS_length]; omega), mxS_length]
    by_cases h2 : i < k + m
    · rw [mxS_get _ _ _ (i - k) (by omega), mxS_get _ _ _ i h2]
      congr 1
      apply strX_congr
      intro j _
      unfold GfM.mm
      exact GfM.sumN_congr fun q _ => by unfold allX; rw [if_neg h1]
    · rw [List.getElem?_eq_none (by rw [mxS_length]; omega), List.getElem?_eq_none (by rw [mxS_length]; omega)]
theorem rsdec_j0 (k : Nat) (x0 x1 : Int) (x9 : List ByteArray) (x10 : List Int) (x23 : Bool) : rs_Decode.j0 (k + 1) x0 x1 x9 x10 x23 = if x23 = true then (some (([] : List ByteArray), 2)) else (if (x9.length : Int) < x0 then (some (([] : List ByteArray), 10)) else ((rs_data.f k x0 x1 x9 x10).bind fun t508 => ((rs_parity.f k x0 x1 t508).bind fun t511 => (if t508.length + t511.length < 8796093022208 then (some ((t508 ++ t511), 0)) else (none))))) := rfl
/-- What Decode answers of a stripe's pieces. -/
theorem rsdecode {k m p : Nat} (t : Nat → Bool) (D : GfM.Mx) (k1 : 1 ≤ k) (hkm : k + m ≤ 255) (hp : p ≤ 65536) {K : Nat} (hK : 70001 ≤ K) :
    rs_Decode.f K (k : Int) (m : Int) (piecesL t p (GfM.mm k (allX k) D) (k + m)) = some (if (thereL t (k + m)).length < k then ([], 10) else (mxS (k + m) p (GfM.mm k (allX k) D), 0)) := by
  obtain ⟨F, rfl⟩ : ∃ F, K = F + 1 := ⟨K - 1, by omega⟩
  have hw : wrap64 ((k : Int) + (m : Int)) = ((k + m : Nat) : Int) := by unfold wrap64; omega
  have hle := thereL_le t (k + m)
  have hfit : Fits (haveL t p (GfM.mm k (allX k) D) (k + m)) := by
    have hsz : ∀ s ∈ haveL t p (GfM.mm k (allX k) D) (k + m), s.size = p := by
      intro s hs
      obtain ⟨r, _, rfl⟩ := List.mem_map.1 hs
      exact strX_size _ _
    intro s hs
    have h0 : ((haveL t p (GfM.mm k (allX k) D) (k + m)).getD 0 ByteArray.empty).size = p := by
      apply hsz
      have : 0 < (haveL t p (GfM.mm k (allX k) D) (k + m)).length := List.length_pos_of_mem hs
      rw [List.getD_eq_getElem?_getD, List.getElem?_eq_getElem this]
      exact List.getElem_mem this
    rw [h0, hsz s hs]
    exact ⟨rfl, hp⟩
  unfold rs_Decode.f
  rw [rscheck, if_pos (by omega), rsthere t p _ hkm (by omega), hw, piecesL_length]
  simp only [Option.bind_some, if_true]
  rw [rsfits (by rw [haveL_length]; omega) (by rw [haveL_length]; omega), decide_eq_true hfit]
  simp only [Option.bind_some, Bool.not_true]
  rw [rsdec_j0, if_neg (by decide), haveL_length]
  by_cases hlt : (thereL t (k + m)).length < k
  · rw [if_pos (by omega), if_pos hlt]
  · rw [if_neg (by omega), if_neg hlt, rsdata t D k1 hkm hp (by omega) (by omega)]
    simp only [Option.bind_some]
    rw [rsparity D k1 hkm hp (by omega)]
    simp only [Option.bind_some, mxS_length]
    rw [if_pos (by omega), all_mxS]
theorem rsequal_l0 (l : List ByteArray) (hl : l.length ≤ 1000) (K : Nat) : ∀ (d i : Nat), i + d = l.length → slices_Equal_string_string.l0 (K + d + 1) l l (l.length : Int) (i : Int) = some true
  | 0, i, h => by
    have f0 : ¬ (i : Int) < (l.length : Int) := by omega
    unfold slices_Equal_string_string.l0
    rw [if_neg f0]
  | d + 1, i, h => by
    have f0 : (i : Int) < (l.length : Int) := by omega
    have f1 : (0 : Int) ≤ (i : Int) := by omega
    have hw : wrap64 ((i : Int) + 1) = ((i + 1 : Nat) : Int) := by unfold wrap64; omega
    have ih := rsequal_l0 l hl K d (i + 1) (by omega)
    rw [show K + (d + 1) + 1 = (K + d + 1) + 1 from by omega]
    generalize hF : K + d + 1 = F at ih ⊢
    unfold slices_Equal_string_string.l0
    rw [if_pos f0, if_pos f1, if_pos f0, if_pos f0, if_pos rfl, hw]
    exact ih
theorem rsequal {l : List ByteArray} (hl : l.length ≤ 1000) {K : Nat} (hK : 2000 ≤ K) : slices_Equal_string_string.f K l l = some true := by
  have := rsequal_l0 l hl (K - l.length - 1) l.length 0 (by omega)
  rw [show K - l.length - 1 + l.length + 1 = K from by omega] at this
  unfold slices_Equal_string_string.f
  rw [if_pos rfl]
  exact this
theorem rsgood_j0 (k : Nat) (x0 x1 : Int) (x2 : List ByteArray) (x20 : Bool) : rs_Good.j0 (k + 1) x0 x1 x2 x20 = if x20 = true then (some false) else (if 0 ≤ x0 then (if x0 ≤ (x2.length : Int) then ((rs_Encode.f k x0 x1 (x2.take (x0 : Int).toNat)).bind fun bt454 => (if bt454.2 = 0 then ((slices_Equal_string_string.f k bt454.1 (x2.drop (x0 : Int).toNat)).bind fun t459 => (some t459)) else (some false))) else (none)) else (none)) := rfl
theorem rsgood {k m p : Nat} (D : GfM.Mx) (k1 : 1 ≤ k) (hkm : k + m ≤ 255) (hp : p ≤ 65536) {K : Nat} (hK : 70001 ≤ K) : rs_Good.f K (k : Int) (m : Int) (mxS (k + m) p (GfM.mm k (allX k) D)) = some true := by
  obtain ⟨F, rfl⟩ : ∃ F, K = F + 1 := ⟨K - 1, by omega⟩
  have hw : wrap64 ((k : Int) + (m : Int)) = ((k + m : Nat) : Int) := by unfold wrap64; omega
  have hlen : (mxS (k + m) p (GfM.mm k (allX k) D)).length = k + m := mxS_length _ _ _
  have f1 : (0 : Int) ≤ (k : Int) := by omega
  have f2 : (k : Int) ≤ ((k + m : Nat) : Int) := by omega
  unfold rs_Good.f
  rw [rscheck, if_pos (by omega), hw, hlen]
  simp only [Option.bind_some, if_true, bne_self_eq_false]
  rw [rsgood_j0, if_neg (by decide), hlen, if_pos f1, if_pos f2, Int.toNat_natCast, ← all_mxS, List.take_left' (mxS_length k p D), List.drop_left' (mxS_length k p D), rsencode_ok D k1 hkm hp (by omega)]
  simp only [Option.bind_some, if_true]
  rw [rsequal (by rw [mxS_length]; omega) (by omega)]
  rfl
theorem slv_j0 (k : Nat) (x0 : Int) (x1 : Int) (x2 : List ByteArray) (x3 : List Bool) (x56 : Bool) : caulktop_TopSolved.j0 (k + 1) x0 x1 x2 x3 x56 = if x56 = true then (some true) else (caulktop_TopSolved.l0 k x0 x1 x2 x3 x2 (x2.length : Int) 0) := rfl
theorem slv_l0 (k : Nat) (x0 : Int) (x1 : Int) (x2 : List ByteArray) (x3 : List Bool) (x57 : List ByteArray) (x58 : Int) (x59 : Int) : caulktop_TopSolved.l0 (k + 1) x0 x1 x2 x3 x57 x58 x59 = if x59 < x58 then (if 0 ≤ x59 then (if x59 < (x57.length : Int) then (if ((rdOf ByteArray.empty x57 x59).size : Int) > 1024 then (some true) else (caulktop_TopSolved.l0 k x0 x1 x2 x3 x57 x58 (wrap64 (x59 + 1)))) else (none)) else (none)) else ((rs_Encode.f k x0 x1 x2).bind fun bt224 => (if bt224.2 = 0 then ((some (([] : List ByteArray) : List ByteArray)).bind fun y228 => (if y228.length + x2.length < 8796093022208 then ((some (y228 ++ x2 : List ByteArray)).bind fun y231 => (if y231.length + bt224.1.length < 8796093022208 then ((some (y231 ++ bt224.1 : List ByteArray)).bind fun y234 => ((matrix_Unit.f x0).bind fun bt237 => ((matrix_Cauchy.f x0 x1).bind fun bt241 => ((some (([] : List (List Int)) : List (List Int))).bind fun y245 => (if y245.length + bt237.1.length < 5864062014805 then ((some (y245 ++ bt237.1 : List (List Int))).bind fun y248 => (if y248.length + bt241.1.length < 5864062014805 then (caulktop_TopSolved.l1 k x0 x1 x2 x3 y234 (y248 ++ bt241.1) ([] : List Int) ([] : List (S36)) y234 (y234.length : Int) 0) else (none))) else (none)))))) else (none))) else (none))) else (some (bt224.2 == 2)))) := rfl
theorem slv_l1 (k : Nat) (x0 : Int) (x1 : Int) (x2 : List ByteArray) (x3 : List Bool) (x13 : List ByteArray) (x18 : List (List Int)) (x19 : List Int) (x20 : List (S36)) (x99 : List ByteArray) (x100 : Int) (x101 : Int) : caulktop_TopSolved.l1 (k + 1) x0 x1 x2 x3 x13 x18 x19 x20 x99 x100 x101 = if x101 < x100 then (if 0 ≤ x101 then (if x101 < (x99.length : Int) then (if x101 ≥ (x3.length : Int) then (if x20.length < 5864062014805 then ((some (x20 ++ [(⟨true, rdOf ByteArray.empty x99 x101⟩ : S36)] : List (S36))).bind fun y255 => (if (x19.length : Int) < x0 then (if x19.length < 17592186044416 then (caulktop_TopSolved.l1 k x0 x1 x2 x3 x13 x18 (x19 ++ [x101]) y255 x99 x100 (wrap64 (x101 + 1))) else (none)) else (caulktop_TopSolved.l1 k x0 x1 x2 x3 x13 x18 x19 y255 x99 x100 (wrap64 (x101 + 1))))) else (none)) else (if x101 < (x3.length : Int) then (if x20.length < 5864062014805 then ((some (x20 ++ [(⟨!(rdOf false x3 x101), rdOf ByteArray.empty x99 x101⟩ : S36)] : List (S36))).bind fun y262 => (if rdOf false x3 x101 = true then (caulktop_TopSolved.l1 k x0 x1 x2 x3 x13 x18 x19 y262 x99 x100 (wrap64 (x101 + 1))) else (if (x19.length : Int) < x0 then (if x19.length < 17592186044416 then (caulktop_TopSolved.l1 k x0 x1 x2 x3 x13 x18 (x19 ++ [x101]) y262 x99 x100 (wrap64 (x101 + 1))) else (none)) else (caulktop_TopSolved.l1 k x0 x1 x2 x3 x13 x18 x19 y262 x99 x100 (wrap64 (x101 + 1)))))) else (none)) else (none))) else (none)) else (none)) else ((rs_Decode.f k x0 x1 x20).bind fun bt268 => (if (x19.length : Int) < x0 then (some (bt268.2 == 10)) else ((matrix_Rows.f x18 x19).bind fun bt272 => ((matrix_Invert.f bt272.1).bind fun bt276 => (if bt268.2 = 0 then (if bt272.2 = 0 then (if bt276.2 = 0 then (caulktop_TopSolved.j3 k x0 x1 x2 x13 x19 bt268.1 bt276.1 ((bt268.1.length : Int) != (wrap64 (x0 + x1)))) else (caulktop_TopSolved.j3 k x0 x1 x2 x13 x19 bt268.1 bt276.1 true)) else (caulktop_TopSolved.j3 k x0 x1 x2 x13 x19 bt268.1 bt276.1 true)) else (caulktop_TopSolved.j3 k x0 x1 x2 x13 x19 bt268.1 bt276.1 true)))))) := rfl
theorem slv_j3 (k : Nat) (x0 : Int) (x1 : Int) (x2 : List ByteArray) (x13 : List ByteArray) (x19 : List Int) (x24 : List ByteArray) (x28 : List (List Int)) (x176 : Bool) : caulktop_TopSolved.j3 (k + 1) x0 x1 x2 x13 x19 x24 x28 x176 = if x176 = true then (none) else (caulktop_TopSolved.l2 k x0 x1 x2 x13 x19 x24 x28 (x28.length : Int) 0) := rfl
theorem slv_l2 (k : Nat) (x0 : Int) (x1 : Int) (x2 : List ByteArray) (x13 : List ByteArray) (x19 : List Int) (x24 : List ByteArray) (x177 : List (List Int)) (x178 : Int) (x179 : Int) : caulktop_TopSolved.l2 (k + 1) x0 x1 x2 x13 x19 x24 x177 x178 x179 = if x179 < x178 then (if 0 ≤ x179 then (if x179 < (x177.length : Int) then (if 0 < (x2.length : Int) then (if 0 ≤ ((rdOf ByteArray.empty x2 0).size : Int) then (if (((rdOf ByteArray.empty x2 0).size : Int) : Int).toNat ≤ 281474976710656 then (caulktop_TopSolved.l3 k x0 x1 x2 x13 x19 x24 x179 (List.replicate (((rdOf ByteArray.empty x2 0).size : Int) : Int).toNat 0) x177 x178 x179 (rd_L2 x177 x179) ((rd_L2 x177 x179).length : Int) 0) else (none)) else (none)) else (none)) else (none)) else (none)) else ((rs_Good.f k x0 x1 x24).bind fun t280 => (some t280)) := rfl
theorem slv_l3 (k : Nat) (x0 : Int) (x1 : Int) (x2 : List ByteArray) (x13 : List ByteArray) (x19 : List Int) (x24 : List ByteArray) (x30 : Int) (x32 : List Int) (x177 : List (List Int)) (x178 : Int) (x179 : Int) (x189 : List Int) (x190 : Int) (x191 : Int) : caulktop_TopSolved.l3 (k + 1) x0 x1 x2 x13 x19 x24 x30 x32 x177 x178 x179 x189 x190 x191 = if x191 < x190 then (if 0 ≤ x191 then (if x191 < (x189.length : Int) then (if x191 < (x19.length : Int) then (if 0 ≤ (rd x19 x191) then (if (rd x19 x191) < (x13.length : Int) then ((gf_Put.f x32 (rd x189 x191) (rdOf ByteArray.empty x13 (rd x19 x191))).bind fun t289 => (caulktop_TopSolved.l3 k x0 x1 x2 x13 x19 x24 x30 t289 x177 x178 x179 x189 x190 (wrap64 (x191 + 1)))) else (none)) else (none)) else (none)) else (none)) else (none)) else (if 0 ≤ x30 then (if x30 < (x24.length : Int) then (if (strOfNums x32).toList = (rdOf ByteArray.empty x24 x30).toList then (if x30 < (x2.length : Int) then (if (rdOf ByteArray.empty x24 x30).toList = (rdOf ByteArray.empty x2 x30).toList then (caulktop_TopSolved.l2 k x0 x1 x2 x13 x19 x24 x177 x178 (wrap64 (x179 + 1))) else (none)) else (none)) else (none)) else (none)) else (none)) := rfl
theorem begins_eq : caulktop_begins.f = some true := by decide +kernel
def isThere (lost : List Bool) (r : Nat) : Bool := if r < lost.length then !(lost.getD r false) else true
theorem rsencode2 {k m : Nat} {l : List ByteArray} (hlen : l.length = k) (k1 : 1 ≤ k) (hkm : k + m ≤ 255) {K : Nat} (hK : 70000 ≤ K) (hK2 : l.length < K) :
    (∃ (p : Nat) (D : GfM.Mx), p ≤ 65536 ∧ l = mxS k p D ∧ rs_Encode.f K (k : Int) (m : Int) l = some (mxS m p (GfM.mm k (cauX k) D), 0)) ∨ rs_Encode.f K (k : Int) (m : Int) l = some ([], 2) := by
  by_cases hf : Fits l
  · left
    have hne : 0 < l.length := by omega
    have hp : (l.getD 0 ByteArray.empty).size ≤ 65536 := by
      refine (hf _ ?_).2
      rw [List.getD_eq_getElem?_getD, List.getElem?_eq_getElem hne]
      exact List.getElem_mem hne
    have e := mxS_toB (l := l) (p := (l.getD 0 ByteArray.empty).size) (fun s hs => (hf s hs).1)
    rw [hlen] at e
    refine ⟨(l.getD 0 ByteArray.empty).size, toB l, hp, e.symm, ?_⟩
    have := rsencode_ok (k := k) (m := m) (toB l) k1 hkm hp hK
    rw [e] at this
    exact this
  · right
    unfold rs_Encode.f
    rw [rscheck, if_pos (by omega), rsfits (by omega) hK2, decide_eq_false hf]
    simp only [Option.bind_some, if_true]
    rw [if_pos (by omega)]
    rfl
/-! the sizes -/
theorem slv_sizes (x0 x1 : Int) (l : List ByteArray) (x3 : List Bool) (hl : l.length ≤ 12) (K : Nat) : ∀ (d i : Nat), i + d = l.length →
    caulktop_TopSolved.l0 (K + d + 1) x0 x1 l x3 l (l.length : Int) (i : Int) = some true ∨ caulktop_TopSolved.l0 (K + d + 1) x0 x1 l x3 l (l.length : Int) (i : Int) = caulktop_TopSolved.l0 (K + 1) x0 x1 l x3 l (l.length : Int) (l.length : Int)
  | 0, i, h => by
    have e : i = l.length := by omega
    subst e
    exact .inr rfl
  | d + 1, i, h => by
    have f0 : (i : Int) < (l.length : Int) := by omega
    have f1 : (0 : Int) ≤ (i : Int) := by omega
    have hw : wrap64 ((i : Int) + 1) = ((i + 1 : Nat) : Int) := by unfold wrap64; omega
    have ih := slv_sizes x0 x1 l x3 hl K d (i + 1) (by omega)
    rw [show K + (d + 1) + 1 = (K + d + 1) + 1 from by omega, slv_l0 (K + d + 1), if_pos f0, if_pos f1, if_pos f0, hw]
    by_cases hs : ((rdOf ByteArray.empty l (i : Int)).size : Int) > 1024
    · rw [if_pos hs]; exact .inl rfl
    · rw [if_neg hs]; exact ih
/-! the check of the inverse -/
theorem slv_line {k m p : Nat} (D X : GfM.Mx) (R : List Int) (hR : R.length = k) (hm : ∀ x ∈ R, 0 ≤ x ∧ x < ((k + m : Nat) : Int)) (k1 : 1 ≤ k) (hkm : k + m ≤ 255) (hp : p ≤ 65536) {i : Nat} (hi : i < k)
    (hX : ∀ c, c < p → GfM.mm k X (fun q => GfM.mm k (allX k) D (R.getD q 0).toNat) i c = D i c) (K : Nat) : ∀ (d j : Nat), j + d = k →
    caulktop_TopSolved.l3 (K + d + 1) (k : Int) (m : Int) (mxS k p D) (mxS (k + m) p (GfM.mm k (allX k) D)) R (mxS (k + m) p (GfM.mm k (allX k) D)) (i : Int) (rowL p (GfM.mm j X (fun q => GfM.mm k (allX k) D (R.getD q 0).toNat) i)) (mxL k k X) (k : Int) (i : Int) (rowL k (X i)) (k : Int) (j : Int)
      = caulktop_TopSolved.l2 K (k : Int) (m : Int) (mxS k p D) (mxS (k + m) p (GfM.mm k (allX k) D)) R (mxS (k + m) p (GfM.mm k (allX k) D)) (mxL k k X) (k : Int) ((i + 1 : Nat) : Int)
  | 0, j, h => by
    have e : j = k := by omega
    subst e
    have f0 : ¬ (j : Int) < (j : Int) := by omega
    have f1 : (0 : Int) ≤ (i : Int) := by omega
    have f2 : (i : Int) < ((mxS (j + m) p (GfM.mm j (allX j) D)).length : Int) := by rw [mxS_length]; omega
    have f3 : (i : Int) < ((mxS j p D).length : Int) := by rw [mxS_length]; omega
    have hw : wrap64 ((i : Int) + 1) = ((i + 1 : Nat) : Int) := by unfold wrap64; omega
    have e2 : strX p (GfM.mm j (allX j) D i) = strX p (D i) := strX_congr fun c _ => by
      have e2 : GfM.mm j (allX j) D i c = GfM.mm j GfM.idm D i c := GfM.mm_congr (fun q _ => by unfold allX; rw [if_pos hi]) (fun _ _ => rfl)
      rw [e2, GfM.mm_id_left hi]
    have e1 : strOfNums (rowL p (GfM.mm j X (fun q => GfM.mm j (allX j) D (R.getD q 0).toNat) i)) = strX p (D i) := by
      show strX p _ = _
      exact strX_congr hX
    rw [slv_l3, if_neg f0, if_pos f1, if_pos f2, e1, rdS _ (show i < j + m by omega), e2, if_pos rfl, if_pos f3, rdS _ hi, if_pos rfl, hw]
  | d + 1, j, h => by
    have hj : j < k := by omega
    have f0 : (j : Int) < (k : Int) := by omega
    have f1 : (0 : Int) ≤ (j : Int) := by omega
    have hw : wrap64 ((j : Int) + 1) = ((j + 1 : Nat) : Int) := by unfold wrap64; omega
    have ih := slv_line D X R hR hm k1 hkm hp hi hX K d (j + 1) (by omega)
    have hmem : R.getD j 0 ∈ R := by rw [List.getD_eq_getElem?_getD, List.getElem?_eq_getElem (by omega)]; exact List.getElem_mem _
    have hb := hm _ hmem
    have er : rd R (j : Int) = (((R.getD j 0).toNat : Nat) : Int) := by unfold rd; rw [Int.toNat_natCast]; omega
    have f3 : (j : Int) < (R.length : Int) := by omega
    have f4 : (0 : Int) ≤ (((R.getD j 0).toNat : Nat) : Int) := by omega
    have f5 : (((R.getD j 0).toNat : Nat) : Int) < ((mxS (k + m) p (GfM.mm k (allX k) D)).length : Int) := by rw [mxS_length]; omega
    rw [show K + (d + 1) + 1 = (K + d + 1) + 1 from by omega, slv_l3, if_pos f0, if_pos f1, rowL_length, if_pos f0, if_pos f3, er, if_pos f4, if_pos f5, rd_rowL _ hj, rdS _ (show (R.getD j 0).toNat < k + m by omega), putf p _ _ _ hp, hw]
    exact ih
theorem slv_lines {k m p : Nat} (D X : GfM.Mx) (R : List Int) (hR : R.length = k) (hm : ∀ x ∈ R, 0 ≤ x ∧ x < ((k + m : Nat) : Int)) (k1 : 1 ≤ k) (hkm : k + m ≤ 255) (hp : p ≤ 65536)
    (hX : ∀ i, i < k → ∀ c, c < p → GfM.mm k X (fun q => GfM.mm k (allX k) D (R.getD q 0).toNat) i c = D i c) (K : Nat) (hK : 70001 ≤ K) : ∀ (d i : Nat), i + d = k →
    caulktop_TopSolved.l2 (K + d * (k + 2) + 1) (k : Int) (m : Int) (mxS k p D) (mxS (k + m) p (GfM.mm k (allX k) D)) R (mxS (k + m) p (GfM.mm k (allX k) D)) (mxL k k X) (k : Int) (i : Int) = some true
  | 0, i, h => by
    have e : i = k := by omega
    subst e
    have f0 : ¬ (i : Int) < (i : Int) := by omega
    rw [Nat.zero_mul, Nat.add_zero, slv_l2, if_neg f0, rsgood D k1 hkm hp hK]
    rfl
  | d + 1, i, h => by
    have hi : i < k := by omega
    have f0 : (i : Int) < (k : Int) := by omega
    have f1 : (0 : Int) ≤ (i : Int) := by omega
    have f2 : (0 : Int) < (k : Int) := by omega
    have f3 : (0 : Int) ≤ (p : Int) := by omega
    have f4 : p ≤ 281474976710656 := by omega
    have ih := slv_lines D X R hR hm k1 hkm hp hX K hK d (i + 1) (by omega)
    have e := slv_line D X R hR hm k1 hkm hp hi (hX i hi) (K + d * (k + 2) + 1) k 0 (by omega)
    rw [ih] at e
    have e0 : rdOf ByteArray.empty (mxS k p D) 0 = strX p (D 0) := rdS D (i := 0) (by omega)
    have er : List.replicate p (0 : Int) = rowL p (GfM.mm 0 X (fun q => GfM.mm k (allX k) D (R.getD q 0).toNat) i) := rowL_ext (by simp) (fun j hj => by simp [List.getD_eq_getElem?_getD, hj]; rfl)
    rw [show K + (d + 1) * (k + 2) + 1 = (K + d * (k + 2) + 1 + k + 1) + 1 from by rw [Nat.succ_mul]; omega]
    generalize K + d * (k + 2) + 1 + k + 1 = F at e ⊢
    rw [slv_l2, if_pos f0, if_pos f1, mxL_length, if_pos f0, mxS_length, if_pos f2, e0, strX_size, if_pos f3, Int.toNat_natCast, if_pos f4, rd_L2_mxL X hi, rowL_length, er]
    exact e
/-! the pieces -/
theorem take_step {t : Nat → Bool} {k n : Nat} (ht : t n = true) : (placeL t (n + 1)).take k = if ((placeL t n).take k).length < k then (placeL t n).take k ++ [(n : Int)] else (placeL t n).take k := by
  have e : placeL t (n + 1) = placeL t n ++ [(n : Int)] := by unfold placeL; rw [thereL_succ, if_pos ht, List.map_append]; rfl
  rw [e, List.length_take, List.take_append]
  by_cases h : (placeL t n).length < k
  · rw [if_pos (by omega), List.take_of_length_le (l := [(n : Int)]) (by simp; omega)]
  · rw [if_neg (by omega), show k - (placeL t n).length = 0 from by omega, List.take_zero, List.append_nil]
theorem take_stay {t : Nat → Bool} {k n : Nat} (ht : ¬ t n = true) : (placeL t (n + 1)).take k = (placeL t n).take k := by
  have e : placeL t (n + 1) = placeL t n := by unfold placeL; rw [thereL_succ, if_neg ht, List.append_nil]
  rw [e]
theorem slv_end {k m p : Nat} (t : Nat → Bool) (x3 : List Bool) (D : GfM.Mx) (k1 : 1 ≤ k) (hk : k ≤ 12) (hkm : k + m ≤ 255) (hp : p ≤ 65536) (K : Nat) (hK : 80000 ≤ K) :
    caulktop_TopSolved.l1 (K + 1) (k : Int) (m : Int) (mxS k p D) x3 (mxS (k + m) p (GfM.mm k (allX k) D)) (mxL (k + m) k (allX k)) ((placeL t (k + m)).take k) (piecesL t p (GfM.mm k (allX k) D) (k + m)) (mxS (k + m) p (GfM.mm k (allX k) D)) ((k + m : Nat) : Int) ((k + m : Nat) : Int) = some true := by
  have f0 : ¬ ((k + m : Nat) : Int) < ((k + m : Nat) : Int) := by omega
  have hw : wrap64 ((k : Int) + (m : Int)) = ((k + m : Nat) : Int) := by unfold wrap64; omega
  rw [slv_l1, if_neg f0, rsdecode t D k1 hkm hp (by omega)]
  simp only [Option.bind_some]
  by_cases hlt : (thereL t (k + m)).length < k
  · rw [if_pos hlt, if_pos (by rw [List.length_take, placeL_length]; omega)]
    rfl
  · have hlen : ((placeL t (k + m)).take k).length = k := by rw [List.length_take, placeL_length]; omega
    rw [if_neg hlt, if_neg (by omega)]
    have hs := thereL_sorted t (k + m)
    have hmem : ∀ x ∈ (placeL t (k + m)).take k, 0 ≤ x ∧ x < ((k + m : Nat) : Int) := by
      intro x hx
      obtain ⟨r, hr, rfl⟩ := List.mem_map.1 (List.mem_of_mem_take hx)
      have := thereL_lt hr
      omega
    have hnd : ((placeL t (k + m)).take k).Nodup := by
      refine List.Nodup.sublist (List.take_sublist _ _) ?_
      exact List.pairwise_map.2 (List.Pairwise.imp (fun hlt e => by omega) hs)
    generalize (placeL t (k + m)).take k = R at hlen hmem hnd ⊢
    obtain ⟨X, hX⟩ := any_inv k1 hkm hlen hnd hmem
    rw [rowsf (allX k) (by omega) hkm k1 (by omega) R (by omega) (by omega) hmem]
    simp only [Option.bind_some, hlen]
    rw [invf_some k1 (by omega) hX]
    simp only [Option.bind_some, if_true, mxS_length, hw, bne_self_eq_false]
    obtain ⟨F, rfl⟩ : ∃ F, K = F + 1 := ⟨K - 1, by omega⟩
    rw [slv_j3, if_neg (by decide), mxL_length]
    have hl := GfM.inv_left hX
    have hb : k * (k + 2) ≤ 12 * 14 := Nat.mul_le_mul hk (by omega)
    have := slv_lines D X R hlen hmem k1 hkm hp (fun i hi c _ => by
      have e1 : GfM.mm k X (fun q => GfM.mm k (allX k) D (R.getD q 0).toNat) i c = GfM.mm k X (GfM.mm k (fun i c => allX k (R.getD i 0).toNat c) D) i c := rfl
      rw [e1, ← GfM.mm_assoc, GfM.mm_congr (A' := GfM.idm) (B' := D) (fun q hq => hl i hi q hq) (fun _ _ => rfl), GfM.mm_id_left hi]) (F - k * (k + 2) - 1) (by omega) k 0 (by omega)
    rw [show F - k * (k + 2) - 1 + k * (k + 2) + 1 = F from by omega] at this
    exact this
theorem slv_loop {k m p : Nat} (lost : List Bool) (D : GfM.Mx) (k1 : 1 ≤ k) (hk : k ≤ 12) (hkm : k + m ≤ 255) (hp : p ≤ 65536) (K : Nat) (hK : 80000 ≤ K) : ∀ (d i : Nat), i + d = k + m →
    caulktop_TopSolved.l1 (K + d + 1) (k : Int) (m : Int) (mxS k p D) lost (mxS (k + m) p (GfM.mm k (allX k) D)) (mxL (k + m) k (allX k)) ((placeL (isThere lost) i).take k) (piecesL (isThere lost) p (GfM.mm k (allX k) D) i) (mxS (k + m) p (GfM.mm k (allX k) D)) ((k + m : Nat) : Int) (i : Int) = some true
  | 0, i, h => by
    have e : i = k + m := by omega
    subst e
    exact slv_end (isThere lost) lost D k1 hk hkm hp K hK
  | d + 1, i, h => by
    have hi : i < k + m := by omega
    have f0 : (i : Int) < ((k + m : Nat) : Int) := by omega
    have f1 : (0 : Int) ≤ (i : Int) := by omega
    have hw : wrap64 ((i : Int) + 1) = ((i + 1 : Nat) : Int) := by unfold wrap64; omega
    have ih := slv_loop lost D k1 hk hkm hp K hK d (i + 1) (by omega)
    have hle : (placeL (isThere lost) i).length ≤ i := by rw [placeL_length]; exact thereL_le _ _
    have g1 : (piecesL (isThere lost) p (GfM.mm k (allX k) D) i).length < 5864062014805 := by rw [piecesL_length]; omega
    have g2 : ((placeL (isThere lost) i).take k).length < 17592186044416 := by rw [List.length_take]; omega
    rw [piecesL_succ] at ih
    rw [show K + (d + 1) + 1 = (K + d + 1) + 1 from by omega]
    generalize K + d + 1 = F at ih ⊢
    rw [slv_l1, if_pos f0, if_pos f1, mxS_length, if_pos f0, hw, rdS _ hi]
    by_cases hin : (i : Int) ≥ (lost.length : Int)
    · have ht : isThere lost i = true := by unfold isThere; rw [if_neg (by omega)]
      rw [if_pos hin, if_pos g1]
      rw [take_step ht, ht] at ih
      simp only [Option.bind_some]
      by_cases hl : ((placeL (isThere lost) i).take k).length < k
      · rw [if_pos (by omega), if_pos g2]; rw [if_pos hl] at ih; exact ih
      · rw [if_neg (by omega)]; rw [if_neg hl] at ih; exact ih
    · have hin' : (i : Int) < (lost.length : Int) := by omega
      have er : rdOf false lost (i : Int) = lost.getD i false := by unfold rdOf; rw [Int.toNat_natCast]
      have et : isThere lost i = !(lost.getD i false) := by unfold isThere; rw [if_pos (by omega)]
      rw [if_neg hin, if_pos hin', if_pos g1, er, ← et]
      simp only [Option.bind_some]
      by_cases hb : lost.getD i false = true
      · have ht : ¬ isThere lost i = true := by rw [et, hb]; decide
        rw [if_pos hb]
        rw [take_stay ht] at ih
        exact ih
      · have ht : isThere lost i = true := by rw [et]; simpa using hb
        rw [if_neg hb]
        rw [take_step ht] at ih
        by_cases hl : ((placeL (isThere lost) i).take k).length < k
        · rw [if_pos (by omega), if_pos g2]; rw [if_pos hl] at ih; exact ih
        · rw [if_neg (by omega)]; rw [if_neg hl] at ih; exact ih
theorem TopSolved : caulktop_TopSolved.Pure := by
  intro a0 a1 l2 l3 w0 w1 w2 w3
  obtain ⟨F, hF⟩ : ∃ F : Nat, F = 200000 := ⟨_, rfl⟩
  refine ⟨F + 1, ?_⟩
  have out : caulktop_TopSolved.j0 (F + 1) a0 a1 l2 l3 true = some true := by rw [slv_j0, if_pos rfl]
  unfold caulktop_TopSolved.f
  rw [begins_eq]
  simp only [Option.bind_some, if_true]
  by_cases h1 : a0 < 1
  · rw [if_pos h1]; exact out
  rw [if_neg h1]
  by_cases h2 : a1 < 1
  · rw [if_pos h2]; exact out
  rw [if_neg h2]
  by_cases h3 : a0 > 12
  · rw [if_pos h3]; exact out
  rw [if_neg h3]
  by_cases h4 : a1 > 12
  · rw [if_pos h4]; exact out
  rw [if_neg h4]
  by_cases h5 : ¬ (l2.length : Int) = a0
  · rw [show ((l2.length : Int) != a0) = true from by simp [h5]]; exact out
  have h5 : (l2.length : Int) = a0 := Decidable.not_not.1 h5
  rw [show ((l2.length : Int) != a0) = false from by simp [h5]]
  obtain ⟨k, rfl⟩ := Int.eq_ofNat_of_zero_le (show 0 ≤ a0 by omega)
  obtain ⟨m, rfl⟩ := Int.eq_ofNat_of_zero_le (show 0 ≤ a1 by omega)
  have hlen : l2.length = k := by omega
  rw [slv_j0, if_neg (by decide)]
  have hsz := slv_sizes (k : Int) (m : Int) l2 l3 (by omega) (F - l2.length - 1) l2.length 0 (by omega)
  rw [show F - l2.length - 1 + l2.length + 1 = F from by omega] at hsz
  rcases hsz with hs | hs
  · exact hs
  refine hs.trans ?_
  have f0 : ¬ (l2.length : Int) < (l2.length : Int) := by omega
  rw [slv_l0, if_neg f0]
  have hG : 100000 ≤ F - l2.length - 1 := by omega
  generalize F - l2.length - 1 = G at hG ⊢
  rcases rsencode2 (k := k) (m := m) (l := l2) hlen (by omega) (by omega) (K := G) (by omega) (by omega) with ⟨p, D, hp, rfl, hE⟩ | hE
  · rw [hE]
    simp only [Option.bind_some, if_true, List.nil_append, mxS_length, List.length_nil]
    rw [if_pos (by omega), if_pos (by omega), unitf k (by omega) (by omega)]
    simp only [Option.bind_some]
    rw [cauf k m (by omega) (by omega) (by omega)]
    simp only [Option.bind_some, mxL_length]
    rw [if_pos (by omega), if_pos (by omega), all_mxS, all_mxL, mxS_length]
    have := slv_loop l3 D (by omega) (by omega) (show k + m ≤ 255 by omega) hp (G - (k + m) - 1) (by omega) (k + m) 0 (by omega)
    rw [show G - (k + m) - 1 + (k + m) + 1 = G from by omega] at this
    have e0 : (placeL (isThere l3) 0).take k = [] := by unfold placeL thereL; rw [List.range_zero, List.filter_nil, List.map_nil, List.take_nil]
    have e1 : piecesL (isThere l3) p (GfM.mm k (allX k) D) 0 = [] := rfl
    rw [e0, e1] at this
    simpa using this
  · rw [hE]
    rfl
end Go.Proofs.YtlobaomleocpjabDoor.Pure
