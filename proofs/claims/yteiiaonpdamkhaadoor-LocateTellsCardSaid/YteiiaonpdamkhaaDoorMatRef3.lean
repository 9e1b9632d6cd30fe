/- caulkref03.Invert's contract over this seat's program: it answers as matrix.Invert does, for sizes as far as 16. Conditions: each lemma's own. -/
import Derived.Test.YteiiaonpdamkhaaDoorMatRef2
import Derived.Test.YteiiaonpdamkhaaDoorMatCau
import Derived.OpenShut
namespace Go.Proofs.YteiiaonpdamkhaaDoor.G.RefI
open Go.RowKit Go.Proofs.YteiiaonpdamkhaaDoor.G Go.Proofs.YteiiaonpdamkhaaDoorW.PrintWords Go.Proofs.YteiiaonpdamkhaaDoorW.PrintLast Go.Proofs.YteiiaonpdamkhaaDoorW.PrintMore Go.OpenShut
set_option linter.unusedVariables false
set_option linter.unusedSimpArgs false
/-- What the unit is, as a list. -/
def matrix_Unit.f (a0 : Int) : Option (List (List Int) × Int) := some (if 1 ≤ a0 ∧ a0 ≤ 255 then (mxL a0.toNat a0.toNat GfM.idm, 0) else ([], 1))
theorem mulI_nat (a b : BitVec 8) : mulI (a.toNat : Int) (b.toNat : Int) = ((GfM.mul a b).toNat : Int) := by unfold mulI; rw [el_nat, el_nat]
theorem asel {a : Int} (h : isB a) : ∃ x : BitVec 8, a = (x.toNat : Int) := ⟨el a, (el_back h.1 h.2).symm⟩
theorem isB_nat (x : BitVec 8) : isB (x.toNat : Int) := el_range x
theorem el_ne {x : BitVec 8} (h : (x.toNat : Int) ≠ 0) : x ≠ 0#8 := by intro e; apply h; rw [e]; rfl
/-- The inverse. -/
def invI (a : Int) : Int := ((GfM.inv (el a)).toNat : Int)
theorem refmul {a b : Int} (ha : isB a) (hb : isB b) : caulkref02_Mul.f a b = some (mulI a b) := if_pos ⟨ha, hb⟩
theorem refinv_l0 (x : BitVec 8) (hx : x ≠ 0#8) : ∀ (d i : Nat), i + d = (GfM.inv x).toNat → 1 ≤ i → ∀ k, d < k → caulkref02_Inv.l0 k (x.toNat : Int) (i : Int) = some (((GfM.inv x).toNat : Int), 0)
 | 0, i, hi, h1, k, hk => by
  obtain ⟨k, rfl⟩ : ∃ m, k = m + 1 := ⟨k - 1, by omega⟩
  have hlt := (GfM.inv x).isLt
  obtain rfl : i = (GfM.inv x).toNat := by omega
  simp only [caulkref02_Inv.l0]
  rw [if_pos (by omega), Int.emod_eq_of_lt (by omega) (by omega), refmul (isB_nat _) (isB_nat _), mulI_nat, GfM.mul_inv x hx]
  rfl
 | d + 1, i, hi, h1, k, hk => by
  obtain ⟨k, rfl⟩ : ∃ m, k = m + 1 := ⟨k - 1, by omega⟩
  have hlt := (GfM.inv x).isLt
  simp only [caulkref02_Inv.l0]
  have hi8 : i < 256 := by omega
  have ei : (i : Int) = ((BitVec.ofNat 8 i).toNat : Int) := by rw [BitVec.toNat_ofNat]; omega
  have hne : mulI (x.toNat : Int) (i : Int) ≠ 1 := by
   rw [ei, mulI_nat]
   intro e
   have e1 : GfM.mul x (BitVec.ofNat 8 i) = 1#8 := BitVec.eq_of_toNat_eq (by show _ = 1; omega)
   have e2 := GfM.mul_cancel hx (e1.trans (GfM.mul_inv x hx).symm)
   have := congrArg BitVec.toNat e2
   rw [BitVec.toNat_ofNat] at this
   omega
  rw [if_pos (by omega), Int.emod_eq_of_lt (by omega) (by omega), refmul (isB_nat _) ⟨by omega, by omega⟩]
  simp only [Option.bind_some]
  rw [if_neg hne, show wrap64 ((i : Int) + 1) = ((i + 1 : Nat) : Int) from by unfold wrap64; omega]
  exact refinv_l0 x hx d (i + 1) (by omega) (by omega) k (by omega)
theorem refinv_zero : ∀ (d i : Nat), i + d = 256 → ∀ k, d < k → caulkref02_Inv.l0 k 0 (i : Int) = some (0, 13)
 | 0, i, hi, k, hk => by
  obtain ⟨k, rfl⟩ : ∃ m, k = m + 1 := ⟨k - 1, by omega⟩
  simp only [caulkref02_Inv.l0]
  rw [if_neg (by omega)]
 | d + 1, i, hi, k, hk => by
  obtain ⟨k, rfl⟩ : ∃ m, k = m + 1 := ⟨k - 1, by omega⟩
  simp only [caulkref02_Inv.l0]
  have hz : mulI 0 (i : Int) = 0 := by
   unfold mulI; rw [show el 0 = 0#8 from rfl, GfM.zero_mul]; rfl
  rw [if_pos (by omega), Int.emod_eq_of_lt (by omega) (by omega), refmul ⟨by decide, by decide⟩ ⟨by omega, by omega⟩, hz]
  simp only [Option.bind_some]
  rw [if_neg (by decide), show wrap64 ((i : Int) + 1) = ((i + 1 : Nat) : Int) from by unfold wrap64; omega]
  exact refinv_zero d (i + 1) (by omega) k (by omega)
theorem refinv_eq {a : Int} (h : isB a) (k : Nat) (hk : 300 ≤ k) : caulkref02_Inv.f k a = some (if a = 0 then (0, 13) else (invI a, 0)) := by
 unfold caulkref02_Inv.f
 by_cases h0 : a = 0
 ·subst h0
  rw [if_pos rfl]
  exact refinv_zero 255 1 rfl k (by omega)
 ·rw [if_neg h0]
  obtain ⟨x, rfl⟩ := asel h
  have hi := GfM.mul_inv x (el_ne h0)
  have h1 : 1 ≤ (GfM.inv x).toNat := by
   by_cases e : (GfM.inv x).toNat = 0
   ·have : GfM.inv x = 0#8 := BitVec.eq_of_toNat_eq (by simpa using e)
    rw [this, GfM.mul_zero] at hi
    exact absurd hi (by decide)
   ·omega
  have hlt := (GfM.inv x).isLt
  unfold invI
  rw [el_nat]
  exact refinv_l0 x (el_ne h0) ((GfM.inv x).toNat - 1) 1 (by omega) (by omega) k (by omega)
/-! ### the matrix functions over plain matrices -/
theorem unitf (n : Nat) (h1 : 1 ≤ n) (h2 : n ≤ 255) : matrix_Unit.f (n : Int) = some (mxL n n GfM.idm, 0) := by
 unfold matrix_Unit.f
 rw [if_pos (by omega), Int.toNat_natCast]
theorem cauf (k m : Nat) (h1 : 1 ≤ k) (h2 : 1 ≤ m) (h3 : k + m ≤ 255) : matrix_Cauchy.f (k : Int) (m : Int) = some (mxL m k (cauX k), 0) := by
 unfold matrix_Cauchy.f
 rw [if_pos (by omega), Int.toNat_natCast, Int.toNat_natCast]
theorem mulf {n m p : Nat} (A B : GfM.Mx) (n1 : 1 ≤ n) (n2 : n ≤ 255) (m1 : 1 ≤ m) (m2 : m ≤ 255) (p1 : 1 ≤ p) (p2 : p ≤ 255) : matrix_Mul.f (mxL n m A) (mxL m p B) = some (mxL n p (GfM.mm m A B), 0) := by
 unfold matrix_Mul.f
 rw [if_pos ⟨mxL_bytes _ _ _, mxL_bytes _ _ _⟩, if_pos ⟨mxL_ok _ n1 n2 m1 m2, mxL_ok _ m1 m2 p1 p2⟩, mxL_length, colsM_mxL _ n1, if_pos rfl, mxL_length, colsM_mxL _ m1]
 congr 2
 exact mxL_congr fun i hi j hj => GfM.mm_congr (fun k hk => toMx_mxL A hi hk) (fun k hk => toMx_mxL B hk hj)
theorem invf {n : Nat} (A : GfM.Mx) (n1 : 1 ≤ n) (n2 : n ≤ 255) : (∃ X, GfM.invX n A = some X ∧ matrix_Invert.f (mxL n n A) = some (mxL n n X, 0)) ∨ (GfM.invX n A = none ∧ matrix_Invert.f (mxL n n A) = some ([], 13)) := by
 unfold matrix_Invert.f invAns
 rw [if_pos (mxL_bytes _ _ _), if_pos (mxL_ok _ n1 n2 n1 n2), colsM_mxL _ n1, mxL_length, if_pos rfl]
 have hc : (GfM.invX n (toMx (mxL n n A))).isSome = (GfM.invX n A).isSome ∧ ∀ X X', GfM.invX n (toMx (mxL n n A)) = some X → GfM.invX n A = some X' → GfM.EqM n n X X' := GfM.elimX_congr (n := n) (d := n) (c := 0) (by omega) (fun i hi j hj => toMx_mxL A hi hj) (fun _ _ _ _ => rfl)
 obtain ⟨h1, h2⟩ := hc
 cases e : GfM.invX n A with
 | none =>
  rw [e] at h1
  right
  cases e2 : GfM.invX n (toMx (mxL n n A)) with
  | none => exact ⟨rfl, rfl⟩
  | some X => rw [e2] at h1; cases h1
 | some X =>
  rw [e] at h1
  left
  cases e2 : GfM.invX n (toMx (mxL n n A)) with
  | none => rw [e2] at h1; cases h1
  | some X' => exact ⟨X, rfl, by show some (mxL n n X', (0 : Int)) = some (mxL n n X, 0); rw [mxL_congr (h2 X' X e2 e)]⟩
theorem invf_some {n : Nat} {A X : GfM.Mx} (n1 : 1 ≤ n) (n2 : n ≤ 255) (h : GfM.invX n A = some X) : matrix_Invert.f (mxL n n A) = some (mxL n n X, 0) := by
 rcases invf A n1 n2 with ⟨Y, h1, h2⟩ | ⟨h1, _⟩
 ·rw [h] at h1; rw [h2, Option.some.inj h1]
 ·rw [h] at h1; cases h1
theorem rowsf {n p : Nat} (A : GfM.Mx) (n1 : 1 ≤ n) (n2 : n ≤ 255) (p1 : 1 ≤ p) (p2 : p ≤ 255) (rows : List Int) (h1 : 1 ≤ rows.length) (h2 : rows.length ≤ 255) (h : ∀ x ∈ rows, 0 ≤ x ∧ x < (n : Int)) :
  matrix_Rows.f (mxL n p A) rows = some (mxL rows.length p (fun k c => A (rows.getD k 0).toNat c), 0) := by
 unfold matrix_Rows.f
 rw [if_pos (mxL_bytes _ _ _), if_pos (mxL_ok _ n1 n2 p1 p2), if_pos ⟨h1, h2⟩, mxL_length, if_pos h, colsM_mxL _ n1]
 congr 2
 exact mxL_congr fun i hi j hj => by
  have hm : rows.getD i 0 ∈ rows := by rw [List.getD_eq_getElem?_getD, List.getElem?_eq_getElem hi]; exact List.getElem_mem hi
  have := h _ hm
  exact toMx_mxL A (by omega) hj
/-! ### the document's matrices -/
theorem rd_L2_mxL {n p : Nat} (A : GfM.Mx) {i : Nat} (hi : i < n) : rd_L2 (mxL n p A) (i : Int) = rowL p (A i) := by
 rw [rd_L2_nat, List.getD_eq_getElem?_getD, mxL_get n p A i hi]; rfl
theorem rowL_set (p : Nat) (f : Nat → GfM.F) (j : Nat) (x : GfM.F) : (rowL p f).set j (x.toNat : Int) = rowL p (fun c => if c = j then x else f c) := by
 apply rowL_ext
 ·rw [List.length_set, rowL_length]
 ·intro c hc
  by_cases e : c = j
  ·subst e
   rw [List.getD_eq_getElem?_getD, List.getElem?_set_self (by rw [rowL_length]; exact hc), if_pos rfl]; rfl
  ·rw [List.getD_eq_getElem?_getD, List.getElem?_set_ne (fun e' => e e'.symm), ← List.getD_eq_getElem?_getD, rowL_get p f c hc, if_neg e]
theorem mxL_set {n p : Nat} (A : GfM.Mx) {i : Nat} (hi : i < n) (j : Nat) (x : GfM.F) : (mxL n p A).set i ((rowL p (A i)).set j (x.toNat : Int)) = mxL n p (fun r c => if r = i ∧ c = j then x else A r c) := by
 rw [rowL_set]
 apply List.ext_getElem?
 intro r
 by_cases hr : r < n
 ·rw [mxL_get _ _ _ r hr]
  by_cases e : r = i
  ·subst e
   rw [List.getElem?_set_self (by rw [mxL_length]; exact hr)]
   exact congrArg some (rowL_congr fun c _ => by by_cases e : c = j <;> simp [e])
  ·rw [List.getElem?_set_ne (fun e' => e e'.symm), mxL_get _ _ _ r hr]
   exact congrArg some (rowL_congr fun c _ => by rw [if_neg (fun hh => e hh.1)])
 ·rw [List.getElem?_eq_none (by rw [List.length_set, mxL_length]; omega), List.getElem?_eq_none (by rw [mxL_length]; omega)]
theorem rd_rowL {p : Nat} (f : Nat → GfM.F) {j : Nat} (hj : j < p) : rd (rowL p f) (j : Int) = ((f j).toNat : Int) := by
 unfold rd
 rw [Int.toNat_natCast, rowL_get p f j hj]
theorem rep_mxL (n p : Nat) : List.replicate n (List.replicate p (0 : Int)) = mxL n p (fun _ _ => 0#8) := by
 have e : List.replicate p (0 : Int) = rowL p (fun _ => 0#8) := rowL_ext (by simp) (fun j hj => by simp [List.getD_eq_getElem?_getD, hj])
 rw [e]
 apply List.ext_getElem?
 intro i
 by_cases hi : i < n
 ·rw [mxL_get _ _ _ i hi]; simp [hi]
 ·rw [List.getElem?_eq_none (by simp; omega), List.getElem?_eq_none (by rw [mxL_length]; omega)]
theorem refzero_l0 (n p : Nat) (hn : n ≤ 255) (hp : p ≤ 255) (K : Nat) : ∀ (d i : Nat) (acc : List (List Int)), i + d = n → acc.length = i → caulkref03_zero.l0 (K + d + 1) (n : Int) (p : Int) acc (i : Int) = some (acc ++ List.replicate d (List.replicate p 0))
 | 0, i, acc, h, hl => by
  have f0 : ¬ (i : Int) < (n : Int) := by omega
  show (if (i : Int) < (n : Int) then _ else some acc) = _
  rw [if_neg f0]; simp
 | d + 1, i, acc, h, hl => by
  have f0 : (i : Int) < (n : Int) := by omega
  have f1 : (0 : Int) ≤ (p : Int) := by omega
  have f2 : ((p : Int)).toNat ≤ 281474976710656 := by omega
  have f3 : acc.length < 5864062014805 := by omega
  have hw : wrap64 ((i : Int) + 1) = ((i + 1 : Nat) : Int) := by unfold wrap64; omega
  show (if (i : Int) < (n : Int) then (if 0 ≤ (p : Int) then (if (p : Int).toNat ≤ 281474976710656 then (if acc.length < 5864062014805 then (caulkref03_zero.l0 (K + d + 1) (n : Int) (p : Int) (acc ++ [(List.replicate (p : Int).toNat 0)]) (wrap64 ((i : Int) + 1))) else (none)) else (none)) else (none)) else (some acc)) = _
  rw [if_pos f0, if_pos f1, if_pos f2, if_pos f3, hw, refzero_l0 n p hn hp K d (i + 1) _ (by omega) (by simp [hl]), Int.toNat_natCast, List.append_assoc]
  rfl
theorem refzero {n p : Nat} (hn : n ≤ 255) (hp : p ≤ 255) {k : Nat} (hk : 300 ≤ k) : caulkref03_zero.f k (n : Int) (p : Int) = some (mxL n p (fun _ _ => 0#8)) := by
 have := refzero_l0 n p hn hp (k - n - 1) n 0 [] (by omega) rfl
 rw [show k - n - 1 + n + 1 = k from by omega, List.nil_append, rep_mxL] at this
 exact this
/-! Unit -/
theorem refunit_l0 (n : Nat) (hn : n ≤ 255) (K : Nat) : ∀ (d i : Nat) (A : GfM.Mx), i + d = n → (∀ r c, A r c = if r = c ∧ r < i then 1#8 else 0#8) → caulkref03_Unit.l0 (K + d + 1) (n : Int) (mxL n n A) (i : Int) = some (mxL n n GfM.idm, 0)
 | 0, i, A, h, hA => by
  have f0 : ¬ (i : Int) < (n : Int) := by omega
  show (if (i : Int) < (n : Int) then _ else some (mxL n n A, 0)) = _
  rw [if_neg f0, mxL_congr (fun r hr c _ => ?_)]
  rw [hA]; unfold GfM.idm
  by_cases e : r = c
  ·rw [if_pos ⟨e, by omega⟩, if_pos e]
  ·rw [if_neg (fun hh => e hh.1), if_neg e]
 | d + 1, i, A, h, hA => by
  have hi : i < n := by omega
  have f0 : (i : Int) < (n : Int) := by omega
  have f1 : (0 : Int) ≤ (i : Int) := by omega
  have f2 : (i : Int) < ((mxL n n A).length : Int) := by rw [mxL_length]; exact f0
  have f3 : (i : Int) < ((rd_L2 (mxL n n A) (i : Int)).length : Int) := by rw [rd_L2_mxL A hi, rowL_length]; exact f0
  have hw : wrap64 ((i : Int) + 1) = ((i + 1 : Nat) : Int) := by clear hA; unfold wrap64; omega
  show (if (i : Int) < (n : Int) then (if 0 ≤ (i : Int) then (if (i : Int) < ((mxL n n A).length : Int) then (if (i : Int) < ((rd_L2 (mxL n n A) (i : Int)).length : Int) then (caulkref03_Unit.l0 (K + d + 1) (n : Int) ((mxL n n A).set (i : Int).toNat ((rd_L2 (mxL n n A) (i : Int)).set (i : Int).toNat 1)) (wrap64 ((i : Int) + 1))) else (none)) else (none)) else (none)) else (some (mxL n n A, 0))) = _
  rw [if_pos f0, if_pos f1, if_pos f2, if_pos f3, hw, rd_L2_mxL A hi, Int.toNat_natCast]
  have e := mxL_set (p := n) A hi i 1#8
  rw [show ((1#8 : GfM.F).toNat : Int) = 1 from rfl] at e
  rw [e]
  refine refunit_l0 n hn K d (i + 1) _ (by omega) (fun r c => ?_)
  rw [hA]
  by_cases e1 : r = i ∧ c = i
  ·rw [if_pos e1, if_pos ⟨by omega, by omega⟩]
  ·rw [if_neg e1]
   by_cases e2 : r = c ∧ r < i
   ·rw [if_pos e2, if_pos ⟨e2.1, by omega⟩]
   ·rw [if_neg e2, if_neg (by omega)]
theorem refunit_j0 (K : Nat) (x : Int) (b : Bool) : caulkref03_Unit.j0 (K + 1) x b = if b = true then (some (([] : List (List Int)), 1)) else ((caulkref03_zero.f K x x).bind fun t243 => (caulkref03_Unit.l0 K x t243 0)) := rfl
theorem refunit (a : Int) {k : Nat} (hk : 1000 ≤ k) : caulkref03_Unit.f k a = matrix_Unit.f a := by
 obtain ⟨K, rfl⟩ : ∃ K, k = K + 1 := ⟨k - 1, by omega⟩
 unfold caulkref03_Unit.f matrix_Unit.f
 rw [refunit_j0, refunit_j0]
 by_cases h1 : a < 1
 ·rw [if_pos h1, if_pos rfl, if_neg (by omega)]
 ·rw [if_neg h1]
  by_cases h2 : a > 255
  ·rw [decide_eq_true h2, if_pos rfl, if_neg (by omega)]
  ·rw [decide_eq_false h2, if_neg (by decide), if_pos (by omega)]
   obtain ⟨n, rfl⟩ := Int.eq_ofNat_of_zero_le (show 0 ≤ a by omega)
   rw [refzero (by omega) (by omega) (by omega), Int.toNat_natCast]
   have := refunit_l0 n (by omega) (K - n - 1) n 0 (fun _ _ => 0#8) (by omega) (fun r c => by rw [if_neg (by omega)])
   rw [show K - n - 1 + n + 1 = K from by omega] at this
   exact this
/-! Mul -/
def mulQ (m : Nat) (A B : GfM.Mx) (i j q : Nat) : GfM.Mx := fun r c => if r < i ∨ (r = i ∧ c < j) then GfM.mm m A B r c else if r = i ∧ c = j then GfM.mm q A B r c else 0#8
theorem refmul_l {n m p : Nat} (A B : GfM.Mx) (hn : n ≤ 255) (hm : m ≤ 255) (hp : p ≤ 255) (m1 : 1 ≤ m) (p1 : 1 ≤ p) :
  (∀ (d i K : Nat), i + d = n → caulkref03_Mul.l0 (K + d * (p * (m + 2) + 2) + 1) (mxL n m A) (mxL m p B) (mxL n p (mulQ m A B i 0 0)) (n : Int) (i : Int) = some (mxL n p (GfM.mm m A B), 0)) := by
 have l2 : ∀ (i : Nat), i < n → ∀ (j : Nat), j < p → ∀ (d q K : Nat), q + d = m → caulkref03_Mul.l2 (K + d + 1) (mxL n m A) (mxL m p B) (mxL n p (mulQ m A B i j q)) (i : Int) (j : Int) (n : Int) (i : Int) (p : Int) (j : Int) (m : Int) (q : Int) = caulkref03_Mul.l1 K (mxL n m A) (mxL m p B) (mxL n p (mulQ m A B i (j + 1) 0)) (i : Int) (n : Int) (i : Int) (p : Int) (((j + 1 : Nat)) : Int) := by
  intro i hi j hj d
  induction d with
  | zero =>
   intro q K h
   have hw : wrap64 ((j : Int) + 1) = ((j + 1 : Nat) : Int) := by unfold wrap64; omega
   unfold caulkref03_Mul.l2
   have e : mxL n p (mulQ m A B i j q) = mxL n p (mulQ m A B i (j + 1) 0) := mxL_congr fun r hr c hc => by
    unfold mulQ
    have hq : q = m := by omega
    by_cases e1 : r < i ∨ (r = i ∧ c < j)
    ·rw [if_pos e1, if_pos (by omega)]
    ·rw [if_neg e1]
     by_cases e2 : r = i ∧ c = j
     ·rw [if_pos e2, if_pos (by omega), hq]
     ·rw [if_neg e2, if_neg (by omega)]
      by_cases e3 : r = i ∧ c = j + 1
      ·rw [if_pos e3]; rfl
      ·rw [if_neg e3]
   rw [if_neg (by omega), hw, e]
  | succ d ih =>
   intro q K h
   have hq : q < m := by omega
   have hw : wrap64 ((q : Int) + 1) = ((q + 1 : Nat) : Int) := by unfold wrap64; omega
   have f1 : (q : Int) < (m : Int) := by omega
   have f2 : (0 : Int) ≤ (i : Int) := by omega
   have f3 : (i : Int) < (n : Int) := by omega
   have f4 : (0 : Int) ≤ (j : Int) := by omega
   have f5 : (j : Int) < (p : Int) := by omega
   have f6 : (0 : Int) ≤ (q : Int) := by omega
   have ih' := ih (q + 1) K (by omega)
   rw [show K + (d + 1) + 1 = (K + d + 1) + 1 from by omega]
   generalize hF : K + d + 1 = F at ih' ⊢
   unfold caulkref03_Mul.l2
   rw [if_pos f1, if_pos f2]
   simp only [mxL_length]
   rw [if_pos f3, if_pos f4, rd_L2_mxL _ hi, rowL_length, if_pos f5, if_pos f3, if_pos f6, rd_L2_mxL A hi, rowL_length, if_pos f1, if_pos f1, rd_L2_mxL B hq, rowL_length, if_pos f5, rd_rowL _ hq, rd_rowL _ hj, refmul (isB_nat _) (isB_nat _)]
   simp only [Option.bind_some, hw, Int.toNat_natCast]
   have e : mxL n p (fun r c => if r = i ∧ c = j then mulQ m A B i j q i j ^^^ GfM.mul (A i q) (B q j) else mulQ m A B i j q r c) = mxL n p (mulQ m A B i j (q + 1)) := mxL_congr fun r hr c hc => by
    by_cases e : r = i ∧ c = j
    ·rw [if_pos e, e.1, e.2]
     unfold mulQ
     rw [if_neg (by omega), if_pos ⟨rfl, rfl⟩, if_neg (by omega), if_pos ⟨rfl, rfl⟩]
     rfl
    ·rw [if_neg e]
     unfold mulQ
     rw [if_neg e, if_neg e]
   rw [rd_rowL _ hj, mulI_nat, g_xor8, mxL_set _ hi j, e]
   exact ih'
 have l1 : ∀ (i : Nat), i < n → ∀ (d j K : Nat), j + d = p → caulkref03_Mul.l1 (K + d * (m + 2) + 1) (mxL n m A) (mxL m p B) (mxL n p (mulQ m A B i j 0)) (i : Int) (n : Int) (i : Int) (p : Int) (j : Int) = caulkref03_Mul.l0 K (mxL n m A) (mxL m p B) (mxL n p (mulQ m A B (i + 1) 0 0)) (n : Int) ((i + 1 : Nat) : Int) := by
  intro i hi d
  induction d with
  | zero =>
   intro j K h
   have hw : wrap64 ((i : Int) + 1) = ((i + 1 : Nat) : Int) := by unfold wrap64; omega
   rw [Nat.zero_mul, Nat.add_zero]
   unfold caulkref03_Mul.l1
   have e : mxL n p (mulQ m A B i j 0) = mxL n p (mulQ m A B (i + 1) 0 0) := mxL_congr fun r hr c hc => by
    unfold mulQ
    by_cases e1 : r < i ∨ (r = i ∧ c < j)
    ·rw [if_pos e1, if_pos (by omega)]
    ·rw [if_neg e1, if_neg (by omega), if_neg (by omega)]
     by_cases e3 : r = i + 1 ∧ c = 0
     ·rw [if_pos e3]; rfl
     ·rw [if_neg e3]
   rw [if_neg (by omega), hw, e]
  | succ d ih =>
   intro j K h
   have hj : j < p := by omega
   have f1 : (j : Int) < (p : Int) := by omega
   have ih' := ih (j + 1) K (by omega)
   have e := l2 i hi j hj m 0 (K + d * (m + 2) + 1) (by omega)
   rw [ih'] at e
   have ef : K + (d + 1) * (m + 2) + 1 = (K + d * (m + 2) + 1 + m + 1) + 1 := by rw [Nat.succ_mul]; omega
   rw [ef]
   generalize hF : K + d * (m + 2) + 1 + m + 1 = F at e ⊢
   unfold caulkref03_Mul.l1
   rw [if_pos f1, mxL_length]
   exact e
 intro d
 induction d with
 | zero =>
  intro i K h
  rw [Nat.zero_mul, Nat.add_zero]
  unfold caulkref03_Mul.l0
  have e : mxL n p (mulQ m A B i 0 0) = mxL n p (GfM.mm m A B) := mxL_congr fun r hr c hc => by
   unfold mulQ
   rw [if_pos (by omega)]
  rw [if_neg (by omega), e]
 | succ d ih =>
  intro i K h
  have hi : i < n := by omega
  have f0 : (i : Int) < (n : Int) := by omega
  have f1 : (0 : Int) ≤ (i : Int) := by omega
  have ih' := ih (i + 1) K (by omega)
  have e := l1 i hi p 0 (K + d * (p * (m + 2) + 2) + 1) (by omega)
  rw [ih'] at e
  have ef : K + (d + 1) * (p * (m + 2) + 2) + 1 = (K + d * (p * (m + 2) + 2) + 1 + p * (m + 2) + 1) + 1 := by rw [Nat.succ_mul]; omega
  rw [ef]
  generalize hF : K + d * (p * (m + 2) + 2) + 1 + p * (m + 2) + 1 = F at e ⊢
  unfold caulkref03_Mul.l0
  rw [if_pos f0, if_pos f1, mxL_length, if_pos f0, rd_L2_mxL _ hi, rowL_length]
  exact e
theorem refmul_j0 (K : Nat) (x0 x1 : List (List Int)) (b : Bool) : caulkref03_Mul.j0 (K + 1) x0 x1 b = if b = true then (some (([] : List (List Int)), 2)) else (if 0 < (x0.length : Int) then (if (x1.length : Int) = ((rd_L2 x0 0).length : Int) then (if 0 < (x1.length : Int) then ((caulkref03_zero.f K (x0.length : Int) ((rd_L2 x1 0).length : Int)).bind fun t217 => (caulkref03_Mul.l0 K x0 x1 t217 (t217.length : Int) 0)) else (none)) else (some (([] : List (List Int)), 1))) else (none)) := rfl
theorem refmul3 {l0 l1 : List (List Int)} (b0 : BytesM l0) (b1 : BytesM l1) (s0 : ¬ OkM l0 ∨ (l0.length ≤ 16 ∧ colsM l0 ≤ 16)) (s1 : ¬ OkM l1 ∨ (l1.length ≤ 16 ∧ colsM l1 ≤ 16)) {k : Nat} (hk : 5000 ≤ k) : caulkref03_Mul.f k l0 l1 = matrix_Mul.f l0 l1 := by
 obtain ⟨K, rfl⟩ : ∃ K, k = K + 1 := ⟨k - 1, by omega⟩
 unfold caulkref03_Mul.f matrix_Mul.f
 rw [refcheck_eq l0 (K + 1) (by omega), refcheck_eq l1 (K + 1) (by omega), if_pos (show BytesM l0 ∧ BytesM l1 from ⟨b0, b1⟩)]
 simp only [Option.bind_some]
 by_cases o0 : OkM l0
 ·rw [if_pos o0, if_pos (by first | rfl | trivial)]
  by_cases o1 : OkM l1
  ·rw [if_pos o1, if_pos (show OkM l0 ∧ OkM l1 from ⟨o0, o1⟩), refmul_j0, if_neg (by decide), rd_L2_zero, rd_L2_zero]
   have q0 := s0.resolve_left (fun h => h o0)
   have q1 := s1.resolve_left (fun h => h o1)
   rw [if_pos (by have := o0.1; omega)]
   by_cases hc : l1.length = colsM l0
   ·have hc' : (l1.length : Int) = ((l0.getD 0 []).length : Int) := by unfold colsM at hc; omega
    rw [if_pos hc', if_pos (by have := o1.1; omega), if_pos hc]
    have hl0 := mxL_toMx b0 o0
    have hl1 := mxL_toMx b1 o1
    rw [← hc] at hl0
    obtain ⟨n, hn⟩ : ∃ n, n = l0.length := ⟨_, rfl⟩
    obtain ⟨m, hm⟩ : ∃ m, m = l1.length := ⟨_, rfl⟩
    obtain ⟨p, hp⟩ : ∃ p, p = colsM l1 := ⟨_, rfl⟩
    have hp' : ((l1.getD 0 []).length : Int) = (p : Int) := by rw [hp]; rfl
    have n2 : n ≤ 16 := by omega
    have m1 : 1 ≤ m := by have := o1.1; omega
    have m2 : m ≤ 16 := by omega
    have p1 : 1 ≤ p := by have := o1.2.2.1; omega
    have p2 : p ≤ 16 := by omega
    rw [hp', ← hn, ← hm, ← hp, refzero (by omega) (by omega) (by omega)]
    rw [← hn, ← hm] at hl0
    rw [← hm, ← hp] at hl1
    have hbd : n * (p * (m + 2) + 2) ≤ 16 * (16 * 18 + 2) := Nat.mul_le_mul n2 (by have : p * (m + 2) ≤ 16 * 18 := Nat.mul_le_mul p2 (by omega); omega)
    have := refmul_l (toMx l0) (toMx l1) (n := n) (m := m) (p := p) (by omega) (by omega) (by omega) m1 p1 n 0 (K - n * (p * (m + 2) + 2) - 1) (by omega)
    rw [show K - n * (p * (m + 2) + 2) - 1 + n * (p * (m + 2) + 2) + 1 = K from by omega, hl0, hl1] at this
    simp only [Option.bind_some, mxL_length]
    have e : mxL n p (fun _ _ => 0#8) = mxL n p (mulQ m (toMx l0) (toMx l1) 0 0 0) := mxL_congr fun r _ c _ => by
     unfold mulQ
     rw [if_neg (by omega)]
     by_cases e : r = 0 ∧ c = 0
     ·rw [if_pos e]; rfl
     ·rw [if_neg e]
    rw [e]
    exact this
   ·have hc' : ¬ (l1.length : Int) = ((l0.getD 0 []).length : Int) := by unfold colsM at hc; omega
    rw [if_neg hc', if_neg hc]
  ·rw [if_neg o1, if_neg (fun h => o1 h.2), refmul_j0]; rfl
 ·rw [if_neg o0, if_neg (by decide), if_neg (fun h => o0 h.1), refmul_j0]; rfl

theorem inv_fact (x : GfM.F) (hx : x ≠ 0#8) : caulkref02_Inv.f 300 (x.toNat : Int) = some (((GfM.inv x).toNat : Int), 0) := by
 rw [refinv_eq (isB_nat x) 300 (Nat.le_refl _), if_neg (fun e => hx (BitVec.eq_of_toNat_eq (by simpa using e)))]
 unfold invI
 rw [el_nat]
theorem mul_fact {l : List (List Int)} {n : Nat} (hb : BytesM l) (ho : OkM l) (hsq : colsM l = l.length) (hn : n = l.length) (h16 : n ≤ 16) {k : Nat} (hk : 5000 ≤ k) : caulkref03_Mul.f k l (mxL n n GfM.idm) = some (mxL n n (toMx l), 0) := by
 have n1 : 1 ≤ n := by have := ho.1; omega
 rw [refmul3 hb (mxL_bytes _ _ _) (.inr ⟨by omega, by omega⟩) (.inr ⟨by rw [mxL_length]; omega, by rw [colsM_mxL _ n1]; omega⟩) hk]
 have e : l = mxL n n (toMx l) := by have := mxL_toMx hb ho; rw [hsq, ← hn] at this; exact this.symm
 rw [e, mulf _ _ n1 (by omega) n1 (by omega) n1 (by omega)]
 congr 2
 exact mxL_congr fun i hi j hj => by rw [GfM.mm_id_right hj]; exact (toMx_mxL _ hi hj).symm
end Go.Proofs.YteiiaonpdamkhaaDoor.G.RefI
namespace Go.Proofs.YteiiaonpdamkhaaDoor.G
open Go.RowKit Go.Proofs.YteiiaonpdamkhaaDoorW.PrintWords Go.Proofs.YteiiaonpdamkhaaDoorW.PrintLast Go.Proofs.YteiiaonpdamkhaaDoorW.PrintMore
set_option linter.unusedVariables false
set_option linter.unusedSimpArgs false
/-- The document's Invert: matrix.Invert's answers (sizes as far as 16). -/
def caulkref03_Invert.f (l0 : List (List Int)) : Option (List (List Int) × Int) :=
 if BytesM l0 ∧ (OkM l0 → l0.length ≤ 16) then some (if OkM l0 then (if colsM l0 = l0.length then invAns l0 else ([], 1)) else ([], 2)) else none
set_option maxRecDepth 100000 in
set_option maxHeartbeats 4000000 in
theorem caulkref03_Invert.calls (A0 : Option Addr) (c0 : Nat) (l0 : List (List Int)) (r1 : List (List Int)) (r2 : Int) (w : World) (hr0 : Kd.C (Kd.slice 5 (Kd.int .u8)) w A0 l0.length l0) (hc0 : l0.length ≤ c0) (h : caulkref03_Invert.f l0 = some (r1, r2)) :
  Calls Tryd.prog 59 #[.slice A0 l0.length c0] w fun e w' => ∃ v0_ : Value, e = .returned (.tuple #[v0_, .int .i64 r2]) ∧ Kd.N (Kd.slice 5 (Kd.int .u8)) 76 w' w.heap.size (fun k_ => (w.heap.size ≤ k_)) v0_ r1 ∧ Below w.heap.size w w' := by
 unfold caulkref03_Invert.f at h
 by_cases hb : BytesM l0 ∧ (OkM l0 → l0.length ≤ 16)
 ·rw [if_pos hb] at h
  obtain ⟨hb, hs⟩ := hb
  by_cases o1 : OkM l0
  ·rw [if_pos o1] at h
   by_cases hsq : colsM l0 = l0.length
   ·rw [if_pos hsq] at h
    have h2 := Option.some.inj h
    have n1 : 1 ≤ l0.length := o1.1
    have hu : caulkref03_Unit.f 1000 (l0.length : Int) = some (mxL l0.length l0.length GfM.idm, 0) := by rw [RefI.refunit _ (Nat.le_refl _), RefI.unitf _ n1 o1.2.1]
    refine refInvert_walk A0 c0 l0 l0.length 1000 5000 300 (toMx l0) r1 r2 w hr0 hc0 hb o1 hsq rfl hu (RefI.mul_fact hb o1 hsq rfl (hs o1) (Nat.le_refl _)) RefI.inv_fact ?_
    unfold invAns at h2
    exact ⟨(congrArg Prod.fst h2).symm, (congrArg Prod.snd h2).symm⟩
   ·rw [if_neg hsq] at h
    simp only [Option.some.injEq, Prod.mk.injEq] at h
    obtain ⟨rfl, rfl⟩ := h
    have HR0 := Aside0.mk hr0
    have HC0 := Aside0.mk hc0
    have HCC0 := Aside0.mk (caulkref03_Check.calls 300 _ _ _ _ w hr0 hc0 (show caulkref03_Check.f 300 l0 = some 0 from by rw [refcheck_eq l0 300 (Nat.le_refl _), if_pos o1]))
    obtain ⟨ad0, hA0⟩ : ∃ ad, A0 = some ad := (HR0.out.2.2 (by have := o1.1; omega)).imp fun _ hh => hh.1
    subst hA0
    obtain ⟨b0, d0, hd0, hz0⟩ := lent_row HR0.out hb o1 (i := 0) (by have := o1.1; omega)
    have x1 := (hz0 w (Below.refl _ _)).1
    rw [Addr.add_zero'] at x1
    have b2 : ((colsM l0 : Int) != (l0.length : Int)) = true := by simp; omega
    have q1 : 1 ≤ l0.length := o1.1
    clear hr0 hc0 hz0 hd0 hs hb o1 hsq
    go_enter Tryd.func59, Tryd.ntmps59
    go_wp2_with (go_at_call 75; (with_reducible refine HCC0.out.mono ?_); rintro e w1 ⟨rfl, ⟨nd, rfl⟩⟩)
    go_ret2
    exact ⟨_, rfl, N_nil _ _, pw_below_drewN (Below.refl _ _) _⟩
  ·rw [if_neg o1] at h
   simp only [Option.some.injEq, Prod.mk.injEq] at h
   obtain ⟨rfl, rfl⟩ := h
   have HCC0 := Aside0.mk (caulkref03_Check.calls 300 _ _ _ _ w hr0 hc0 (show caulkref03_Check.f 300 l0 = some 2 from by rw [refcheck_eq l0 300 (Nat.le_refl _), if_neg o1]))
   clear hr0 hc0 hs hb o1
   go_enter Tryd.func59, Tryd.ntmps59
   go_wp2_with (go_at_call 75; (with_reducible refine HCC0.out.mono ?_); rintro e w1 ⟨rfl, ⟨nd, rfl⟩⟩)
   go_ret2
   exact ⟨_, rfl, N_nil _ _, pw_below_drewN (Below.refl _ _) _⟩
 ·rw [if_neg hb] at h; cases h
end Go.Proofs.YteiiaonpdamkhaaDoor.G
