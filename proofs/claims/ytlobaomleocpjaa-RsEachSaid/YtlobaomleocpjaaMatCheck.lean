/- matrix.Check and the document's Check answer as one plain function. No condition but that there are rounds enough. -/
import Derived.Test.YtlobaomleocpjaaMatMem
import Derived.Test.YtlobaomleocpjaaGx1
namespace Go.Proofs.Ytlobaomleocpjaa.G
open Go.RowKit Go.Proofs.YtlobaomleocpjaaW.PrintWords Go.Proofs.YtlobaomleocpjaaW.PrintLast Go.Proofs.YtlobaomleocpjaaW.PrintMore
set_option linter.unusedVariables false
set_option linter.unusedSimpArgs false
/-- How many columns a matrix has, by its first row. -/
def colsM (l : List (List Int)) : Nat := (l.getD 0 []).length
/-- A matrix is right. -/
def OkM (l : List (List Int)) : Prop := 1 ≤ l.length ∧ l.length ≤ 255 ∧ 1 ≤ colsM l ∧ colsM l ≤ 255 ∧ ∀ r ∈ l, r.length = colsM l
instance (l : List (List Int)) : Decidable (OkM l) := by unfold OkM; infer_instance
/-- All elements are bytes. -/
def BytesM (l : List (List Int)) : Prop := ∀ r ∈ l, ∀ x ∈ r, isB x
instance (l : List (List Int)) : Decidable (BytesM l) := by unfold BytesM isB; infer_instance
theorem OkM.row {l : List (List Int)} (h : OkM l) {i : Nat} (hi : i < l.length) : (l.getD i []).length = colsM l := by
  rw [List.getD_eq_getElem?_getD, List.getElem?_eq_getElem hi]
  exact h.2.2.2.2 _ (List.getElem_mem hi)
theorem BytesM.at_ {l : List (List Int)} (h : BytesM l) (i j : Nat) : isB ((l.getD i []).getD j 0) := by
  by_cases hi : i < l.length
  · rw [List.getD_eq_getElem?_getD (l := l), List.getElem?_eq_getElem hi, Option.getD_some]
    by_cases hj : j < l[i].length
    · rw [List.getD_eq_getElem?_getD, List.getElem?_eq_getElem hj]
      exact h _ (List.getElem_mem hi) _ (List.getElem_mem hj)
    · rw [List.getD_eq_getElem?_getD, List.getElem?_eq_none (by omega)]
      exact ⟨Int.le_refl 0, (by decide : (0 : Int) ≤ 255)⟩
  · rw [List.getD_eq_getElem?_getD (l := l), List.getElem?_eq_none (by omega)]
    exact ⟨Int.le_refl 0, (by decide : (0 : Int) ≤ 255)⟩
/-- What toMx has of a list, as numbers. -/
theorem BytesM.nat {l : List (List Int)} (h : BytesM l) (i j : Nat) : (l.getD i []).getD j 0 = ((toMx l i j).toNat : Int) := by
  have := h.at_ i j
  exact (el_back this.1 this.2).symm
theorem rowL_toMx {l : List (List Int)} (h : BytesM l) {i p : Nat} (hp : (l.getD i []).length = p) : l.getD i [] = rowL p (toMx l i) := rowL_ext hp (fun j _ => h.nat i j)
theorem mxL_toMx {l : List (List Int)} (hb : BytesM l) (ho : OkM l) : mxL l.length (colsM l) (toMx l) = l := by
  apply List.ext_getElem?
  intro i
  by_cases hi : i < l.length
  · rw [mxL_get _ _ _ i hi, ← rowL_toMx hb (ho.row hi), List.getD_eq_getElem?_getD, List.getElem?_eq_getElem hi]; rfl
  · rw [List.getElem?_eq_none (by rw [mxL_length]; omega), List.getElem?_eq_none (by omega)]
theorem mxL_bytes (n p : Nat) (A : GfM.Mx) : BytesM (mxL n p A) := by
  intro r hr x hx
  obtain ⟨i, _, rfl⟩ := List.mem_map.1 hr
  obtain ⟨j, _, rfl⟩ := List.mem_map.1 hx
  exact ⟨by omega, by have := (A i j).isLt; omega⟩
theorem colsM_mxL {n p : Nat} (A : GfM.Mx) (hn : 1 ≤ n) : colsM (mxL n p A) = p := by
  unfold colsM
  rw [List.getD_eq_getElem?_getD, mxL_get n p A 0 (by omega)]
  exact rowL_length p _
theorem mxL_ok {n p : Nat} (A : GfM.Mx) (h1 : 1 ≤ n) (h2 : n ≤ 255) (h3 : 1 ≤ p) (h4 : p ≤ 255) : OkM (mxL n p A) := by
  refine ⟨by rw [mxL_length]; exact h1, by rw [mxL_length]; exact h2, by rw [colsM_mxL A h1]; exact h3, by rw [colsM_mxL A h1]; exact h4, ?_⟩
  rw [colsM_mxL A h1]
  intro r hr
  obtain ⟨i, _, rfl⟩ := List.mem_map.1 hr
  exact rowL_length p _
theorem rd_L2_nat (l : List (List Int)) (i : Nat) : rd_L2 l (i : Int) = l.getD i [] := by unfold rd_L2; rw [Int.toNat_natCast]
theorem rd_L2_zero (l : List (List Int)) : rd_L2 l 0 = l.getD 0 [] := rd_L2_nat l 0
theorem check_j0 (k : Nat) (l : List (List Int)) (b : Bool) : matrix_Check.j0 (k + 1) l b = if b = true then some 2 else matrix_Check.l0 k l l (l.length : Int) 0 := rfl
theorem okM_drop {l : List (List Int)} {i : Nat} (hi : i < l.length) : (∀ r ∈ l.drop i, r.length = colsM l) ↔ (l.getD i []).length = colsM l ∧ ∀ r ∈ l.drop (i + 1), r.length = colsM l := by
  rw [List.drop_eq_getElem_cons hi, List.forall_mem_cons, List.getD_eq_getElem?_getD, List.getElem?_eq_getElem hi]
  rfl
theorem check_l0 (l : List (List Int)) (hl : l.length ≤ 255) (hl1 : 1 ≤ l.length) : ∀ (d i k : Nat), i + d = l.length → d < k → matrix_Check.l0 k l l (l.length : Int) (i : Int) = some (if ∀ r ∈ l.drop i, r.length = colsM l then 0 else 2)
  | 0, i, k + 1, h, hk => by
    unfold matrix_Check.l0
    rw [if_neg (by omega), List.drop_of_length_le (by omega)]
    simp
  | d + 1, i, k + 1, h, hk => by
    have hi : i < l.length := by omega
    have hw : wrap64 ((i : Int) + 1) = ((i + 1 : Nat) : Int) := by unfold wrap64; omega
    unfold matrix_Check.l0
    rw [if_pos (by omega), if_pos (by omega), if_pos (by omega), if_pos (by omega), hw, check_l0 l hl hl1 d (i + 1) k (by omega) (by omega), rd_L2_nat, rd_L2_zero]
    have e := okM_drop hi
    by_cases h1 : (l.getD i []).length = colsM l
    · have h1' : ((l.getD i []).length : Int) = ((l.getD 0 []).length : Int) := by unfold colsM at h1; omega
      rw [if_pos h1']
      simp only [e, h1, true_and]
    · have h1' : ¬ ((l.getD i []).length : Int) = ((l.getD 0 []).length : Int) := by unfold colsM at h1; omega
      rw [if_neg h1', if_neg (fun hh => h1 (e.1 hh).1)]
theorem side_eq (a : Int) : matrix_side.f a = some (decide (1 ≤ a ∧ a ≤ 255)) := by
  unfold matrix_side.f
  by_cases h : a ≥ 1
  · rw [if_pos h]; congr 1; simp; omega
  · rw [if_neg h]; congr 1; simp; omega
theorem check_eq (l : List (List Int)) (k : Nat) (hk : 300 ≤ k) : matrix_Check.f k l = some (if OkM l then 0 else 2) := by
  obtain ⟨k, rfl⟩ : ∃ q, k = q + 1 := ⟨k - 1, by omega⟩
  unfold matrix_Check.f
  rw [side_eq]
  simp only [Option.bind_some]
  by_cases h1 : 1 ≤ l.length ∧ l.length ≤ 255
  · have h1' : (1 : Int) ≤ (l.length : Int) ∧ (l.length : Int) ≤ 255 := by omega
    rw [if_pos (decide_eq_true h1'), if_pos (by omega), side_eq, rd_L2_zero]
    simp only [Option.bind_some, check_j0]
    by_cases h2 : 1 ≤ colsM l ∧ colsM l ≤ 255
    · have h2' : (1 : Int) ≤ ((l.getD 0 []).length : Int) ∧ ((l.getD 0 []).length : Int) ≤ 255 := by unfold colsM at h2; omega
      rw [if_neg (by simp only [h2', and_self, decide_true, Bool.not_true]; decide)]
      have := check_l0 l h1.2 h1.1 l.length 0 k (by omega) (by omega)
      rw [List.drop_zero] at this
      refine Eq.trans this ?_
      congr 1
      unfold OkM
      simp only [h1.1, h1.2, h2.1, h2.2, true_and]
    · have h2' : ¬ ((1 : Int) ≤ ((l.getD 0 []).length : Int) ∧ ((l.getD 0 []).length : Int) ≤ 255) := by unfold colsM at h2; omega
      rw [if_pos (by rw [decide_eq_false h2']; rfl), if_neg (fun hh => h2 ⟨hh.2.2.1, hh.2.2.2.1⟩)]
  · have h1' : ¬ ((1 : Int) ≤ (l.length : Int) ∧ (l.length : Int) ≤ 255) := by omega
    rw [if_neg (by rw [decide_eq_false h1']; decide)]
    rw [check_j0]
    rw [if_pos rfl, if_neg (fun hh => h1 ⟨hh.1, hh.2.1⟩)]
end Go.Proofs.Ytlobaomleocpjaa.G
