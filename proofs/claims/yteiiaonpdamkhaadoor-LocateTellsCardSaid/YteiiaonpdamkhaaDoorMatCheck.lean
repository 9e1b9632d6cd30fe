/- matrix.Check and the document's Check answer as one plain function. No condition but that there are rounds enough. -/
import Derived.Test.YteiiaonpdamkhaaDoorMatMem
import Derived.Test.YteiiaonpdamkhaaDoorGx1
namespace Go.Proofs.YteiiaonpdamkhaaDoor.G
open Go.RowKit Go.Proofs.YteiiaonpdamkhaaDoorW.PrintWords Go.Proofs.YteiiaonpdamkhaaDoorW.PrintLast Go.Proofs.YteiiaonpdamkhaaDoorW.PrintMore
set_option linter.unusedVariables false
set_option linter.unusedSimpArgs false
/-- How many columns a matrix has, by its first row. -/
def colsM (l : List (List Int)) : Nat := (l.getD 0 []).length
/-- A matrix is right. -/
def OkM (l : List (List Int)) : Prop := 1 ≤ l.length ∧ l.length ≤ 255 ∧ 1 ≤ colsM l ∧ colsM l ≤ 255 ∧ ∀ r ∈ l, r.length = colsM l
instance (l : List (List Int)) : Decidable (OkM l) := by unfold OkM; infer_instance
/-- All elements are bytes. -/
def BytesM (l : List (List Int)) : Prop := ∀ r ∈ l, ∀ x ∈ r, isB x
instance (l : List (List Int)) : Decidable (BytesM l) := by unfold BytesM isB; infer_instance
theorem OkM.row {l : List (List Int)} (h : OkM l) {i : Nat} (hi : i < l.length) : (l.getD i []).length = colsM l := by
  rw [List.getD_eq_getElem?_getD, List.getElem?_eq_getElem hi]
  exact h.2.2.2.2 _ (List.getElem_mem hi)
theorem BytesM.at_ {l : List (List Int)} (h : BytesM l) (i j : Nat) : isB ((l.getD i []).getD j 0) := by
  by_cases hi : i < l.length
  · rw [List.getD_eq_getElem?_getD (l := l), List.getElem?_eq_getElem hi, Option.getD_some]
    by_cases hj : j < l[i].length
    · rw [List.getD_eq_getElem?_getD, List.getElem?_eq_getElem hj]
      exact h _ (List.getElem_mem hi) _ (List.getElem_mem hj)
    · rw [List.getD_eq_getElem?_getD, List.getElem?_eq_none (by omega)]
      exact ⟨Int.le_refl 0, (by decide : (0 : Int) ≤ 255)⟩
  · rw [List.getD_eq_getElem?_getD (l := l), List.getElem?_eq_none (by omega)]
    exact ⟨Int.le_refl 0, (by decide : (0 : Int) ≤ 255)⟩
/-- What toMx has of a list, as numbers. -/
theorem BytesM.nat {l : List (List Int)} (h : BytesM l) (i j : Nat) : (l.getD i []).getD j 0 = ((toMx l i j).toNat : Int) := by
  have := h.at_ i j
  exact (el_back this.1 this.2).symm
theorem rowL_toMx {l : List (List Int)} (h : BytesM l) {i p : Nat} (hp : (l.getD i []).length = p) : l.getD i [] = rowL p (toMx l i) := rowL_ext hp (fun j _ => h.nat i j)
theorem mxL_toMx {l : List (List Int)} (hb : BytesM l) (ho : OkM l) : mxL l.length (colsM l) (toMx l) = l := by
  apply List.ext_getElem?
  intro i
  by_cases hi : i < l.length
  · rw [mxL_get _ _ _ i hi, ← rowL_toMx hb (ho.row hi), List.getD_eq_getElem?_getD, List.getElem?_eq_getElem hi]; rfl
  · rw [List.getElem?_eq_none (by rw [mxL_length]; omega), List.getElem?_eq_none (by omega)]
theorem mxL_bytes (n p : Nat) (A : GfM.Mx) : BytesM (mxL n p A) := by
  intro r hr x hx
  obtain ⟨i, _, rfl⟩ := List.mem_map.1 hr
  obtain ⟨j, _, rfl⟩ := List.mem_map.1 hx
  exact ⟨by omega, by have := (A i j).isLt; omega⟩
theorem colsM_mxL {n p : Nat} (A : GfM.Mx) (hn : 1 ≤ n) : colsM (mxL n p A) = p := by
  unfold colsM
  rw [List.getD_eq_getElem?_getD, mxL_get n p A 0 (by omega)]
  exact rowL_length p _
theorem mxL_ok {n p : Nat} (A : GfM.Mx) (h1 : 1 ≤ n) (h2 : n ≤ 255) (h3 : 1 ≤ p) (h4 : p ≤ 255) : OkM (mxL n p A) := by
  refine ⟨by rw [mxL_length]; exact h1, by rw [mxL_length]; exact h2, by rw [colsM_mxL A h1]; exact h3, by rw [colsM_mxL A h1]; exact h4, ?_⟩
  rw [colsM_mxL A h1]
  intro r hr
  obtain ⟨i, _, rfl⟩ := List.mem_map.1 hr
  exact rowL_length p _
theorem rd_L2_nat (l : List (List Int)) (i : Nat) : rd_L2 l (i : Int) = l.getD i [] := by unfold rd_L2; rw [Int.toNat_natCast]
theorem rd_L2_zero (l : List (List Int)) : rd_L2 l 0 = l.getD 0 [] := rd_L2_nat l 0
theorem side_eq (a : Int) : matrix_side.f a = some (decide (1 ≤ a ∧ a ≤ 255)) := by
  unfold matrix_side.f
  by_cases h : a ≥ 1
  · rw [if_pos h]; congr 1; simp; omega
  · rw [if_neg h]; congr 1; simp; omega
end Go.Proofs.YteiiaonpdamkhaaDoor.G
