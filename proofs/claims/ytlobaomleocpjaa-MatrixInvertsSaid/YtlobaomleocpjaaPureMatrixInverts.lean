/- MatrixInverts: the pure statement: numbers and lists alone. Conditions: those of the statement itself. -/
import Derived.Test.YtlobaomleocpjaaGxMI
import Derived.OpenShut
import Derived.Test.YtlobaomleocpjaaMatSame
namespace Go.Proofs.Ytlobaomleocpjaa.Pure
open Go.RowKit Go.Proofs.Ytlobaomleocpjaa.G Go.Proofs.YtlobaomleocpjaaW.PrintWords Go.Proofs.YtlobaomleocpjaaW.PrintLast Go.Proofs.YtlobaomleocpjaaW.PrintMore Go.OpenShut
set_option linter.unusedVariables false
set_option linter.unusedSimpArgs false
theorem isB_of {a : Int} (h : (Lit.int .u8 a).wf = true) : isB a := by have := bounds_u8 h; unfold isB; omega
theorem mulI_isB (a b : Int) : isB (mulI a b) := el_range _
theorem gfmul {a b : Int} (ha : isB a) (hb : isB b) : gf_Mul.f a b = some (mulI a b) := if_pos ⟨ha, hb⟩
theorem el_mulI (a b : Int) : el (mulI a b) = GfM.mul (el a) (el b) := el_nat _
theorem mulI_nat (a b : BitVec 8) : mulI (a.toNat : Int) (b.toNat : Int) = ((GfM.mul a b).toNat : Int) := by unfold mulI; rw [el_nat, el_nat]
theorem asel {a : Int} (h : isB a) : ∃ x : BitVec 8, a = (x.toNat : Int) := ⟨el a, (el_back h.1 h.2).symm⟩
theorem isB_nat (x : BitVec 8) : isB (x.toNat : Int) := el_range x
theorem el_ne {x : BitVec 8} (h : (x.toNat : Int) ≠ 0) : x ≠ 0#8 := by intro e; apply h; rw [e]; rfl
theorem ne_el {x : BitVec 8} (h : x ≠ 0#8) : (x.toNat : Int) ≠ 0 := by intro e; apply h; apply BitVec.eq_of_toNat_eq; simp; omega
/-- The inverse. -/
def invI (a : Int) : Int := ((GfM.inv (el a)).toNat : Int)
theorem invI_isB (a : Int) : isB (invI a) := el_range _
theorem inv_eq {a : Int} (h : isB a) : gf_Inv.f a = some (if a = 0 then (0, 13) else (invI a, 0)) := by
  unfold gf_Inv.f
  by_cases h0 : a = 0
  · rw [if_pos h0, if_pos h0]
  · rw [if_neg h0, if_neg h0]
    unfold gf_power.f
    rw [if_pos ⟨h, by decide, by decide⟩]
    simp only [Option.bind_some]
    have : powI a 254 = invI a := by
      unfold powI invI GfM.inv
      rw [show (254 : Int).toNat = 254 from rfl]
      rw [show (64 : Nat) = 8 + 56 from rfl, pwk_more 8 _ _ _ 56 (by decide)]
    rw [this]
/-! ### the matrix functions over plain matrices -/
theorem bytesM_of {l : List (List Int)} {n : Nat} (h : l.length * 24 ≤ n ∧ ∀ x0_ ∈ l, (x0_.length * 1 ≤ n ∧ ∀ x1_ ∈ x0_, (Lit.int .u8 x1_).wf = true)) : BytesM l := fun r hr x hx => isB_of ((h.2 r hr).2 x hx)
theorem lives03 (k : Nat) (hk : 300 ≤ k) : caulklaw03_lives.f k = some true := by
  have h : caulklaw03_lives.f 300 = some true := by decide +kernel
  unfold caulklaw03_lives.f at h ⊢
  simp only [check_eq _ 300 (Nat.le_refl _)] at h
  simp only [check_eq _ k hk]
  exact h
theorem small03 (l : List (List Int)) (k : Nat) (hk : 300 ≤ k) : caulklaw03_small.f k l = some (decide (¬ OkM l ∨ (l.length ≤ 12 ∧ colsM l ≤ 12))) := by
  unfold caulklaw03_small.f
  rw [refcheck_eq l k hk]
  simp only [Option.bind_some]
  by_cases h : OkM l
  · rw [if_pos h, if_pos rfl]
    by_cases h1 : l.length ≤ 12
    · rw [if_pos (by omega), if_pos (by have := h.1; omega), rd_L1_zero]
      congr 1
      have : ((l.getD 0 []).length : Int) ≤ 12 ↔ colsM l ≤ 12 := by unfold colsM; omega
      simp only [this, h, h1, not_true, false_or, true_and]
    · rw [if_neg (by omega)]
      congr 1
      exact (decide_eq_false (fun hh => by rcases hh with hh | hh; exact hh h; exact h1 hh.1)).symm
  · rw [if_neg h, if_neg (by decide)]
    congr 1
    exact (decide_eq_true (Or.inl h)).symm
theorem unitf (n : Nat) (h1 : 1 ≤ n) (h2 : n ≤ 255) : matrix_Unit.f (n : Int) = some (mxL n n GfM.idm, 0) := by
  unfold matrix_Unit.f
  rw [if_pos (by omega), Int.toNat_natCast]
theorem cauf (k m : Nat) (h1 : 1 ≤ k) (h2 : 1 ≤ m) (h3 : k + m ≤ 255) : matrix_Cauchy.f (k : Int) (m : Int) = some (mxL m k (cauX k), 0) := by
  unfold matrix_Cauchy.f
  rw [if_pos (by omega), Int.toNat_natCast, Int.toNat_natCast]
theorem mulf {n m p : Nat} (A B : GfM.Mx) (n1 : 1 ≤ n) (n2 : n ≤ 255) (m1 : 1 ≤ m) (m2 : m ≤ 255) (p1 : 1 ≤ p) (p2 : p ≤ 255) : matrix_Mul.f (mxL n m A) (mxL m p B) = some (mxL n p (GfM.mm m A B), 0) := by
  unfold matrix_Mul.f
  rw [if_pos ⟨mxL_bytes _ _ _, mxL_bytes _ _ _⟩, if_pos ⟨mxL_ok _ n1 n2 m1 m2, mxL_ok _ m1 m2 p1 p2⟩, mxL_length, colsM_mxL _ n1, if_pos rfl, mxL_length, colsM_mxL _ m1]
  congr 2
  exact mxL_congr fun i hi j hj => GfM.mm_congr (fun k hk => toMx_mxL A hi hk) (fun k hk => toMx_mxL B hk hj)
theorem invf {n : Nat} (A : GfM.Mx) (n1 : 1 ≤ n) (n2 : n ≤ 255) : (∃ X, GfM.invX n A = some X ∧ matrix_Invert.f (mxL n n A) = some (mxL n n X, 0)) ∨ (GfM.invX n A = none ∧ matrix_Invert.f (mxL n n A) = some ([], 13)) := by
  unfold matrix_Invert.f invAns
  rw [if_pos (mxL_bytes _ _ _), if_pos (mxL_ok _ n1 n2 n1 n2), colsM_mxL _ n1, mxL_length, if_pos rfl]
  have hc : (GfM.invX n (toMx (mxL n n A))).isSome = (GfM.invX n A).isSome ∧ ∀ X X', GfM.invX n (toMx (mxL n n A)) = some X → GfM.invX n A = some X' → GfM.EqM n n X X' := GfM.elimX_congr (n := n) (d := n) (c := 0) (by omega) (fun i hi j hj => toMx_mxL A hi hj) (fun _ _ _ _ => rfl)
  obtain ⟨h1, h2⟩ := hc
  cases e : GfM.invX n A with
  | none =>
    rw [e] at h1
    right
    cases e2 : GfM.invX n (toMx (mxL n n A)) with
    | none => exact ⟨rfl, rfl⟩
    | some X => rw [e2] at h1; cases h1
  | some X =>
    rw [e] at h1
    left
    cases e2 : GfM.invX n (toMx (mxL n n A)) with
    | none => rw [e2] at h1; cases h1
    | some X' => exact ⟨X, rfl, by show some (mxL n n X', (0 : Int)) = some (mxL n n X, 0); rw [mxL_congr (h2 X' X e2 e)]⟩
theorem invf_some {n : Nat} {A X : GfM.Mx} (n1 : 1 ≤ n) (n2 : n ≤ 255) (h : GfM.invX n A = some X) : matrix_Invert.f (mxL n n A) = some (mxL n n X, 0) := by
  rcases invf A n1 n2 with ⟨Y, h1, h2⟩ | ⟨h1, _⟩
  · rw [h] at h1; rw [h2, Option.some.inj h1]
  · rw [h] at h1; cases h1
theorem samef {n p : Nat} {A B : GfM.Mx} (n2 : n ≤ 255) (h : ∀ i, i < n → ∀ j, j < p → A i j = B i j) : caulkref03_Same.f (mxL n p A) (mxL n p B) = some true := by
  unfold caulkref03_Same.f
  rw [if_pos ⟨mxL_bytes _ _ _, mxL_bytes _ _ _, by rw [mxL_length]; omega⟩, decide_eq_true (mxL_congr h)]
theorem rowsf {n p : Nat} (A : GfM.Mx) (n1 : 1 ≤ n) (n2 : n ≤ 255) (p1 : 1 ≤ p) (p2 : p ≤ 255) (rows : List Int) (h1 : 1 ≤ rows.length) (h2 : rows.length ≤ 255) (h : ∀ x ∈ rows, 0 ≤ x ∧ x < (n : Int)) :
    matrix_Rows.f (mxL n p A) rows = some (mxL rows.length p (fun k c => A (rows.getD k 0).toNat c), 0) := by
  unfold matrix_Rows.f
  rw [if_pos (mxL_bytes _ _ _), if_pos (mxL_ok _ n1 n2 p1 p2), if_pos ⟨h1, h2⟩, mxL_length, if_pos h, colsM_mxL _ n1]
  congr 2
  exact mxL_congr fun i hi j hj => by
    have hm : rows.getD i 0 ∈ rows := by rw [List.getD_eq_getElem?_getD, List.getElem?_eq_getElem hi]; exact List.getElem_mem hi
    have := h _ hm
    exact toMx_mxL A (by omega) hj
/-- A right matrix of bytes is one of the plain ones. -/
theorem as_mxL {l : List (List Int)} (hb : BytesM l) (ho : OkM l) : ∃ (n p : Nat) (A : GfM.Mx), 1 ≤ n ∧ n ≤ 255 ∧ 1 ≤ p ∧ p ≤ 255 ∧ l = mxL n p A := ⟨l.length, colsM l, toMx l, ho.1, ho.2.1, ho.2.2.1, ho.2.2.2.1, (mxL_toMx hb ho).symm⟩
theorem MatrixInverts : caulklaw03_MatrixInverts.Pure := by
  intro l0 w0
  have b0 := bytesM_of w0
  refine ⟨1000, ?_⟩
  unfold caulklaw03_MatrixInverts.f
  rw [lives03 1000 (by decide), small03 l0 1000 (by decide)]
  simp only [Option.bind_some]
  by_cases s0 : ¬ OkM l0 ∨ (l0.length ≤ 12 ∧ colsM l0 ≤ 12)
  · rw [decide_eq_true s0, if_pos rfl]
    have e : caulkref03_Invert.f l0 = matrix_Invert.f l0 := by
      unfold caulkref03_Invert.f matrix_Invert.f
      rw [if_pos b0, if_pos ⟨b0, fun h => by have := s0.resolve_left (fun g => g h); omega⟩]
    have e2 : ∃ X : List (List Int) × Int, matrix_Invert.f l0 = some X ∧ BytesM X.1 ∧ X.1.length ≤ 255 := by
      unfold matrix_Invert.f
      rw [if_pos b0]
      have nil : BytesM ([] : List (List Int)) := fun r hr => by cases hr
      by_cases o : OkM l0
      · rw [if_pos o]
        by_cases hc : colsM l0 = l0.length
        · rw [if_pos hc]
          unfold invAns
          cases GfM.invX l0.length (toMx l0) with
          | none => exact ⟨_, rfl, nil, by simp⟩
          | some X => exact ⟨_, rfl, mxL_bytes _ _ _, by rw [mxL_length]; exact o.2.1⟩
        · rw [if_neg hc]; exact ⟨_, rfl, nil, by simp⟩
      · rw [if_neg o]; exact ⟨_, rfl, nil, by simp⟩
    obtain ⟨X, hX, hb, hl⟩ := e2
    rw [e, hX]
    simp only [Option.bind_some, if_true]
    unfold caulkref03_Same.f
    rw [if_pos ⟨hb, hb, by omega⟩]
    simp
  · rw [decide_eq_false s0, if_neg (by decide)]
end Go.Proofs.Ytlobaomleocpjaa.Pure
