/- RsEncodes: the pure statement: numbers and lists alone. Conditions: those of the statement itself. -/
import Derived.Test.YtlobaomleocpjaaGx13
import Derived.OpenShut
import Derived.Test.YtlobaomleocpjaaMatSame
namespace Go.Proofs.Ytlobaomleocpjaa.Pure
open Go.RowKit Go.Proofs.Ytlobaomleocpjaa.G Go.Proofs.YtlobaomleocpjaaW.PrintWords Go.Proofs.YtlobaomleocpjaaW.PrintLast Go.Proofs.YtlobaomleocpjaaW.PrintMore Go.OpenShut
set_option linter.unusedVariables false
set_option linter.unusedSimpArgs false
theorem isB_of {a : Int} (h : (Lit.int .u8 a).wf = true) : isB a := by have := bounds_u8 h; unfold isB; omega
theorem mulI_isB (a b : Int) : isB (mulI a b) := el_range _
theorem gfmul {a b : Int} (ha : isB a) (hb : isB b) : gf_Mul.f a b = some (mulI a b) := if_pos ⟨ha, hb⟩
theorem el_mulI (a b : Int) : el (mulI a b) = GfM.mul (el a) (el b) := el_nat _
theorem mulI_nat (a b : BitVec 8) : mulI (a.toNat : Int) (b.toNat : Int) = ((GfM.mul a b).toNat : Int) := by unfold mulI; rw [el_nat, el_nat]
theorem asel {a : Int} (h : isB a) : ∃ x : BitVec 8, a = (x.toNat : Int) := ⟨el a, (el_back h.1 h.2).symm⟩
theorem isB_nat (x : BitVec 8) : isB (x.toNat : Int) := el_range x
theorem el_ne {x : BitVec 8} (h : (x.toNat : Int) ≠ 0) : x ≠ 0#8 := by intro e; apply h; rw [e]; rfl
theorem ne_el {x : BitVec 8} (h : x ≠ 0#8) : (x.toNat : Int) ≠ 0 := by intro e; apply h; apply BitVec.eq_of_toNat_eq; simp; omega
/-- The inverse. -/
def invI (a : Int) : Int := ((GfM.inv (el a)).toNat : Int)
theorem invI_isB (a : Int) : isB (invI a) := el_range _
theorem inv_eq {a : Int} (h : isB a) : gf_Inv.f a = some (if a = 0 then (0, 13) else (invI a, 0)) := by
  unfold gf_Inv.f
  by_cases h0 : a = 0
  · rw [if_pos h0, if_pos h0]
  · rw [if_neg h0, if_neg h0]
    unfold gf_power.f
    rw [if_pos ⟨h, by decide, by decide⟩]
    simp only [Option.bind_some]
    have : powI a 254 = invI a := by
      unfold powI invI GfM.inv
      rw [show (254 : Int).toNat = 254 from rfl]
      rw [show (64 : Nat) = 8 + 56 from rfl, pwk_more 8 _ _ _ 56 (by decide)]
    rw [this]
theorem refmul {a b : Int} (ha : isB a) (hb : isB b) : caulkref02_Mul.f a b = some (mulI a b) := if_pos ⟨ha, hb⟩
theorem refinv_l0 (x : BitVec 8) (hx : x ≠ 0#8) : ∀ (d i : Nat), i + d = (GfM.inv x).toNat → 1 ≤ i → ∀ k, d < k → caulkref02_Inv.l0 k (x.toNat : Int) (i : Int) = some (((GfM.inv x).toNat : Int), 0)
  | 0, i, hi, h1, k, hk => by
    obtain ⟨k, rfl⟩ : ∃ m, k = m + 1 := ⟨k - 1, by omega⟩
    have hlt := (GfM.inv x).isLt
    obtain rfl : i = (GfM.inv x).toNat := by omega
    simp only [caulkref02_Inv.l0]
    rw [if_pos (by omega), Int.emod_eq_of_lt (by omega) (by omega), refmul (isB_nat _) (isB_nat _), mulI_nat, GfM.mul_inv x hx]
    rfl
  | d + 1, i, hi, h1, k, hk => by
    obtain ⟨k, rfl⟩ : ∃ m, k = m + 1 := ⟨k - 1, by omega⟩
    have hlt := (GfM.inv x).isLt
    simp only [caulkref02_Inv.l0]
    have hi8 : i < 256 := by omega
    have ei : (i : Int) = ((BitVec.ofNat 8 i).toNat : Int) := by rw [BitVec.toNat_ofNat]; omega
    have hne : mulI (x.toNat : Int) (i : Int) ≠ 1 := by
      rw [ei, mulI_nat]
      intro e
      have e1 : GfM.mul x (BitVec.ofNat 8 i) = 1#8 := BitVec.eq_of_toNat_eq (by show _ = 1; omega)
      have e2 := GfM.mul_cancel hx (e1.trans (GfM.mul_inv x hx).symm)
      have := congrArg BitVec.toNat e2
      rw [BitVec.toNat_ofNat] at this
      omega
    rw [if_pos (by omega), Int.emod_eq_of_lt (by omega) (by omega), refmul (isB_nat _) ⟨by omega, by omega⟩]
    simp only [Option.bind_some]
    rw [if_neg hne, show wrap64 ((i : Int) + 1) = ((i + 1 : Nat) : Int) from by unfold wrap64; omega]
    exact refinv_l0 x hx d (i + 1) (by omega) (by omega) k (by omega)
theorem refinv_zero : ∀ (d i : Nat), i + d = 256 → ∀ k, d < k → caulkref02_Inv.l0 k 0 (i : Int) = some (0, 13)
  | 0, i, hi, k, hk => by
    obtain ⟨k, rfl⟩ : ∃ m, k = m + 1 := ⟨k - 1, by omega⟩
    simp only [caulkref02_Inv.l0]
    rw [if_neg (by omega)]
  | d + 1, i, hi, k, hk => by
    obtain ⟨k, rfl⟩ : ∃ m, k = m + 1 := ⟨k - 1, by omega⟩
    simp only [caulkref02_Inv.l0]
    have hz : mulI 0 (i : Int) = 0 := by
      unfold mulI; rw [show el 0 = 0#8 from rfl, GfM.zero_mul]; rfl
    rw [if_pos (by omega), Int.emod_eq_of_lt (by omega) (by omega), refmul ⟨by decide, by decide⟩ ⟨by omega, by omega⟩, hz]
    simp only [Option.bind_some]
    rw [if_neg (by decide), show wrap64 ((i : Int) + 1) = ((i + 1 : Nat) : Int) from by unfold wrap64; omega]
    exact refinv_zero d (i + 1) (by omega) k (by omega)
theorem refinv_eq {a : Int} (h : isB a) (k : Nat) (hk : 300 ≤ k) : caulkref02_Inv.f k a = some (if a = 0 then (0, 13) else (invI a, 0)) := by
  unfold caulkref02_Inv.f
  by_cases h0 : a = 0
  · subst h0
    rw [if_pos rfl]
    exact refinv_zero 255 1 rfl k (by omega)
  · rw [if_neg h0]
    obtain ⟨x, rfl⟩ := asel h
    have hi := GfM.mul_inv x (el_ne h0)
    have h1 : 1 ≤ (GfM.inv x).toNat := by
      by_cases e : (GfM.inv x).toNat = 0
      · have : GfM.inv x = 0#8 := BitVec.eq_of_toNat_eq (by simpa using e)
        rw [this, GfM.mul_zero] at hi
        exact absurd hi (by decide)
      · omega
    have hlt := (GfM.inv x).isLt
    unfold invI
    rw [el_nat]
    exact refinv_l0 x (el_ne h0) ((GfM.inv x).toNat - 1) 1 (by omega) (by omega) k (by omega)
/-! ### the matrix functions over plain matrices -/
theorem bytesM_of {l : List (List Int)} {n : Nat} (h : l.length * 24 ≤ n ∧ ∀ x0_ ∈ l, (x0_.length * 1 ≤ n ∧ ∀ x1_ ∈ x0_, (Lit.int .u8 x1_).wf = true)) : BytesM l := fun r hr x hx => isB_of ((h.2 r hr).2 x hx)
theorem unitf (n : Nat) (h1 : 1 ≤ n) (h2 : n ≤ 255) : matrix_Unit.f (n : Int) = some (mxL n n GfM.idm, 0) := by
  unfold matrix_Unit.f
  rw [if_pos (by omega), Int.toNat_natCast]
theorem cauf (k m : Nat) (h1 : 1 ≤ k) (h2 : 1 ≤ m) (h3 : k + m ≤ 255) : matrix_Cauchy.f (k : Int) (m : Int) = some (mxL m k (cauX k), 0) := by
  unfold matrix_Cauchy.f
  rw [if_pos (by omega), Int.toNat_natCast, Int.toNat_natCast]
theorem mulf {n m p : Nat} (A B : GfM.Mx) (n1 : 1 ≤ n) (n2 : n ≤ 255) (m1 : 1 ≤ m) (m2 : m ≤ 255) (p1 : 1 ≤ p) (p2 : p ≤ 255) : matrix_Mul.f (mxL n m A) (mxL m p B) = some (mxL n p (GfM.mm m A B), 0) := by
  unfold matrix_Mul.f
  rw [if_pos ⟨mxL_bytes _ _ _, mxL_bytes _ _ _⟩, if_pos ⟨mxL_ok _ n1 n2 m1 m2, mxL_ok _ m1 m2 p1 p2⟩, mxL_length, colsM_mxL _ n1, if_pos rfl, mxL_length, colsM_mxL _ m1]
  congr 2
  exact mxL_congr fun i hi j hj => GfM.mm_congr (fun k hk => toMx_mxL A hi hk) (fun k hk => toMx_mxL B hk hj)
theorem invf {n : Nat} (A : GfM.Mx) (n1 : 1 ≤ n) (n2 : n ≤ 255) : (∃ X, GfM.invX n A = some X ∧ matrix_Invert.f (mxL n n A) = some (mxL n n X, 0)) ∨ (GfM.invX n A = none ∧ matrix_Invert.f (mxL n n A) = some ([], 13)) := by
  unfold matrix_Invert.f invAns
  rw [if_pos (mxL_bytes _ _ _), if_pos (mxL_ok _ n1 n2 n1 n2), colsM_mxL _ n1, mxL_length, if_pos rfl]
  have hc : (GfM.invX n (toMx (mxL n n A))).isSome = (GfM.invX n A).isSome ∧ ∀ X X', GfM.invX n (toMx (mxL n n A)) = some X → GfM.invX n A = some X' → GfM.EqM n n X X' := GfM.elimX_congr (n := n) (d := n) (c := 0) (by omega) (fun i hi j hj => toMx_mxL A hi hj) (fun _ _ _ _ => rfl)
  obtain ⟨h1, h2⟩ := hc
  cases e : GfM.invX n A with
  | none =>
    rw [e] at h1
    right
    cases e2 : GfM.invX n (toMx (mxL n n A)) with
    | none => exact ⟨rfl, rfl⟩
    | some X => rw [e2] at h1; cases h1
  | some X =>
    rw [e] at h1
    left
    cases e2 : GfM.invX n (toMx (mxL n n A)) with
    | none => rw [e2] at h1; cases h1
    | some X' => exact ⟨X, rfl, by show some (mxL n n X', (0 : Int)) = some (mxL n n X, 0); rw [mxL_congr (h2 X' X e2 e)]⟩
theorem invf_some {n : Nat} {A X : GfM.Mx} (n1 : 1 ≤ n) (n2 : n ≤ 255) (h : GfM.invX n A = some X) : matrix_Invert.f (mxL n n A) = some (mxL n n X, 0) := by
  rcases invf A n1 n2 with ⟨Y, h1, h2⟩ | ⟨h1, _⟩
  · rw [h] at h1; rw [h2, Option.some.inj h1]
  · rw [h] at h1; cases h1
theorem samef {n p : Nat} {A B : GfM.Mx} (n2 : n ≤ 255) (h : ∀ i, i < n → ∀ j, j < p → A i j = B i j) : caulkref03_Same.f (mxL n p A) (mxL n p B) = some true := by
  unfold caulkref03_Same.f
  rw [if_pos ⟨mxL_bytes _ _ _, mxL_bytes _ _ _, by rw [mxL_length]; omega⟩, decide_eq_true (mxL_congr h)]
theorem rowsf {n p : Nat} (A : GfM.Mx) (n1 : 1 ≤ n) (n2 : n ≤ 255) (p1 : 1 ≤ p) (p2 : p ≤ 255) (rows : List Int) (h1 : 1 ≤ rows.length) (h2 : rows.length ≤ 255) (h : ∀ x ∈ rows, 0 ≤ x ∧ x < (n : Int)) :
    matrix_Rows.f (mxL n p A) rows = some (mxL rows.length p (fun k c => A (rows.getD k 0).toNat c), 0) := by
  unfold matrix_Rows.f
  rw [if_pos (mxL_bytes _ _ _), if_pos (mxL_ok _ n1 n2 p1 p2), if_pos ⟨h1, h2⟩, mxL_length, if_pos h, colsM_mxL _ n1]
  congr 2
  exact mxL_congr fun i hi j hj => by
    have hm : rows.getD i 0 ∈ rows := by rw [List.getD_eq_getElem?_getD, List.getElem?_eq_getElem hi]; exact List.getElem_mem hi
    have := h _ hm
    exact toMx_mxL A (by omega) hj
/-- A right matrix of bytes is one of the plain ones. -/
theorem as_mxL {l : List (List Int)} (hb : BytesM l) (ho : OkM l) : ∃ (n p : Nat) (A : GfM.Mx), 1 ≤ n ∧ n ≤ 255 ∧ 1 ≤ p ∧ p ≤ 255 ∧ l = mxL n p A := ⟨l.length, colsM l, toMx l, ho.1, ho.2.1, ho.2.2.1, ho.2.2.2.1, (mxL_toMx hb ho).symm⟩
/-! ### the document's matrices -/
theorem rd_L1_mxL {n p : Nat} (A : GfM.Mx) {i : Nat} (hi : i < n) : rd_L1 (mxL n p A) (i : Int) = rowL p (A i) := by
  rw [rd_L1_nat, List.getD_eq_getElem?_getD, mxL_get n p A i hi]; rfl
theorem rowL_set (p : Nat) (f : Nat → GfM.F) (j : Nat) (x : GfM.F) : (rowL p f).set j (x.toNat : Int) = rowL p (fun c => if c = j then x else f c) := by
  apply rowL_ext
  · rw [List.length_set, rowL_length]
  · intro c hc
    by_cases e : c = j
    · subst e
      rw [List.getD_eq_getElem?_getD, List.getElem?_set_self (by rw [rowL_length]; exact hc), if_pos rfl]; rfl
    · rw [List.getD_eq_getElem?_getD, List.getElem?_set_ne (fun e' => e e'.symm), ← List.getD_eq_getElem?_getD, rowL_get p f c hc, if_neg e]
theorem mxL_set {n p : Nat} (A : GfM.Mx) {i : Nat} (hi : i < n) (j : Nat) (x : GfM.F) : (mxL n p A).set i ((rowL p (A i)).set j (x.toNat : Int)) = mxL n p (fun r c => if r = i ∧ c = j then x else A r c) := by
  rw [rowL_set]
  apply List.ext_getElem?
  intro r
  by_cases hr : r < n
  · rw [mxL_get _ _ _ r hr]
    by_cases e : r = i
    · subst e
      rw [List.getElem?_set_self (by rw [mxL_length]; exact hr)]
      exact congrArg some (rowL_congr fun c _ => by by_cases e : c = j <;> simp [e])
    · rw [List.getElem?_set_ne (fun e' => e e'.symm), mxL_get _ _ _ r hr]
      exact congrArg some (rowL_congr fun c _ => by rw [if_neg (fun hh => e hh.1)])
  · rw [List.getElem?_eq_none (by rw [List.length_set, mxL_length]; omega), List.getElem?_eq_none (by rw [mxL_length]; omega)]
theorem rd_rowL {p : Nat} (f : Nat → GfM.F) {j : Nat} (hj : j < p) : rd (rowL p f) (j : Int) = ((f j).toNat : Int) := by
  unfold rd
  rw [Int.toNat_natCast, rowL_get p f j hj]
theorem rep_mxL (n p : Nat) : List.replicate n (List.replicate p (0 : Int)) = mxL n p (fun _ _ => 0#8) := by
  have e : List.replicate p (0 : Int) = rowL p (fun _ => 0#8) := rowL_ext (by simp) (fun j hj => by simp [List.getD_eq_getElem?_getD, hj])
  rw [e]
  apply List.ext_getElem?
  intro i
  by_cases hi : i < n
  · rw [mxL_get _ _ _ i hi]; simp [hi]
  · rw [List.getElem?_eq_none (by simp; omega), List.getElem?_eq_none (by rw [mxL_length]; omega)]
theorem refzero_l0 (n p : Nat) (hn : n ≤ 255) (hp : p ≤ 255) (K : Nat) : ∀ (d i : Nat) (acc : List (List Int)), i + d = n → acc.length = i → caulkref03_zero.l0 (K + d + 1) (n : Int) (p : Int) acc (i : Int) = some (acc ++ List.replicate d (List.replicate p 0))
  | 0, i, acc, h, hl => by
    have f0 : ¬ (i : Int) < (n : Int) := by omega
    show (if (i : Int) < (n : Int) then _ else some acc) = _
    rw [if_neg f0]; simp
  | d + 1, i, acc, h, hl => by
    have f0 : (i : Int) < (n : Int) := by omega
    have f1 : (0 : Int) ≤ (p : Int) := by omega
    have f2 : ((p : Int)).toNat ≤ 281474976710656 := by omega
    have f3 : acc.length < 5864062014805 := by omega
    have hw : wrap64 ((i : Int) + 1) = ((i + 1 : Nat) : Int) := by unfold wrap64; omega
    show (if (i : Int) < (n : Int) then (if 0 ≤ (p : Int) then (if (p : Int).toNat ≤ 281474976710656 then (if acc.length < 5864062014805 then (caulkref03_zero.l0 (K + d + 1) (n : Int) (p : Int) (acc ++ [(List.replicate (p : Int).toNat 0)]) (wrap64 ((i : Int) + 1))) else (none)) else (none)) else (none)) else (some acc)) = _
    rw [if_pos f0, if_pos f1, if_pos f2, if_pos f3, hw, refzero_l0 n p hn hp K d (i + 1) _ (by omega) (by simp [hl]), Int.toNat_natCast, List.append_assoc]
    rfl
theorem refzero {n p : Nat} (hn : n ≤ 255) (hp : p ≤ 255) {k : Nat} (hk : 300 ≤ k) : caulkref03_zero.f k (n : Int) (p : Int) = some (mxL n p (fun _ _ => 0#8)) := by
  have := refzero_l0 n p hn hp (k - n - 1) n 0 [] (by omega) rfl
  rw [show k - n - 1 + n + 1 = k from by omega, List.nil_append, rep_mxL] at this
  exact this
/-! Cauchy -/
theorem refinv_any (x : GfM.F) {k : Nat} (hk : 300 ≤ k) : ∃ e, caulkref02_Inv.f k (x.toNat : Int) = some (((GfM.inv x).toNat : Int), e) := by
  rw [refinv_eq (isB_nat x) k hk]
  by_cases h : (x.toNat : Int) = 0
  · have hx : x = 0#8 := BitVec.eq_of_toNat_eq (by simpa using h)
    have h0 : GfM.inv 0#8 = 0#8 := by decide +kernel
    rw [if_pos h, hx, h0]
    exact ⟨13, rfl⟩
  · rw [if_neg h]
    unfold invI
    rw [el_nat]
    exact ⟨0, rfl⟩
def cauQ (k i j : Nat) : GfM.Mx := fun r c => if r < i ∨ (r = i ∧ c < j) then cauX k r c else 0#8
theorem refcau_l {k m : Nat} (hkm : k + m ≤ 255) (k1 : 1 ≤ k) :
    ∀ (d i K : Nat), 300 ≤ K → i + d = m → caulkref03_Cauchy.l0 (K + d * (k + 2) + 1) (k : Int) (mxL m k (cauQ k i 0)) (m : Int) (i : Int) = some (mxL m k (cauX k), 0) := by
  have l1 : ∀ (i : Nat), i < m → ∀ (d j K : Nat), 300 ≤ K → j + d = k → caulkref03_Cauchy.l1 (K + d + 1) (k : Int) (mxL m k (cauQ k i j)) (i : Int) (m : Int) (i : Int) (k : Int) (j : Int) = caulkref03_Cauchy.l0 K (k : Int) (mxL m k (cauQ k (i + 1) 0)) (m : Int) ((i + 1 : Nat) : Int) := by
    intro i hi d
    induction d with
    | zero =>
      intro j K hK h
      have hw : wrap64 ((i : Int) + 1) = ((i + 1 : Nat) : Int) := by unfold wrap64; omega
      unfold caulkref03_Cauchy.l1
      have e : mxL m k (cauQ k i j) = mxL m k (cauQ k (i + 1) 0) := mxL_congr fun r hr c hc => by
        unfold cauQ
        by_cases e1 : r < i ∨ (r = i ∧ c < j)
        · rw [if_pos e1, if_pos (by omega)]
        · rw [if_neg e1, if_neg (by omega)]
      rw [if_neg (by omega), hw, e]
    | succ d ih =>
      intro j K hK h
      have hj : j < k := by omega
      have f1 : (j : Int) < (k : Int) := by omega
      have f2 : (0 : Int) ≤ (i : Int) := by omega
      have f3 : (i : Int) < (m : Int) := by omega
      have f4 : (0 : Int) ≤ (j : Int) := by omega
      have hw : wrap64 ((j : Int) + 1) = ((j + 1 : Nat) : Int) := by unfold wrap64; omega
      have hw2 : wrap64 ((k : Int) + (i : Int)) = ((k + i : Nat) : Int) := by unfold wrap64; omega
      have ea : ((k + i : Nat) : Int) % 256 = ((BitVec.ofNat 8 (k + i)).toNat : Int) := by rw [BitVec.toNat_ofNat]; omega
      have eb : (j : Int) % 256 = ((BitVec.ofNat 8 j).toNat : Int) := by rw [BitVec.toNat_ofNat]; omega
      obtain ⟨er, hI⟩ := refinv_any (BitVec.ofNat 8 (k + i) ^^^ BitVec.ofNat 8 j) (k := K + d + 1) (by omega)
      have ih' := ih (j + 1) K hK (by omega)
      rw [show K + (d + 1) + 1 = (K + d + 1) + 1 from by omega]
      generalize hF : K + d + 1 = F at ih' hI ⊢
      unfold caulkref03_Cauchy.l1
      rw [if_pos f1, if_pos f2, mxL_length, if_pos f3, hw2, ea, eb, g_xor8, hI]
      simp only [Option.bind_some, hw, Int.toNat_natCast]
      rw [if_pos f4, rd_L1_mxL _ hi, rowL_length, if_pos f1]
      have e := mxL_set (p := k) (cauQ k i j) hi j (GfM.inv (BitVec.ofNat 8 (k + i) ^^^ BitVec.ofNat 8 j))
      have e3 : mxL m k (fun r c => if r = i ∧ c = j then GfM.inv (BitVec.ofNat 8 (k + i) ^^^ BitVec.ofNat 8 j) else cauQ k i j r c) = mxL m k (cauQ k i (j + 1)) := mxL_congr fun r hr c hc => by
        unfold cauQ
        by_cases e1 : r = i ∧ c = j
        · rw [if_pos e1, if_pos (by omega), e1.1, e1.2]; rfl
        · rw [if_neg e1]
          by_cases e2 : r < i ∨ (r = i ∧ c < j)
          · rw [if_pos e2, if_pos (by omega)]
          · rw [if_neg e2, if_neg (by omega)]
      rw [e, e3]
      exact ih'
  intro d
  induction d with
  | zero =>
    intro i K hK h
    rw [Nat.zero_mul, Nat.add_zero]
    unfold caulkref03_Cauchy.l0
    have e : mxL m k (cauQ k i 0) = mxL m k (cauX k) := mxL_congr fun r hr c hc => by
      unfold cauQ
      rw [if_pos (by omega)]
    rw [if_neg (by omega), e]
  | succ d ih =>
    intro i K hK h
    have hi : i < m := by omega
    have f0 : (i : Int) < (m : Int) := by omega
    have f1 : (0 : Int) ≤ (i : Int) := by omega
    have ih' := ih (i + 1) K hK (by omega)
    have e := l1 i hi k 0 (K + d * (k + 2) + 1) (by omega) (by omega)
    rw [ih'] at e
    have ef : K + (d + 1) * (k + 2) + 1 = (K + d * (k + 2) + 1 + k + 1) + 1 := by rw [Nat.succ_mul]; omega
    rw [ef]
    generalize hF : K + d * (k + 2) + 1 + k + 1 = F at e ⊢
    unfold caulkref03_Cauchy.l0
    rw [if_pos f0, if_pos f1, mxL_length, if_pos f0, rd_L1_mxL _ hi, rowL_length]
    exact e
theorem refcau_j0 (K : Nat) (x0 x1 : Int) (b : Bool) : caulkref03_Cauchy.j0 (K + 1) x0 x1 b = if b = true then (some (([] : List (List Int)), 1)) else ((caulkref03_zero.f K x1 x0).bind fun t252 => (caulkref03_Cauchy.l0 K x0 t252 (t252.length : Int) 0)) := rfl
theorem refcau (a0 a1 : Int) (s0 : a0 ≤ 20 ∨ a0 > 255) (s1 : a1 ≤ 20 ∨ a1 > 255) {k : Nat} (hk : 5000 ≤ k) : caulkref03_Cauchy.f k a0 a1 = matrix_Cauchy.f a0 a1 := by
  obtain ⟨K, rfl⟩ : ∃ K, k = K + 1 := ⟨k - 1, by omega⟩
  unfold caulkref03_Cauchy.f matrix_Cauchy.f
  simp only [refcau_j0]
  by_cases h1 : a0 < 1
  · rw [if_pos h1, if_neg (show ¬ ((1 ≤ a0 ∧ a0 ≤ 255) ∧ (1 ≤ a1 ∧ a1 ≤ 255) ∧ a1 ≤ 255 - a0) from by omega)]; rfl
  · rw [if_neg h1]
    by_cases h2 : a1 < 1
    · rw [if_pos h2, if_neg (show ¬ ((1 ≤ a0 ∧ a0 ≤ 255) ∧ (1 ≤ a1 ∧ a1 ≤ 255) ∧ a1 ≤ 255 - a0) from by omega)]; rfl
    · rw [if_neg h2]
      by_cases h3 : a0 > 255
      · rw [if_pos h3, if_neg (show ¬ ((1 ≤ a0 ∧ a0 ≤ 255) ∧ (1 ≤ a1 ∧ a1 ≤ 255) ∧ a1 ≤ 255 - a0) from by omega)]; rfl
      · rw [if_neg h3]
        by_cases h4 : a1 > 255
        · rw [if_pos h4, if_neg (show ¬ ((1 ≤ a0 ∧ a0 ≤ 255) ∧ (1 ≤ a1 ∧ a1 ≤ 255) ∧ a1 ≤ 255 - a0) from by omega)]; rfl
        · rw [if_neg h4]
          obtain ⟨n, rfl⟩ := Int.eq_ofNat_of_zero_le (show 0 ≤ a0 by omega)
          obtain ⟨m, rfl⟩ := Int.eq_ofNat_of_zero_le (show 0 ≤ a1 by omega)
          have n2 : n ≤ 20 := by omega
          have m2 : m ≤ 20 := by omega
          have hw : wrap64 ((n : Int) + (m : Int)) = ((n + m : Nat) : Int) := by unfold wrap64; omega
          have hbd : m * (n + 2) ≤ 20 * 22 := Nat.mul_le_mul m2 (by omega)
          rw [hw, decide_eq_false (by omega), if_neg (by decide), if_pos (by omega), refzero (by omega) (by omega) (by omega), Int.toNat_natCast, Int.toNat_natCast]
          have := refcau_l (k := n) (m := m) (by omega) (by omega) m 0 (K - m * (n + 2) - 1) (by omega) (by omega)
          rw [show K - m * (n + 2) - 1 + m * (n + 2) + 1 = K from by omega] at this
          simp only [Option.bind_some, mxL_length]
          have e : mxL m n (fun _ _ => 0#8) = mxL m n (cauQ n 0 0) := mxL_congr fun r _ c _ => by unfold cauQ; rw [if_neg (by omega)]
          rw [e]
          exact this
/-! ### any k rows of the unit with parity's matrix below it -/
def allX (k : Nat) : GfM.Mx := fun i j => if i < k then GfM.idm i j else cauX k (i - k) j
theorem sumN_range (f : Nat → GfM.F) : ∀ n : Nat, GfM.sumN n f = GfM.sumL (List.range n) f := by
  have app : ∀ (l : List Nat) (x : Nat), GfM.sumL (l ++ [x]) f = GfM.sumL l f ^^^ f x := by
    intro l x
    induction l with
    | nil => simp [GfM.sumL]
    | cons a l ih => rw [List.cons_append, GfM.sumL_cons, GfM.sumL_cons, ih, BitVec.xor_assoc]
  intro n
  induction n with
  | zero => rfl
  | succ n ih => rw [GfM.sumN, ih, List.range_succ, app]
theorem sumL_filter (f : Nat → GfM.F) (p : Nat → Bool) (l : List Nat) (h : ∀ x ∈ l, p x = false → f x = 0#8) : GfM.sumL (l.filter p) f = GfM.sumL l f := by
  induction l with
  | nil => rfl
  | cons a l ih =>
    have ih' := ih (fun x hx => h x (List.mem_cons_of_mem _ hx))
    rw [GfM.sumL_cons, List.filter_cons]
    by_cases e : p a = true
    · rw [if_pos e, GfM.sumL_cons, ih']
    · rw [if_neg e, ih', h a List.mem_cons_self (by simpa using e)]; simp
theorem ofNat_inj8 {a b : Nat} (ha : a < 256) (hb : b < 256) (h : BitVec.ofNat 8 a = BitVec.ofNat 8 b) : a = b := by
  have := congrArg BitVec.toNat h
  rwa [BitVec.toNat_ofNat, BitVec.toNat_ofNat, Nat.mod_eq_of_lt ha, Nat.mod_eq_of_lt hb] at this
theorem any_inj {k m : Nat} (h : k + m ≤ 255) {R : List Nat} (hl : R.length = k) (hn : R.Nodup) (hr : ∀ x ∈ R, x < k + m) : GfM.Inj k (fun i c => allX k (R.getD i 0) c) := by
  intro v hv
  have hx : ∀ x ∈ R, GfM.sumN k (fun c => GfM.mul (allX k x c) (v c)) = 0#8 := by
    intro x hx
    obtain ⟨i, hi, e⟩ := List.mem_iff_getElem.1 hx
    have h3 : R.getD i 0 = x := by rw [List.getD_eq_getElem?_getD, List.getElem?_eq_getElem hi]; exact e
    have := hv i (by omega)
    unfold GfM.mm at this
    simp only [h3] at this
    exact this
  have hu : ∀ j, j < k → j ∈ R → v j = 0#8 := by
    intro j hj hjR
    have := hx j hjR
    have e : GfM.sumN k (fun c => GfM.mul (allX k j c) (v c)) = GfM.mm k GfM.idm (fun c _ => v c) j 0 := by
      unfold GfM.mm
      exact GfM.sumN_congr fun c _ => by unfold allX; rw [if_pos hj]
    rw [e, GfM.mm_id_left hj] at this
    exact this
  have hc1 : ((R.filter (fun x => decide (k ≤ x))).map (BitVec.ofNat 8)).length = ((List.range k).filter (fun j => decide (j ∉ R))).length := by
    rw [List.length_map]
    have p1 := (List.filter_append_perm (fun x => decide (k ≤ x)) R).length_eq
    have p2 := (List.filter_append_perm (fun j => decide (j ∉ R)) (List.range k)).length_eq
    rw [List.length_append] at p1 p2
    rw [List.length_range] at p2
    have p3 : (R.filter (fun x => !decide (k ≤ x))).Perm ((List.range k).filter (fun j => !decide (j ∉ R))) := by
      refine (List.perm_ext_iff_of_nodup (hn.sublist List.filter_sublist) (List.nodup_range.sublist List.filter_sublist)).2 fun a => ?_
      simp only [List.mem_filter, List.mem_range, Bool.not_eq_true', decide_eq_false_iff_not, Decidable.not_not]
      constructor
      · rintro ⟨h1, h2⟩; exact ⟨by omega, h1⟩
      · rintro ⟨h1, h2⟩; exact ⟨h2, by omega⟩
    have := p3.length_eq
    omega
  have hY := GfM.cauchy_zero ((R.filter (fun x => decide (k ≤ x))).map (BitVec.ofNat 8)) ((List.range k).filter (fun j => decide (j ∉ R))) (fun j => BitVec.ofNat 8 j) v hc1 ?_ ?_ ?_ ?_
  · intro j hj
    by_cases hjR : j ∈ R
    · exact hu j hj hjR
    · exact hY j (by simp [hj, hjR])
  · have h1 : (R.filter (fun x => decide (k ≤ x))).Nodup := hn.sublist List.filter_sublist
    refine List.pairwise_map.2 (List.Pairwise.imp_of_mem ?_ h1)
    intro a b ha hb hne e
    have ha' := hr a (List.mem_filter.1 ha).1
    have hb' := hr b (List.mem_filter.1 hb).1
    exact hne (ofNat_inj8 (by omega) (by omega) e)
  · have h1 : ((List.range k).filter (fun j => decide (j ∉ R))).Nodup := List.nodup_range.sublist List.filter_sublist
    refine List.Pairwise.imp_of_mem ?_ h1
    intro a b ha hb hne e
    have ha' := List.mem_range.1 (List.mem_filter.1 ha).1
    have hb' := List.mem_range.1 (List.mem_filter.1 hb).1
    exact hne (ofNat_inj8 (by omega) (by omega) e)
  · intro x hxm j hj e
    obtain ⟨r, hr1, rfl⟩ := List.mem_map.1 hxm
    have h1 := List.mem_filter.1 hr1
    have h2 := hr r h1.1
    have h3 : k ≤ r := by simpa using h1.2
    have h4 := List.mem_range.1 (List.mem_filter.1 hj).1
    have := ofNat_inj8 (by omega) (by omega) e
    omega
  · intro x hxm
    obtain ⟨r, hr1, rfl⟩ := List.mem_map.1 hxm
    have h1 := List.mem_filter.1 hr1
    have h2 := hr r h1.1
    have h3 : k ≤ r := by simpa using h1.2
    have h5 := hx r h1.1
    rw [sumL_filter, ← sumN_range]
    · rw [← h5]
      refine GfM.sumN_congr fun c _ => ?_
      unfold allX cauX
      rw [if_neg (by omega), show k + (r - k) = r from by omega, GfM.mul_comm]
    · intro j hj hp
      have hjR : j ∈ R := by simpa using hp
      rw [hu j (List.mem_range.1 hj) hjR, GfM.zero_mul]
/-- Any k rows, each once, have an inverse. -/
theorem any_inv {k m : Nat} (h1 : 1 ≤ k) (h : k + m ≤ 255) {rows : List Int} (hl : rows.length = k) (hn : rows.Nodup) (hr : ∀ x ∈ rows, 0 ≤ x ∧ x < ((k + m : Nat) : Int)) : ∃ X, GfM.invX k (fun i c => allX k (rows.getD i 0).toNat c) = some X := by
  apply GfM.inv_of_inj
  have hi := any_inj h (R := rows.map Int.toNat) (by rw [List.length_map]; exact hl) (List.pairwise_map.2 (List.Pairwise.imp_of_mem (fun ha hb hne e => hne (by have := hr _ ha; have := hr _ hb; omega)) hn)) (by
    intro x hx
    obtain ⟨y, hy, rfl⟩ := List.mem_map.1 hx
    have := hr y hy
    omega)
  have e : (fun i c => allX k ((rows.map Int.toNat).getD i 0) c) = (fun i c => allX k (rows.getD i 0).toNat c) := by
    funext i c
    congr 1
    rw [List.getD_eq_getElem?_getD, List.getD_eq_getElem?_getD, List.getElem?_map]
    cases rows[i]? <;> rfl
  rwa [e] at hi
theorem all_mxL (k m : Nat) : mxL k k GfM.idm ++ mxL m k (cauX k) = mxL (k + m) k (allX k) := by
  apply List.ext_getElem?
  intro i
  by_cases h1 : i < k
  · rw [List.getElem?_append_left (by rw [mxL_length]; exact h1), mxL_get _ _ _ i h1, mxL_get _ _ _ i (by omega)]
    exact congrArg some (rowL_congr fun j _ => by unfold allX; rw [if_pos h1])
  · rw [List.getElem?_append_right (by rw [mxL_length]; omega), mxL_length]
    by_cases h2 : i < k + m
    · rw [mxL_get _ _ _ (i - k) (by omega), mxL_get _ _ _ i h2]
      exact congrArg some (rowL_congr fun j _ => by unfold allX; rw [if_neg h1])
    · rw [List.getElem?_eq_none (by rw [mxL_length]; omega), List.getElem?_eq_none (by rw [mxL_length]; omega)]
/-! ### rs over plain matrices -/
theorem bytesOf_isB (s : ByteArray) : ∀ x ∈ bytesOf s, isB x := by
  intro x hx
  simp only [bytesOf, List.mem_map] at hx
  obtain ⟨b, _, rfl⟩ := hx
  have := b.toNat_lt
  exact ⟨by omega, by omega⟩
theorem son_bytesOf (s : ByteArray) : strOfNums (bytesOf s) = s := by
  have : (strOfNums (bytesOf s)).data.toList = s.data.toList := by
    unfold strOfNums bytesOf
    simp only [List.map_map]
    conv => rhs; rw [← List.map_id s.data.toList]
    apply List.map_congr_left
    intro x hx
    simp
  cases s with
  | mk d =>
    cases h : strOfNums (bytesOf ⟨d⟩) with
    | mk e =>
      rw [h] at this
      exact congrArg ByteArray.mk (Array.toList_inj.1 this)
/-- Pieces of p bytes each. -/
def mxS (n p : Nat) (A : GfM.Mx) : List ByteArray := (List.range n).map fun i => strX p (A i)
theorem mxS_length (n p : Nat) (A : GfM.Mx) : (mxS n p A).length = n := by simp [mxS]
theorem mxS_get (n p : Nat) (A : GfM.Mx) (i : Nat) (hi : i < n) : (mxS n p A)[i]? = some (strX p (A i)) := by simp [mxS, hi]
theorem strX_congr {p : Nat} {f f' : Nat → GfM.F} (h : ∀ j, j < p → f j = f' j) : strX p f = strX p f' := by unfold strX; rw [rowL_congr h]
theorem mxS_congr {n p : Nat} {A A' : GfM.Mx} (h : ∀ i, i < n → ∀ j, j < p → A i j = A' i j) : mxS n p A = mxS n p A' := by
  unfold mxS
  apply List.map_congr_left
  intro i hi
  exact strX_congr (h i (List.mem_range.1 hi))
theorem rdS {n p : Nat} (A : GfM.Mx) {i : Nat} (hi : i < n) : rdOf ByteArray.empty (mxS n p A) (i : Int) = strX p (A i) := by
  unfold rdOf
  rw [Int.toNat_natCast, List.getD_eq_getElem?_getD, mxS_get n p A i hi]; rfl
theorem rdOf_nat (l : List ByteArray) (i : Nat) : rdOf ByteArray.empty l (i : Int) = l.getD i ByteArray.empty := by unfold rdOf; rw [Int.toNat_natCast]
/-- Pieces as a matrix. -/
def toB (l : List ByteArray) : GfM.Mx := fun i j => el ((bytesOf (l.getD i ByteArray.empty)).getD j 0)
theorem strX_back (s : ByteArray) (f : Nat → GfM.F) (h : ∀ j, j < s.size → f j = el ((bytesOf s).getD j 0)) : strX s.size f = s := by
  unfold strX
  have e : bytesOf s = rowL s.size f := rowL_ext (bytesOf_length s) (fun j hj => by
    have hm : (bytesOf s).getD j 0 ∈ bytesOf s := by rw [List.getD_eq_getElem?_getD, List.getElem?_eq_getElem (by rw [bytesOf_length]; exact hj)]; exact List.getElem_mem _
    have := bytesOf_isB s _ hm
    rw [h j hj]
    exact (el_back this.1 this.2).symm)
  rw [← e, son_bytesOf]
theorem mxS_toB {l : List ByteArray} {p : Nat} (h : ∀ s ∈ l, s.size = p) : mxS l.length p (toB l) = l := by
  apply List.ext_getElem?
  intro i
  by_cases hi : i < l.length
  · rw [mxS_get _ _ _ i hi, List.getElem?_eq_getElem hi]
    have hs := h _ (List.getElem_mem hi)
    congr 1
    rw [← hs]
    have e : l.getD i ByteArray.empty = l[i] := by rw [List.getD_eq_getElem?_getD, List.getElem?_eq_getElem hi]; rfl
    exact strX_back _ _ (fun j _ => by unfold toB; rw [e])
  · rw [List.getElem?_eq_none (by rw [mxS_length]; omega), List.getElem?_eq_none (by omega)]
theorem rscheck (a0 a1 : Int) : rs_Check.f a0 a1 = some (if 1 ≤ a0 ∧ a0 ≤ 255 ∧ 0 ≤ a1 ∧ a1 ≤ 255 - a0 then 0 else 1) := by
  unfold rs_Check.f
  by_cases h1 : a0 < 1
  · rw [if_pos h1, if_neg (by omega)]
  · rw [if_neg h1]
    by_cases h2 : a1 < 0
    · rw [if_pos h2, if_neg (by omega)]
    · rw [if_neg h2]
      by_cases h3 : a0 > 255
      · rw [if_pos h3, if_neg (by omega)]
      · rw [if_neg h3]
        have hw : wrap64 (255 - a0) = 255 - a0 := by unfold wrap64; omega
        rw [hw]
        by_cases h4 : a1 > 255 - a0
        · rw [if_pos h4, if_neg (by omega)]
        · rw [if_neg h4, if_pos (by omega)]
/-- Pieces are of one length, and not too long. -/
def Fits (l : List ByteArray) : Prop := ∀ s ∈ l, s.size = (l.getD 0 ByteArray.empty).size ∧ s.size ≤ 65536
instance (l : List ByteArray) : Decidable (Fits l) := by unfold Fits; infer_instance
theorem rsfits_l0 (l : List ByteArray) (hl : l.length ≤ 17592186044416) (K : Nat) : ∀ (d i : Nat), i + d = l.length → rs_fits.l0 (K + d + 1) l l (l.length : Int) (i : Int) = some (decide (∀ s ∈ l.drop i, s.size = (l.getD 0 ByteArray.empty).size ∧ s.size ≤ 65536))
  | 0, i, h => by
    have f0 : ¬ (i : Int) < (l.length : Int) := by omega
    show (if (i : Int) < (l.length : Int) then _ else some true) = _
    rw [if_neg f0, List.drop_of_length_le (by omega)]
    simp
  | d + 1, i, h => by
    have hi : i < l.length := by omega
    have f0 : (i : Int) < (l.length : Int) := by omega
    have f1 : (0 : Int) ≤ (i : Int) := by omega
    have f2 : (0 : Int) < (l.length : Int) := by omega
    have hw : wrap64 ((i : Int) + 1) = ((i + 1 : Nat) : Int) := by unfold wrap64; omega
    have ih := rsfits_l0 l hl K d (i + 1) (by omega)
    have e0 : rdOf ByteArray.empty l 0 = l.getD 0 ByteArray.empty := rdOf_nat l 0
    have ei : l.getD i ByteArray.empty = l[i] := by rw [List.getD_eq_getElem?_getD, List.getElem?_eq_getElem hi]; rfl
    rw [show K + (d + 1) + 1 = (K + d + 1) + 1 from by omega]
    generalize hF : K + d + 1 = F at ih ⊢
    unfold rs_fits.l0
    rw [if_pos f0, if_pos f1, if_pos f0, if_pos f2, rdOf_nat, e0, ei, hw, ih, List.drop_eq_getElem_cons hi]
    simp only [List.forall_mem_cons]
    by_cases h1 : l[i].size = (l.getD 0 ByteArray.empty).size
    · rw [if_pos (by omega)]
      by_cases h2 : l[i].size > 65536
      · rw [if_pos (by omega)]
        congr 1
        exact (decide_eq_false (fun hh => by have := hh.1.2; omega)).symm
      · rw [if_neg (by omega)]
        congr 1
        rw [decide_eq_decide]
        exact ⟨fun hh => ⟨⟨h1, by omega⟩, hh⟩, fun hh => hh.2⟩
    · rw [if_neg (by omega)]
      congr 1
      exact (decide_eq_false (fun hh => h1 hh.1.1)).symm
theorem rsfits {l : List ByteArray} (hl : l.length ≤ 17592186044416) {k : Nat} (hk : l.length < k) : rs_fits.f k l = some (decide (Fits l)) := by
  have := rsfits_l0 l hl (k - l.length - 1) l.length 0 (by omega)
  rw [show k - l.length - 1 + l.length + 1 = k from by omega, List.drop_zero] at this
  exact this
/-! times -/
def stS (n p m : Nat) (A D : GfM.Mx) (i : Nat) : List ByteArray := (List.range n).map fun r => if r < i then strX p (GfM.mm m A D r) else ⟨#[]⟩
theorem stS_length (n p m : Nat) (A D : GfM.Mx) (i : Nat) : (stS n p m A D i).length = n := by simp [stS]
theorem stS_set (n p m : Nat) (A D : GfM.Mx) (i : Nat) (hi : i < n) : (stS n p m A D i).set i (strX p (GfM.mm m A D i)) = stS n p m A D (i + 1) := by
  apply List.ext_getElem?
  intro r
  by_cases hr : r < n
  · by_cases e : r = i
    · subst e
      rw [List.getElem?_set_self (by rw [stS_length]; exact hr)]
      simp [stS, hr]
    · rw [List.getElem?_set_ne (fun e' => e e'.symm)]
      have : (r < i + 1) = (r < i) := by apply propext; omega
      simp only [stS, List.getElem?_map, List.getElem?_range hr, Option.map_some, this]
  · rw [List.getElem?_eq_none (by rw [List.length_set, stS_length]; omega), List.getElem?_eq_none (by rw [stS_length]; omega)]
theorem putf (p : Nat) (f : Nat → GfM.F) (x : GfM.F) (s : Nat → GfM.F) (hp : p ≤ 65536) : gf_Put.f (rowL p f) (x.toNat : Int) (strX p s) = some (rowL p (fun j => f j ^^^ GfM.mul x (s j))) := by
  unfold gf_Put.f
  have hx := x.isLt
  rw [if_pos ⟨⟨by omega, by omega⟩, by rw [strX_size]; omega, by rw [rowL_length]; omega, fun y hy => by
    obtain ⟨j, _, rfl⟩ := List.mem_map.1 hy
    exact ⟨by omega, by have := (f j).isLt; omega⟩⟩, rowL_length, strX_size, Nat.min_self, strX_bytes, putL_rowL]
theorem rstimes_l {n m p : Nat} (A D : GfM.Mx) (hn : n ≤ 255) (hm : m ≤ 255) (m1 : 1 ≤ m) (hp : p ≤ 65536) :
    ∀ (d i K : Nat), i + d = n → rs_times.l0 (K + d * (m + 2) + 1) (mxS m p D) (stS n p m A D i) (mxL n m A) (n : Int) (i : Int) = some (mxS n p (GfM.mm m A D)) := by
  have l1 : ∀ (i : Nat), i < n → ∀ (d j K : Nat), j + d = m → rs_times.l1 (K + d + 1) (mxS m p D) (stS n p m A D i) (i : Int) (rowL p (GfM.mm j A D i)) (mxL n m A) (n : Int) (i : Int) (rowL m (A i)) (m : Int) (j : Int) = rs_times.l0 K (mxS m p D) (stS n p m A D (i + 1)) (mxL n m A) (n : Int) ((i + 1 : Nat) : Int) := by
    intro i hi d
    induction d with
    | zero =>
      intro j K h
      have hj : j = m := by omega
      subst hj
      have f0 : ¬ (j : Int) < (j : Int) := by omega
      have f1 : (0 : Int) ≤ (i : Int) := by omega
      have f2 : (i : Int) < ((stS n p j A D i).length : Int) := by rw [stS_length]; omega
      have hw : wrap64 ((i : Int) + 1) = ((i + 1 : Nat) : Int) := by unfold wrap64; omega
      unfold rs_times.l1
      rw [if_neg f0, if_pos f1, if_pos f2, hw, Int.toNat_natCast]
      rw [show strOfNums (rowL p (GfM.mm j A D i)) = strX p (GfM.mm j A D i) from rfl, stS_set n p j A D i hi]
    | succ d ih =>
      intro j K h
      have hj : j < m := by omega
      have f0 : (j : Int) < (m : Int) := by omega
      have f1 : (0 : Int) ≤ (j : Int) := by omega
      have hw : wrap64 ((j : Int) + 1) = ((j + 1 : Nat) : Int) := by unfold wrap64; omega
      have ih' := ih (j + 1) K (by omega)
      rw [show K + (d + 1) + 1 = (K + d + 1) + 1 from by omega]
      generalize hF : K + d + 1 = F at ih' ⊢
      unfold rs_times.l1
      rw [if_pos f0, if_pos f1]
      simp only [rowL_length, mxS_length]
      rw [if_pos f0, if_pos f0, rd_rowL _ hj, rdS D hj, putf p _ _ _ hp, hw]
      exact ih'
  intro d
  induction d with
  | zero =>
    intro i K h
    have f0 : ¬ (i : Int) < (n : Int) := by omega
    rw [Nat.zero_mul, Nat.add_zero]
    unfold rs_times.l0
    rw [if_neg f0]
    have e : stS n p m A D i = mxS n p (GfM.mm m A D) := by
      unfold stS mxS
      apply List.map_congr_left
      intro r hr
      have := List.mem_range.1 hr
      rw [if_pos (by omega)]
    rw [e]
  | succ d ih =>
    intro i K h
    have hi : i < n := by omega
    have f0 : (i : Int) < (n : Int) := by omega
    have f1 : (0 : Int) ≤ (i : Int) := by omega
    have f2 : (0 : Int) < (m : Int) := by omega
    have f3 : (0 : Int) ≤ (p : Int) := by omega
    have f4 : p ≤ 281474976710656 := by omega
    have ih' := ih (i + 1) K (by omega)
    have e := l1 i hi m 0 (K + d * (m + 2) + 1) (by omega)
    rw [ih'] at e
    have ef : K + (d + 1) * (m + 2) + 1 = (K + d * (m + 2) + 1 + m + 1) + 1 := by rw [Nat.succ_mul]; omega
    have e0 : rdOf ByteArray.empty (mxS m p D) 0 = strX p (D 0) := rdS D (i := 0) (by omega)
    have er : List.replicate p (0 : Int) = rowL p (GfM.mm 0 A D i) := rowL_ext (by simp) (fun j hj => by simp [List.getD_eq_getElem?_getD, hj]; rfl)
    rw [ef]
    generalize hF : K + d * (m + 2) + 1 + m + 1 = F at e ⊢
    unfold rs_times.l0
    simp only [mxL_length, mxS_length, e0, strX_size, Int.toNat_natCast]
    rw [if_pos f0, if_pos f1, if_pos f0, if_pos f2, if_pos f3, if_pos f4, rd_L1_mxL A hi, rowL_length, er]
    exact e
theorem rstimes {n m p : Nat} (A D : GfM.Mx) (hn : n ≤ 255) (hm : m ≤ 255) (m1 : 1 ≤ m) (hp : p ≤ 65536) {k : Nat} (hk : 70000 ≤ k) : rs_times.f k (mxL n m A) (mxS m p D) = some (mxS n p (GfM.mm m A D)) := by
  unfold rs_times.f
  have f1 : (0 : Int) ≤ (n : Int) := by omega
  have f2 : n ≤ 17592186044416 := by omega
  have e : List.replicate n (⟨#[]⟩ : ByteArray) = stS n p m A D 0 := by
    apply List.ext_getElem?
    intro r
    by_cases hr : r < n
    · simp [stS, hr]
    · rw [List.getElem?_eq_none (by simp; omega), List.getElem?_eq_none (by rw [stS_length]; omega)]
  have hb : n * (m + 2) ≤ 255 * 257 := Nat.mul_le_mul hn (by omega)
  have := rstimes_l A D hn hm m1 hp n 0 (k - n * (m + 2) - 1) (by omega)
  rw [show k - n * (m + 2) - 1 + n * (m + 2) + 1 = k from by omega] at this
  simp only [mxL_length, Int.toNat_natCast]
  rw [if_pos f1, if_pos f2, e]
  exact this
/-! parity, Encode -/
theorem rsparity {k m p : Nat} (D : GfM.Mx) (k1 : 1 ≤ k) (hkm : k + m ≤ 255) (hp : p ≤ 65536) {K : Nat} (hK : 70000 ≤ K) : rs_parity.f K (k : Int) (m : Int) (mxS k p D) = some (mxS m p (GfM.mm k (cauX k) D)) := by
  unfold rs_parity.f
  by_cases h : m = 0
  · subst h
    rw [if_pos (by rfl)]; rfl
  · rw [if_neg (by omega), cauf k m k1 (by omega) hkm]
    simp only [Option.bind_some]
    rw [rstimes (cauX k) D (by omega) (by omega) k1 hp hK]
    rfl
/-- What Encode answers, if all is right. -/
theorem rsencode_ok {k m p : Nat} (D : GfM.Mx) (k1 : 1 ≤ k) (hkm : k + m ≤ 255) (hp : p ≤ 65536) {K : Nat} (hK : 70000 ≤ K) : rs_Encode.f K (k : Int) (m : Int) (mxS k p D) = some (mxS m p (GfM.mm k (cauX k) D), 0) := by
  have hfit : Fits (mxS k p D) := by
    intro s hs
    obtain ⟨i, _, rfl⟩ := List.mem_map.1 hs
    have e : (mxS k p D).getD 0 ByteArray.empty = strX p (D 0) := by rw [List.getD_eq_getElem?_getD, mxS_get k p D 0 (by omega)]; rfl
    rw [e, strX_size, strX_size]
    exact ⟨rfl, hp⟩
  unfold rs_Encode.f
  rw [rscheck, if_pos (by omega), rsfits (by rw [mxS_length]; omega) (by rw [mxS_length]; omega), decide_eq_true hfit, rsparity D k1 hkm hp hK]
  simp only [Option.bind_some, mxS_length, if_true]
/-- Either all is right, or there is an error, and nothing. -/
theorem rsencode {a0 a1 : Int} {l : List ByteArray} (hl : l.length ≤ 17592186044416) {K : Nat} (hK : 70000 ≤ K) (hK2 : l.length < K) :
    (∃ (k m p : Nat) (D : GfM.Mx), a0 = (k : Int) ∧ a1 = (m : Int) ∧ 1 ≤ k ∧ k + m ≤ 255 ∧ p ≤ 65536 ∧ l = mxS k p D ∧ rs_Encode.f K a0 a1 l = some (mxS m p (GfM.mm k (cauX k) D), 0)) ∨ ∃ e, e ≠ 0 ∧ rs_Encode.f K a0 a1 l = some ([], e) := by
  by_cases hc : 1 ≤ a0 ∧ a0 ≤ 255 ∧ 0 ≤ a1 ∧ a1 ≤ 255 - a0
  · by_cases hlen : (l.length : Int) = a0
    · by_cases hf : Fits l
      · left
        have hne : 0 < l.length := by omega
        have hp : (l.getD 0 ByteArray.empty).size ≤ 65536 := by
          refine (hf _ ?_).2
          rw [List.getD_eq_getElem?_getD, List.getElem?_eq_getElem hne]
          exact List.getElem_mem hne
        obtain ⟨m, hm⟩ := Int.eq_ofNat_of_zero_le hc.2.2.1
        have e := mxS_toB (l := l) (p := (l.getD 0 ByteArray.empty).size) (fun s hs => (hf s hs).1)
        refine ⟨l.length, m, (l.getD 0 ByteArray.empty).size, toB l, hlen.symm, hm, by omega, by omega, hp, e.symm, ?_⟩
        have := rsencode_ok (k := l.length) (m := m) (toB l) (by omega) (by omega) hp hK
        rw [e, hlen, ← hm] at this
        exact this
      · right
        unfold rs_Encode.f
        rw [rscheck, if_pos hc, rsfits hl hK2, decide_eq_false hf]
        simp only [Option.bind_some, if_true]
        rw [if_pos hlen]
        exact ⟨2, by decide, rfl⟩
    · right
      unfold rs_Encode.f
      rw [rscheck, if_pos hc]
      simp only [Option.bind_some, if_true]
      rw [if_neg hlen]
      exact ⟨2, by decide, rfl⟩
  · right
    unfold rs_Encode.f
    rw [rscheck, if_neg hc]
    exact ⟨1, by decide, rfl⟩
theorem lives04 (k : Nat) (hk : 70100 ≤ k) : caulklaw04_lives.f k = some true := by
  have h : caulklaw04_lives.f 300 = some true := by decide +kernel
  have mono : ∀ d : Nat, caulklaw04_lives.f (300 + d) = some true := by
    intro d
    induction d with
    | zero => exact h
    | succ d ih => exact caulklaw04_lives.mono (300 + d) _ ih
  have := mono (k - 300)
  rwa [show 300 + (k - 300) = k from by omega] at this
theorem small04_l0 (x0 x1 : Int) (l : List ByteArray) (hl : l.length ≤ 17592186044416) (K : Nat) : ∀ (d i : Nat) (x7 : Int), i + d = l.length → i ≤ 16 → 0 ≤ x7 → x7 ≤ 16384 * (i : Int) → (∀ j, j < i → (l.getD j ByteArray.empty).size ≤ 16384) →
    ∃ b, caulklaw04_small.l0 (K + d + 1) x0 x1 x7 l (l.length : Int) (i : Int) = some b ∧ (b = true → l.length ≤ 16 ∧ ∀ s ∈ l, s.size ≤ 16384)
  | 0, i, x7, h, h16, h0, h1, hs => by
    have f0 : ¬ (i : Int) < (l.length : Int) := by omega
    have good : l.length ≤ 16 ∧ ∀ s ∈ l, s.size ≤ 16384 := ⟨by omega, fun s hm => by
      obtain ⟨j, hj, rfl⟩ := List.mem_iff_getElem.1 hm
      have := hs j (by omega)
      rwa [List.getD_eq_getElem?_getD, List.getElem?_eq_getElem hj] at this⟩
    unfold caulklaw04_small.l0
    rw [if_neg f0]
    repeat' split
    all_goals exact ⟨_, rfl, fun _ => good⟩
  | d + 1, i, x7, h, h16, h0, h1, hs => by
    have hi : i < l.length := by omega
    have f0 : (i : Int) < (l.length : Int) := by omega
    have f1 : (0 : Int) ≤ (i : Int) := by omega
    have hw : wrap64 ((i : Int) + 1) = ((i + 1 : Nat) : Int) := by clear h1 hs; unfold wrap64; omega
    rw [show K + (d + 1) + 1 = (K + d + 1) + 1 from by omega]
    have ih := small04_l0 x0 x1 l hl K d (i + 1)
    generalize hF : K + d + 1 = F at ih ⊢
    unfold caulklaw04_small.l0
    rw [if_pos f0, if_pos f1, if_pos f0, rdOf_nat]
    by_cases e : (i : Int) = 16
    · rw [if_pos e]; exact ⟨false, rfl, fun hh => by cases hh⟩
    · rw [if_neg e]
      by_cases e1 : ((l.getD i ByteArray.empty).size : Int) > 16384
      · rw [if_pos e1]; exact ⟨false, rfl, fun hh => by cases hh⟩
      · rw [if_neg e1]
        by_cases e2 : x7 > 16384
        · rw [if_pos e2]; exact ⟨false, rfl, fun hh => by cases hh⟩
        · have hw2 : wrap64 (x7 + ((l.getD i ByteArray.empty).size : Int)) = x7 + ((l.getD i ByteArray.empty).size : Int) := by clear hw ih hs; unfold wrap64; omega
          rw [if_neg e2, hw, hw2]
          refine ih _ (by omega) (by omega) (by omega) (by omega) (fun j hj => ?_)
          by_cases ej : j = i
          · subst ej; omega
          · exact hs j (by omega)
theorem small04 (a0 a1 : Int) {l : List ByteArray} (hl : l.length ≤ 17592186044416) {k : Nat} (hk : l.length < k) : ∃ b, caulklaw04_small.f k a0 a1 l = some b ∧ (b = true → l.length ≤ 16 ∧ ∀ s ∈ l, s.size ≤ 16384) := by
  have := small04_l0 a0 a1 l hl (k - l.length - 1) l.length 0 0 (by omega) (by omega) (by omega) (by omega) (fun j hj => by omega)
  rw [show k - l.length - 1 + l.length + 1 = k from by omega] at this
  exact this
theorem all_mxS (k m p : Nat) (D : GfM.Mx) : mxS k p D ++ mxS m p (GfM.mm k (cauX k) D) = mxS (k + m) p (GfM.mm k (allX k) D) := by
  apply List.ext_getElem?
  intro i
  by_cases h1 : i < k
  · rw [List.getElem?_append_left (by rw [mxS_length]; exact h1), mxS_get _ _ _ i h1, mxS_get _ _ _ i (by omega)]
    congr 1
    apply strX_congr
    intro j _
    have e2 : GfM.mm k (allX k) D i j = GfM.mm k GfM.idm D i j := GfM.mm_congr (fun q _ => by unfold allX; rw [if_pos h1]) (fun _ _ => rfl)
    rw [e2, GfM.mm_id_left h1]
  · rw [List.getElem?_append_right (by rw [mxS_length]; omega), mxS_length]
    by_cases h2 : i < k + m
    · rw [mxS_get _ _ _ (i - k) (by omega), mxS_get _ _ _ i h2]
      congr 1
      apply strX_congr
      intro j _
      unfold GfM.mm
      exact GfM.sumN_congr fun q _ => by unfold allX; rw [if_neg h1]
    · rw [List.getElem?_eq_none (by rw [mxS_length]; omega), List.getElem?_eq_none (by rw [mxS_length]; omega)]
theorem rsequal_l0 (l : List ByteArray) (hl : l.length ≤ 1000) (K : Nat) : ∀ (d i : Nat), i + d = l.length → slices_Equal_string_string.l0 (K + d + 1) l l (l.length : Int) (i : Int) = some true
  | 0, i, h => by
    have f0 : ¬ (i : Int) < (l.length : Int) := by omega
    unfold slices_Equal_string_string.l0
    rw [if_neg f0]
  | d + 1, i, h => by
    have f0 : (i : Int) < (l.length : Int) := by omega
    have f1 : (0 : Int) ≤ (i : Int) := by omega
    have hw : wrap64 ((i : Int) + 1) = ((i + 1 : Nat) : Int) := by unfold wrap64; omega
    have ih := rsequal_l0 l hl K d (i + 1) (by omega)
    rw [show K + (d + 1) + 1 = (K + d + 1) + 1 from by omega]
    generalize hF : K + d + 1 = F at ih ⊢
    unfold slices_Equal_string_string.l0
    rw [if_pos f0, if_pos f1, if_pos f0, if_pos f0, if_pos rfl, hw]
    exact ih
theorem rsequal {l : List ByteArray} (hl : l.length ≤ 1000) {K : Nat} (hK : 2000 ≤ K) : slices_Equal_string_string.f K l l = some true := by
  have := rsequal_l0 l hl (K - l.length - 1) l.length 0 (by omega)
  rw [show K - l.length - 1 + l.length + 1 = K from by omega] at this
  unfold slices_Equal_string_string.f
  rw [if_pos rfl]
  exact this
theorem same4_l0 (l : List ByteArray) (hl : l.length ≤ 1000) (K : Nat) : ∀ (d i : Nat), i + d = l.length → caulkref04_Same.l0 (K + d + 1) l l (l.length : Int) (i : Int) = some true
  | 0, i, h => by
    have f0 : ¬ (i : Int) < (l.length : Int) := by omega
    unfold caulkref04_Same.l0
    rw [if_neg f0]
  | d + 1, i, h => by
    have f0 : (i : Int) < (l.length : Int) := by omega
    have f1 : (0 : Int) ≤ (i : Int) := by omega
    have hw : wrap64 ((i : Int) + 1) = ((i + 1 : Nat) : Int) := by unfold wrap64; omega
    have ih := same4_l0 l hl K d (i + 1) (by omega)
    rw [show K + (d + 1) + 1 = (K + d + 1) + 1 from by omega]
    generalize hF : K + d + 1 = F at ih ⊢
    unfold caulkref04_Same.l0
    rw [if_pos f0, if_pos f1, if_pos f0, if_pos f0, if_pos rfl, hw]
    exact ih
theorem same4 {l : List ByteArray} (hl : l.length ≤ 1000) {K : Nat} (hK : 2000 ≤ K) : caulkref04_Same.f K l l = some true := by
  have := same4_l0 l hl (K - l.length - 1) l.length 0 (by omega)
  rw [show K - l.length - 1 + l.length + 1 = K from by omega] at this
  unfold caulkref04_Same.f
  rw [if_pos rfl]
  exact this
theorem rsgood_j0 (k : Nat) (x0 x1 : Int) (x2 : List ByteArray) (x20 : Bool) : rs_Good.j0 (k + 1) x0 x1 x2 x20 = if x20 = true then (some false) else (if 0 ≤ x0 then (if x0 ≤ (x2.length : Int) then ((rs_Encode.f k x0 x1 (x2.take (x0 : Int).toNat)).bind fun bt454 => (if bt454.2 = 0 then ((slices_Equal_string_string.f k bt454.1 (x2.drop (x0 : Int).toNat)).bind fun t459 => (some t459)) else (some false))) else (none)) else (none)) := rfl
theorem rsgood {k m p : Nat} (D : GfM.Mx) (k1 : 1 ≤ k) (hkm : k + m ≤ 255) (hp : p ≤ 65536) {K : Nat} (hK : 70001 ≤ K) : rs_Good.f K (k : Int) (m : Int) (mxS (k + m) p (GfM.mm k (allX k) D)) = some true := by
  obtain ⟨F, rfl⟩ : ∃ F, K = F + 1 := ⟨K - 1, by omega⟩
  have hw : wrap64 ((k : Int) + (m : Int)) = ((k + m : Nat) : Int) := by unfold wrap64; omega
  have hlen : (mxS (k + m) p (GfM.mm k (allX k) D)).length = k + m := mxS_length _ _ _
  have f1 : (0 : Int) ≤ (k : Int) := by omega
  have f2 : (k : Int) ≤ ((k + m : Nat) : Int) := by omega
  unfold rs_Good.f
  rw [rscheck, if_pos (by omega), hw, hlen]
  simp only [Option.bind_some, if_true, bne_self_eq_false]
  rw [rsgood_j0, if_neg (by decide), hlen, if_pos f1, if_pos f2, Int.toNat_natCast, ← all_mxS, List.take_left' (mxS_length k p D), List.drop_left' (mxS_length k p D), rsencode_ok D k1 hkm hp (by omega)]
  simp only [Option.bind_some, if_true]
  rw [rsequal (by rw [mxS_length]; omega) (by omega)]
  rfl
theorem ref4check (a0 a1 : Int) (h0 : -9223372036854775808 ≤ a0) (h1 : a0 ≤ 9223372036854775807) (h2 : -9223372036854775808 ≤ a1) (h3 : a1 ≤ 9223372036854775807) : caulkref04_Check.f a0 a1 = rs_Check.f a0 a1 := by
  rw [rscheck]
  unfold caulkref04_Check.f
  by_cases c1 : a0 < 1
  · rw [if_pos c1, if_neg (by omega)]
  · rw [if_neg c1]
    by_cases c2 : a1 < 0
    · rw [if_pos c2, if_neg (by omega)]
    · rw [if_neg c2]
      by_cases c3 : a0 > 255
      · rw [if_pos c3, if_neg (by omega)]
      · rw [if_neg c3]
        by_cases c4 : a1 > 255
        · rw [if_pos c4, if_neg (by omega)]
        · rw [if_neg c4]
          have hw : wrap64 (a0 + a1) = a0 + a1 := by unfold wrap64; omega
          rw [hw]
          by_cases c5 : a0 + a1 > 255
          · rw [if_pos c5, if_neg (by omega)]
          · rw [if_neg c5, if_pos (by omega)]
theorem ref4fits_l0 (l : List ByteArray) (hl : l.length ≤ 17592186044416) (K : Nat) : ∀ (d i : Nat), i + d = l.length → caulkref04_fits.l0 (K + d + 1) l l (l.length : Int) (i : Int) = some (decide (∀ s ∈ l.drop i, s.size = (l.getD 0 ByteArray.empty).size ∧ s.size ≤ 65536))
  | 0, i, h => by
    have f0 : ¬ (i : Int) < (l.length : Int) := by omega
    show (if (i : Int) < (l.length : Int) then _ else some true) = _
    rw [if_neg f0, List.drop_of_length_le (by omega)]
    simp
  | d + 1, i, h => by
    have hi : i < l.length := by omega
    have f0 : (i : Int) < (l.length : Int) := by omega
    have f1 : (0 : Int) ≤ (i : Int) := by omega
    have f2 : (0 : Int) < (l.length : Int) := by omega
    have hw : wrap64 ((i : Int) + 1) = ((i + 1 : Nat) : Int) := by unfold wrap64; omega
    have ih := ref4fits_l0 l hl K d (i + 1) (by omega)
    have e0 : rdOf ByteArray.empty l 0 = l.getD 0 ByteArray.empty := rdOf_nat l 0
    have ei : l.getD i ByteArray.empty = l[i] := by rw [List.getD_eq_getElem?_getD, List.getElem?_eq_getElem hi]; rfl
    rw [show K + (d + 1) + 1 = (K + d + 1) + 1 from by omega]
    generalize hF : K + d + 1 = F at ih ⊢
    unfold caulkref04_fits.l0
    rw [if_pos f0, if_pos f1, if_pos f0, if_pos f2, rdOf_nat, e0, ei, hw, ih, List.drop_eq_getElem_cons hi]
    simp only [List.forall_mem_cons]
    by_cases h1 : l[i].size = (l.getD 0 ByteArray.empty).size
    · rw [if_pos (by omega)]
      by_cases h2 : l[i].size > 65536
      · rw [if_pos (by omega)]
        congr 1
        exact (decide_eq_false (fun hh => by have := hh.1.2; omega)).symm
      · rw [if_neg (by omega)]
        congr 1
        rw [decide_eq_decide]
        exact ⟨fun hh => ⟨⟨h1, by omega⟩, hh⟩, fun hh => hh.2⟩
    · rw [if_neg (by omega)]
      congr 1
      exact (decide_eq_false (fun hh => h1 hh.1.1)).symm
theorem ref4fits {l : List ByteArray} (hl : l.length ≤ 17592186044416) {k : Nat} (hk : l.length < k) : caulkref04_fits.f k l = some (decide (Fits l)) := by
  have := ref4fits_l0 l hl (k - l.length - 1) l.length 0 (by omega)
  rw [show k - l.length - 1 + l.length + 1 = k from by omega, List.drop_zero] at this
  exact this

theorem bt_strX (p : Nat) (f : Nat → GfM.F) {j : Nat} (hj : j < p) : bt (strX p f) (j : Int) = ((f j).toNat : Int) := by
  rw [← rd_bytesOf, strX_bytes, rd_rowL f hj]
theorem ref4times_l {n m p : Nat} (A D : GfM.Mx) (hn : n ≤ 255) (hm : m ≤ 255) (m1 : 1 ≤ m) (hp : p ≤ 65536) :
    ∀ (d i K : Nat), i + d = n → caulkref04_times.l0 (K + d * (m * (p + 2) + 2) + 1) (mxS m p D) (mxS i p (GfM.mm m A D)) (mxL n m A) (n : Int) (i : Int) = some (mxS n p (GfM.mm m A D)) := by
  have l2 : ∀ (i : Nat), i < n → ∀ (j : Nat), j < m → ∀ (d q K : Nat), q + d = p → caulkref04_times.l2 (K + d + 1) (mxS m p D) (mxS i p (GfM.mm m A D)) (rowL p (fun c => if c < q then GfM.mm (j + 1) A D i c else GfM.mm j A D i c)) (j : Int) ((A i j).toNat : Int) (mxL n m A) (n : Int) (i : Int) (rowL m (A i)) (m : Int) (j : Int) (p : Int) (q : Int) = caulkref04_times.l1 K (mxS m p D) (mxS i p (GfM.mm m A D)) (rowL p (GfM.mm (j + 1) A D i)) (mxL n m A) (n : Int) (i : Int) (rowL m (A i)) (m : Int) ((j + 1 : Nat) : Int) := by
    intro i hi j hj d
    induction d with
    | zero =>
      intro q K h
      have f0 : ¬ (q : Int) < (p : Int) := by omega
      have hw : wrap64 ((j : Int) + 1) = ((j + 1 : Nat) : Int) := by unfold wrap64; omega
      unfold caulkref04_times.l2
      rw [if_neg f0, hw, rowL_congr (f' := GfM.mm (j + 1) A D i) (fun c hc => by rw [if_pos (by omega)])]
    | succ d ih =>
      intro q K h
      have hq : q < p := by omega
      have f0 : (q : Int) < (p : Int) := by omega
      have f1 : (0 : Int) ≤ (q : Int) := by omega
      have f2 : (0 : Int) ≤ (j : Int) := by omega
      have f3 : (j : Int) < (m : Int) := by omega
      have hw : wrap64 ((q : Int) + 1) = ((q + 1 : Nat) : Int) := by unfold wrap64; omega
      have ih' := ih (q + 1) K (by omega)
      rw [show K + (d + 1) + 1 = (K + d + 1) + 1 from by omega]
      generalize hF : K + d + 1 = F at ih' ⊢
      unfold caulkref04_times.l2
      rw [if_pos f0, if_pos f1]
      simp only [rowL_length, mxS_length]
      rw [if_pos f0, if_pos f2, if_pos f3, rdS D hj, strX_size, if_pos f0, bt_strX p _ hq, refmul (isB_nat _) (isB_nat _)]
      simp only [Option.bind_some, hw, Int.toNat_natCast]
      rw [rd_rowL _ hq, mulI_nat, g_xor8, rowL_set]
      have e : rowL p (fun c => if c = q then ((fun c => if c < q then GfM.mm (j + 1) A D i c else GfM.mm j A D i c) q ^^^ GfM.mul (A i j) (D j q)) else (fun c => if c < q then GfM.mm (j + 1) A D i c else GfM.mm j A D i c) c) = rowL p (fun c => if c < q + 1 then GfM.mm (j + 1) A D i c else GfM.mm j A D i c) := rowL_congr fun c hc => by
        by_cases e : c = q
        · subst e
          rw [if_pos rfl, if_pos (by omega)]
          dsimp only
          rw [if_neg (by omega)]
          rfl
        · rw [if_neg e]
          dsimp only
          by_cases e2 : c < q
          · rw [if_pos e2, if_pos (by omega)]
          · rw [if_neg e2, if_neg (by omega)]
      rw [e]
      exact ih'
  have l1 : ∀ (i : Nat), i < n → ∀ (d j K : Nat), j + d = m → caulkref04_times.l1 (K + d * (p + 2) + 1) (mxS m p D) (mxS i p (GfM.mm m A D)) (rowL p (GfM.mm j A D i)) (mxL n m A) (n : Int) (i : Int) (rowL m (A i)) (m : Int) (j : Int) = caulkref04_times.l0 K (mxS m p D) (mxS (i + 1) p (GfM.mm m A D)) (mxL n m A) (n : Int) ((i + 1 : Nat) : Int) := by
    intro i hi d
    induction d with
    | zero =>
      intro j K h
      have hj : j = m := by omega
      subst hj
      have f0 : ¬ (j : Int) < (j : Int) := by omega
      have f2 : (mxS i p (GfM.mm j A D)).length < 8796093022208 := by rw [mxS_length]; omega
      have hw : wrap64 ((i : Int) + 1) = ((i + 1 : Nat) : Int) := by unfold wrap64; omega
      rw [Nat.zero_mul, Nat.add_zero]
      unfold caulkref04_times.l1
      rw [if_neg f0, if_pos f2, hw]
      rw [show strOfNums (rowL p (GfM.mm j A D i)) = strX p (GfM.mm j A D i) from rfl]
      have e : mxS i p (GfM.mm j A D) ++ [strX p (GfM.mm j A D i)] = mxS (i + 1) p (GfM.mm j A D) := by unfold mxS; rw [List.range_succ, List.map_append, List.map_cons, List.map_nil]
      rw [e]
    | succ d ih =>
      intro j K h
      have hj : j < m := by omega
      have f0 : (j : Int) < (m : Int) := by omega
      have f1 : (0 : Int) ≤ (j : Int) := by omega
      have ih' := ih (j + 1) K (by omega)
      have e := l2 i hi j hj p 0 (K + d * (p + 2) + 1) (by omega)
      rw [ih', rowL_congr (f' := GfM.mm j A D i) (fun c hc => by rw [if_neg (by omega)])] at e
      have ef : K + (d + 1) * (p + 2) + 1 = (K + d * (p + 2) + 1 + p + 1) + 1 := by rw [Nat.succ_mul]; omega
      rw [ef]
      generalize hF : K + d * (p + 2) + 1 + p + 1 = F at e ⊢
      unfold caulkref04_times.l1
      rw [if_pos f0, if_pos f1]
      simp only [rowL_length]
      rw [if_pos f0, rd_rowL _ hj]
      exact e
  intro d
  induction d with
  | zero =>
    intro i K h
    have e : i = n := by omega
    subst e
    have f0 : ¬ (i : Int) < (i : Int) := by omega
    rw [Nat.zero_mul, Nat.add_zero]
    unfold caulkref04_times.l0
    rw [if_neg f0]
  | succ d ih =>
    intro i K h
    have hi : i < n := by omega
    have f0 : (i : Int) < (n : Int) := by omega
    have f1 : (0 : Int) ≤ (i : Int) := by omega
    have f2 : (0 : Int) < (m : Int) := by omega
    have f3 : (0 : Int) ≤ (p : Int) := by omega
    have f4 : p ≤ 281474976710656 := by omega
    have ih' := ih (i + 1) K (by omega)
    have e := l1 i hi m 0 (K + d * (m * (p + 2) + 2) + 1) (by omega)
    rw [ih'] at e
    have ef : K + (d + 1) * (m * (p + 2) + 2) + 1 = (K + d * (m * (p + 2) + 2) + 1 + m * (p + 2) + 1) + 1 := by rw [Nat.succ_mul]; omega
    have e0 : rdOf ByteArray.empty (mxS m p D) 0 = strX p (D 0) := rdS D (i := 0) (by omega)
    have er : List.replicate p (0 : Int) = rowL p (GfM.mm 0 A D i) := rowL_ext (by simp) (fun j hj => by simp [List.getD_eq_getElem?_getD, hj]; rfl)
    rw [ef]
    generalize hF : K + d * (m * (p + 2) + 2) + 1 + m * (p + 2) + 1 = F at e ⊢
    unfold caulkref04_times.l0
    simp only [mxL_length, mxS_length, e0, strX_size, Int.toNat_natCast]
    rw [if_pos f0, if_pos f1, if_pos f0, if_pos f2, if_pos f3, if_pos f4, rd_L1_mxL A hi, rowL_length, er]
    exact e
theorem ref4times {n m p : Nat} (A D : GfM.Mx) (hn : n ≤ 255) (hm : m ≤ 255) (m1 : 1 ≤ m) (hp : p ≤ 65536) {k : Nat} (hk : 5000000000 ≤ k) : caulkref04_times.f k (mxL n m A) (mxS m p D) = some (mxS n p (GfM.mm m A D)) := by
  unfold caulkref04_times.f
  have hb1 : m * (p + 2) ≤ 255 * 65538 := Nat.mul_le_mul hm (by omega)
  have hb : n * (m * (p + 2) + 2) ≤ 255 * (255 * 65538 + 2) := Nat.mul_le_mul hn (by omega)
  have := ref4times_l A D hn hm m1 hp n 0 (k - n * (m * (p + 2) + 2) - 1) (by omega)
  rw [show k - n * (m * (p + 2) + 2) - 1 + n * (m * (p + 2) + 2) + 1 = k from by omega] at this
  rw [mxL_length]
  exact this
theorem ref4enc_j0 (k : Nat) (x0 x1 : Int) (x2 : List ByteArray) (x22 : Bool) : caulkref04_Encode.j0 (k + 1) x0 x1 x2 x22 = if x22 = true then (some (([] : List ByteArray), 2)) else (if x1 = 0 then (some (([] : List ByteArray), 0)) else ((caulkref03_Cauchy.f k x0 x1).bind fun bt574 => ((caulkref04_times.f k bt574.1 x2).bind fun t578 => (some (t578, 0))))) := rfl
theorem ref4encode {a0 a1 : Int} {l : List ByteArray} (hl : l.length ≤ 17592186044416) (s0 : a0 ≤ 20 ∨ a0 > 255) (s1 : a1 ≤ 20 ∨ a1 > 255) (w0 : -9223372036854775808 ≤ a0) (w1 : a0 ≤ 9223372036854775807) (w2 : -9223372036854775808 ≤ a1) (w3 : a1 ≤ 9223372036854775807) {K : Nat} (hK : 6000000000 ≤ K) (hK2 : l.length + 10 < K) (K' : Nat) (hK' : 70000 ≤ K') (hK3 : l.length < K') : caulkref04_Encode.f K a0 a1 l = rs_Encode.f K' a0 a1 l := by
  obtain ⟨F, rfl⟩ : ∃ F, K = F + 1 := ⟨K - 1, by omega⟩
  unfold caulkref04_Encode.f rs_Encode.f
  rw [ref4check a0 a1 w0 w1 w2 w3, rscheck]
  by_cases hc : 1 ≤ a0 ∧ a0 ≤ 255 ∧ 0 ≤ a1 ∧ a1 ≤ 255 - a0
  · rw [if_pos hc]
    simp only [Option.bind_some, if_true]
    by_cases hlen : (l.length : Int) = a0
    · rw [if_pos hlen, if_pos hlen, rsfits hl hK3, ref4fits hl (by omega)]
      simp only [Option.bind_some]
      by_cases hf : Fits l
      · rw [decide_eq_true hf]
        simp only [if_true, Bool.not_true]
        rw [ref4enc_j0, if_neg (by decide)]
        have hne : 0 < l.length := by omega
        have hp : (l.getD 0 ByteArray.empty).size ≤ 65536 := by
          refine (hf _ ?_).2
          rw [List.getD_eq_getElem?_getD, List.getElem?_eq_getElem hne]
          exact List.getElem_mem hne
        obtain ⟨m, hm⟩ := Int.eq_ofNat_of_zero_le hc.2.2.1
        have e := mxS_toB (l := l) (p := (l.getD 0 ByteArray.empty).size) (fun s hs => (hf s hs).1)
        have hpar := rsparity (k := l.length) (m := m) (toB l) (by omega) (by omega) hp hK'
        rw [e, hlen, ← hm] at hpar
        rw [hpar]
        by_cases h0 : a1 = 0
        · rw [if_pos h0]
          have : m = 0 := by omega
          subst this
          rfl
        · rw [if_neg h0, refcau a0 a1 s0 s1 (by omega)]
          have hcf := cauf l.length m (by omega) (by omega) (by omega)
          rw [hlen, ← hm] at hcf
          rw [hcf]
          simp only [Option.bind_some]
          have ht := ref4times (n := m) (m := l.length) (p := (l.getD 0 ByteArray.empty).size) (cauX l.length) (toB l) (by omega) (by omega) (by omega) hp (k := F) (by omega)
          rw [e] at ht
          rw [ht]
          rfl
      · rw [decide_eq_false hf]
        simp only [Bool.false_eq_true, if_false, Bool.not_false]
        rw [ref4enc_j0, if_pos rfl]
    · rw [if_neg hlen, if_neg hlen, ref4enc_j0, if_pos rfl]
  · rw [if_neg hc]
    rfl
theorem small04_fin (x0 x1 : Int) (l : List ByteArray) (hl : l.length ≤ 17592186044416) (K : Nat) : ∀ (d i : Nat) (x7 : Int), i + d = l.length → 0 ≤ x7 → x7 ≤ 16384 * (i : Int) → i ≤ 16 → ∀ b, caulklaw04_small.l0 (K + d + 1) x0 x1 x7 l (l.length : Int) (i : Int) = some b → b = true → (x0 ≤ 16 ∨ x0 > 255) ∧ (x1 ≤ 16 ∨ x1 > 255)
  | 0, i, x7, h, h0, h1, h16, b, he, hb => by
    have f0 : ¬ (i : Int) < (l.length : Int) := by omega
    unfold caulklaw04_small.l0 at he
    rw [if_neg f0] at he
    subst hb
    by_cases c1 : x0 ≤ 16
    · rw [if_pos c1] at he
      by_cases c2 : x1 ≤ 16
      · exact ⟨.inl c1, .inl c2⟩
      · rw [if_neg c2] at he
        by_cases c3 : x1 > 255
        · exact ⟨.inl c1, .inr c3⟩
        · rw [if_neg c3] at he; cases he
    · rw [if_neg c1] at he
      by_cases c4 : x0 > 255
      · rw [if_pos c4] at he
        by_cases c2 : x1 ≤ 16
        · exact ⟨.inr c4, .inl c2⟩
        · rw [if_neg c2] at he
          by_cases c3 : x1 > 255
          · exact ⟨.inr c4, .inr c3⟩
          · rw [if_neg c3] at he; cases he
      · rw [if_neg c4] at he; cases he
  | d + 1, i, x7, h, h0, h1, h16, b, he, hb => by
    have f0 : (i : Int) < (l.length : Int) := by omega
    have f1 : (0 : Int) ≤ (i : Int) := by omega
    have hw : wrap64 ((i : Int) + 1) = ((i + 1 : Nat) : Int) := by clear h1 he; unfold wrap64; omega
    rw [show K + (d + 1) + 1 = (K + d + 1) + 1 from by omega] at he
    have ih := small04_fin x0 x1 l hl K d (i + 1)
    generalize hF : K + d + 1 = F at ih he
    unfold caulklaw04_small.l0 at he
    rw [if_pos f0, if_pos f1, if_pos f0, rdOf_nat] at he
    subst hb
    by_cases e : (i : Int) = 16
    · rw [if_pos e] at he; cases he
    · rw [if_neg e] at he
      by_cases e1 : ((l.getD i ByteArray.empty).size : Int) > 16384
      · rw [if_pos e1] at he; cases he
      · rw [if_neg e1] at he
        by_cases e2 : x7 > 16384
        · rw [if_pos e2] at he; cases he
        · have hw2 : wrap64 (x7 + ((l.getD i ByteArray.empty).size : Int)) = x7 + ((l.getD i ByteArray.empty).size : Int) := by clear hw ih he; unfold wrap64; omega
          rw [if_neg e2, hw, hw2] at he
          exact ih _ (by omega) (by omega) (by omega) (by omega) true he rfl
theorem toList_inj {a b : ByteArray} (h : a.toList = b.toList) : a = b := by
  rw [← son_bytesOf a, ← son_bytesOf b, toList_eq h]
theorem drop_eq {l l' : List ByteArray} {i : Nat} (h : i < l.length) (h' : i < l'.length) : l.drop i = l'.drop i ↔ l.getD i ByteArray.empty = l'.getD i ByteArray.empty ∧ l.drop (i + 1) = l'.drop (i + 1) := by
  rw [List.drop_eq_getElem_cons h, List.drop_eq_getElem_cons h', List.getD_eq_getElem?_getD, List.getD_eq_getElem?_getD, List.getElem?_eq_getElem h, List.getElem?_eq_getElem h']
  simp only [List.cons.injEq, Option.getD_some]
theorem rsequal2_l0 (l l' : List ByteArray) (hll : l'.length = l.length) (hl : l.length ≤ 1000) (K : Nat) : ∀ (d i : Nat), i + d = l.length → slices_Equal_string_string.l0 (K + d + 1) l l' (l.length : Int) (i : Int) = some (decide (l.drop i = l'.drop i))
  | 0, i, h => by
    have f0 : ¬ (i : Int) < (l.length : Int) := by omega
    unfold slices_Equal_string_string.l0
    rw [if_neg f0, List.drop_of_length_le (by omega), List.drop_of_length_le (by omega)]
    rfl
  | d + 1, i, h => by
    have f0 : (i : Int) < (l.length : Int) := by omega
    have f1 : (0 : Int) ≤ (i : Int) := by omega
    have f2 : (i : Int) < (l'.length : Int) := by omega
    have hw : wrap64 ((i : Int) + 1) = ((i + 1 : Nat) : Int) := by unfold wrap64; omega
    have ih := rsequal2_l0 l l' hll hl K d (i + 1) (by omega)
    have hd := drop_eq (l := l) (l' := l') (i := i) (by omega) (by omega)
    rw [show K + (d + 1) + 1 = (K + d + 1) + 1 from by omega]
    generalize hF : K + d + 1 = F at ih ⊢
    unfold slices_Equal_string_string.l0
    rw [if_pos f0, if_pos f1, if_pos f0, if_pos f2, rdOf_nat, rdOf_nat, hw]
    by_cases e : (l.getD i ByteArray.empty).toList = (l'.getD i ByteArray.empty).toList
    · rw [if_pos e, ih]
      congr 1
      rw [decide_eq_decide, hd]
      exact ⟨fun hh => ⟨toList_inj e, hh⟩, fun hh => hh.2⟩
    · rw [if_neg e]
      congr 1
      exact (decide_eq_false (fun hh => e (by rw [(hd.1 hh).1]))).symm
theorem refgood_l0 (k : Nat) (hk : k ≤ 1000) (w l l' : List ByteArray) (hw' : l' = w.drop k) (hwl : w.length = k + l.length) (hll : l'.length = l.length) (hl : l.length ≤ 1000) (K : Nat) : ∀ (d i : Nat), i + d = l.length → caulkref04_Good.l0 (K + d + 1) (k : Int) w l (l.length : Int) (i : Int) = some (decide (l.drop i = l'.drop i))
  | 0, i, h => by
    have f0 : ¬ (i : Int) < (l.length : Int) := by omega
    unfold caulkref04_Good.l0
    rw [if_neg f0, List.drop_of_length_le (by omega), List.drop_of_length_le (by omega)]
    rfl
  | d + 1, i, h => by
    have f0 : (i : Int) < (l.length : Int) := by omega
    have f1 : (0 : Int) ≤ (i : Int) := by omega
    have hw2 : wrap64 ((k : Int) + (i : Int)) = ((k + i : Nat) : Int) := by unfold wrap64; omega
    have f2 : (0 : Int) ≤ ((k + i : Nat) : Int) := by omega
    have f3 : ((k + i : Nat) : Int) < (w.length : Int) := by omega
    have hw : wrap64 ((i : Int) + 1) = ((i + 1 : Nat) : Int) := by unfold wrap64; omega
    have ih := refgood_l0 k hk w l l' hw' hwl hll hl K d (i + 1) (by omega)
    have hd := drop_eq (l := l) (l' := l') (i := i) (by omega) (by omega)
    have eg : w.getD (k + i) ByteArray.empty = l'.getD i ByteArray.empty := by rw [hw', List.getD_eq_getElem?_getD, List.getD_eq_getElem?_getD, List.getElem?_drop]
    rw [show K + (d + 1) + 1 = (K + d + 1) + 1 from by omega]
    generalize hF : K + d + 1 = F at ih ⊢
    unfold caulkref04_Good.l0
    rw [if_pos f0, if_pos f1, if_pos f0, hw2, if_pos f2, if_pos f3, rdOf_nat, rdOf_nat, hw, eg]
    by_cases e : (l'.getD i ByteArray.empty).toList = (l.getD i ByteArray.empty).toList
    · rw [if_pos e, ih]
      congr 1
      rw [decide_eq_decide, hd]
      exact ⟨fun hh => ⟨(toList_inj e).symm, hh⟩, fun hh => hh.2⟩
    · rw [if_neg e]
      congr 1
      exact (decide_eq_false (fun hh => e (by rw [(hd.1 hh).1]))).symm
theorem ref4good_j0 (k : Nat) (x0 x1 : Int) (x2 : List ByteArray) (x22 : Bool) : caulkref04_Good.j0 (k + 1) x0 x1 x2 x22 = if x22 = true then (some false) else (if 0 ≤ x0 then (if x0 ≤ (x2.length : Int) then ((caulkref04_Encode.f k x0 x1 (x2.take (x0 : Int).toNat)).bind fun bt585 => (if bt585.2 = 0 then (caulkref04_Good.l0 k x0 x2 bt585.1 (bt585.1.length : Int) 0) else (some false))) else (none)) else (none)) := rfl
theorem goods {a0 a1 : Int} {l : List ByteArray} (hl : l.length ≤ 17592186044416) (s0 : a0 ≤ 20 ∨ a0 > 255) (s1 : a1 ≤ 20 ∨ a1 > 255) (w0 : -9223372036854775808 ≤ a0) (w1 : a0 ≤ 9223372036854775807) (w2 : -9223372036854775808 ≤ a1) (w3 : a1 ≤ 9223372036854775807) {K : Nat} (hK : 6000000001 ≤ K) (hK2 : l.length + 20 < K) : ∃ b, rs_Good.f K a0 a1 l = some b ∧ caulkref04_Good.f K a0 a1 l = some b := by
  obtain ⟨F, rfl⟩ : ∃ F, K = F + 1 := ⟨K - 1, by omega⟩
  unfold rs_Good.f caulkref04_Good.f
  rw [ref4check a0 a1 w0 w1 w2 w3, rscheck]
  by_cases hc : 1 ≤ a0 ∧ a0 ≤ 255 ∧ 0 ≤ a1 ∧ a1 ≤ 255 - a0
  · rw [if_pos hc]
    simp only [Option.bind_some, if_true]
    have hw : wrap64 (a0 + a1) = a0 + a1 := by unfold wrap64; omega
    rw [hw]
    by_cases hlen : (l.length : Int) = a0 + a1
    · have hb : ((l.length : Int) != a0 + a1) = false := by simp [hlen]
      rw [hb, rsgood_j0, ref4good_j0, if_neg (show ¬ (false = true) by decide), if_neg (show ¬ (false = true) by decide), if_pos (show 0 ≤ a0 by omega), if_pos (show 0 ≤ a0 by omega), if_pos (show a0 ≤ (l.length : Int) by omega), if_pos (show a0 ≤ (l.length : Int) by omega)]
      obtain ⟨k, hk⟩ := Int.eq_ofNat_of_zero_le (show 0 ≤ a0 by omega)
      obtain ⟨m, hm⟩ := Int.eq_ofNat_of_zero_le (show 0 ≤ a1 by omega)
      rw [ref4encode (l := l.take a0.toNat) (by rw [List.length_take]; omega) s0 s1 w0 w1 w2 w3 (K := F) (by omega) (by rw [List.length_take]; omega) F (by omega) (by rw [List.length_take]; omega)]
      rcases rsencode (a0 := a0) (a1 := a1) (l := l.take a0.toNat) (by rw [List.length_take]; omega) (K := F) (by omega) (by rw [List.length_take]; omega) with ⟨k', m', p, D, e0, e1, k1, hkm, hp, hl', hE⟩ | ⟨e, he, hE⟩
      · rw [hE]
        simp only [Option.bind_some, if_true]
        have hdl : (l.drop a0.toNat).length = (mxS m' p (GfM.mm k' (cauX k') D)).length := by rw [List.length_drop, mxS_length]; omega
        refine ⟨decide (mxS m' p (GfM.mm k' (cauX k') D) = l.drop a0.toNat), ?_, ?_⟩
        · have h1 := rsequal2_l0 (mxS m' p (GfM.mm k' (cauX k') D)) (l.drop a0.toNat) hdl (by rw [mxS_length]; omega) (F - m' - 1) m' 0 (by rw [mxS_length]; omega)
          rw [show F - m' - 1 + m' + 1 = F from by omega, List.drop_zero, List.drop_zero] at h1
          unfold slices_Equal_string_string.f
          rw [if_pos (by omega)]
          exact (by rw [show (mxS m' p (GfM.mm k' (cauX k') D)).length = (mxS m' p (GfM.mm k' (cauX k') D)).length from rfl]; exact congrArg (fun o => o.bind fun t459 => some t459) h1)
        · have h2 := refgood_l0 k' (by omega) l (mxS m' p (GfM.mm k' (cauX k') D)) (l.drop a0.toNat) (by rw [show a0.toNat = k' from by omega]) (by rw [mxS_length]; omega) hdl (by rw [mxS_length]; omega) (F - m' - 1) m' 0 (by rw [mxS_length]; omega)
          rw [show F - m' - 1 + m' + 1 = F from by omega, List.drop_zero, List.drop_zero, ← e0] at h2
          exact h2
      · rw [hE]
        simp only [Option.bind_some]
        rw [if_neg he, if_neg he]
        exact ⟨false, rfl, rfl⟩
    · have hb : ((l.length : Int) != a0 + a1) = true := by simp [hlen]
      rw [hb, rsgood_j0, ref4good_j0]
      exact ⟨false, rfl, rfl⟩
  · rw [if_neg hc]
    simp only [Option.bind_some]
    rw [if_neg (by decide), if_neg (by decide), rsgood_j0, ref4good_j0]
    exact ⟨false, rfl, rfl⟩
theorem RsEncodes : caulklaw04_RsEncodes.Pure := by
  intro a0 a1 l2 w0 w1 w2
  have h2 : l2.length ≤ 17592186044416 := by have := w2.1; omega
  have wa := bounds_i64 w0
  have wb := bounds_i64 w1
  obtain ⟨F, hF⟩ : ∃ F : Nat, F = 7000000000 + l2.length := ⟨_, rfl⟩
  refine ⟨F, ?_⟩
  unfold caulklaw04_RsEncodes.f
  obtain ⟨b2, e2, g2⟩ := small04 a0 a1 (l := l2) (k := F) (by omega) (by omega)
  rw [lives04 F (by omega), e2]
  simp only [Option.bind_some, if_true]
  cases b2 with
  | false => rfl
  | true =>
    have s2 := g2 rfl
    have s3 : (a0 ≤ 16 ∨ a0 > 255) ∧ (a1 ≤ 16 ∨ a1 > 255) := by
      have := small04_fin a0 a1 l2 h2 (F - l2.length - 1) l2.length 0 0 (by omega) (by omega) (by omega) (by omega) true
      rw [show F - l2.length - 1 + l2.length + 1 = F from by omega] at this
      exact this e2 rfl
    obtain ⟨bg, hg1, hg2⟩ := goods (a0 := a0) (a1 := a1) (l := l2) h2 (by omega) (by omega) (by omega) (by omega) (by omega) (by omega) (K := F) (by omega) (by omega)
    have hres : ∃ r e, rs_Encode.f F a0 a1 l2 = some (r, e) ∧ r.length ≤ 1000 := by
      rcases rsencode (a0 := a0) (a1 := a1) (l := l2) h2 (K := F) (by omega) (by omega) with ⟨k, m, p, D, _, _, k1, hkm, _, _, hE⟩ | ⟨e, _, hE⟩
      · exact ⟨_, _, hE, by rw [mxS_length]; omega⟩
      · exact ⟨_, _, hE, by simp⟩
    obtain ⟨r, e, hE, hr⟩ := hres
    rw [ref4encode h2 (by omega) (by omega) (by omega) (by omega) (by omega) (by omega) (K := F) (by omega) (by omega) F (by omega) (by omega), hE, ref4check a0 a1 (by omega) (by omega) (by omega) (by omega), rscheck, hg1, hg2]
    simp only [Option.bind_some, if_true]
    rw [same4 hr (by omega)]
    simp only [Option.bind_some, if_true, beq_self_eq_true]
end Go.Proofs.Ytlobaomleocpjaa.Pure
