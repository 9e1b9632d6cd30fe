/- MatrixAny: the pure statement: numbers and lists alone. Conditions: those of the statement itself. -/
import Derived.Test.YtlobaomleocpjaaGx8
import Derived.OpenShut
import Derived.Test.YtlobaomleocpjaaGx1
namespace Go.Proofs.Ytlobaomleocpjaa.Pure
open Go.RowKit Go.Proofs.Ytlobaomleocpjaa.G Go.Proofs.YtlobaomleocpjaaW.PrintWords Go.Proofs.YtlobaomleocpjaaW.PrintLast Go.Proofs.YtlobaomleocpjaaW.PrintMore Go.OpenShut
set_option linter.unusedVariables false
set_option linter.unusedSimpArgs false
theorem isB_of {a : Int} (h : (Lit.int .u8 a).wf = true) : isB a := by have := bounds_u8 h; unfold isB; omega
theorem mulI_isB (a b : Int) : isB (mulI a b) := el_range _
theorem gfmul {a b : Int} (ha : isB a) (hb : isB b) : gf_Mul.f a b = some (mulI a b) := if_pos ⟨ha, hb⟩
theorem el_mulI (a b : Int) : el (mulI a b) = GfM.mul (el a) (el b) := el_nat _
theorem mulI_nat (a b : BitVec 8) : mulI (a.toNat : Int) (b.toNat : Int) = ((GfM.mul a b).toNat : Int) := by unfold mulI; rw [el_nat, el_nat]
theorem asel {a : Int} (h : isB a) : ∃ x : BitVec 8, a = (x.toNat : Int) := ⟨el a, (el_back h.1 h.2).symm⟩
theorem isB_nat (x : BitVec 8) : isB (x.toNat : Int) := el_range x
theorem el_ne {x : BitVec 8} (h : (x.toNat : Int) ≠ 0) : x ≠ 0#8 := by intro e; apply h; rw [e]; rfl
theorem ne_el {x : BitVec 8} (h : x ≠ 0#8) : (x.toNat : Int) ≠ 0 := by intro e; apply h; apply BitVec.eq_of_toNat_eq; simp; omega
/-- The inverse. -/
def invI (a : Int) : Int := ((GfM.inv (el a)).toNat : Int)
theorem invI_isB (a : Int) : isB (invI a) := el_range _
theorem inv_eq {a : Int} (h : isB a) : gf_Inv.f a = some (if a = 0 then (0, 13) else (invI a, 0)) := by
  unfold gf_Inv.f
  by_cases h0 : a = 0
  · rw [if_pos h0, if_pos h0]
  · rw [if_neg h0, if_neg h0]
    unfold gf_power.f
    rw [if_pos ⟨h, by decide, by decide⟩]
    simp only [Option.bind_some]
    have : powI a 254 = invI a := by
      unfold powI invI GfM.inv
      rw [show (254 : Int).toNat = 254 from rfl]
      rw [show (64 : Nat) = 8 + 56 from rfl, pwk_more 8 _ _ _ 56 (by decide)]
    rw [this]
/-! ### the matrix functions over plain matrices -/
theorem bytesM_of {l : List (List Int)} {n : Nat} (h : l.length * 24 ≤ n ∧ ∀ x0_ ∈ l, (x0_.length * 1 ≤ n ∧ ∀ x1_ ∈ x0_, (Lit.int .u8 x1_).wf = true)) : BytesM l := fun r hr x hx => isB_of ((h.2 r hr).2 x hx)
theorem lives03 (k : Nat) (hk : 300 ≤ k) : caulklaw03_lives.f k = some true := by
  have h : caulklaw03_lives.f 300 = some true := by decide +kernel
  unfold caulklaw03_lives.f at h ⊢
  simp only [check_eq _ 300 (Nat.le_refl _)] at h
  simp only [check_eq _ k hk]
  exact h
theorem small03 (l : List (List Int)) (k : Nat) (hk : 300 ≤ k) : caulklaw03_small.f k l = some (decide (¬ OkM l ∨ (l.length ≤ 12 ∧ colsM l ≤ 12))) := by
  unfold caulklaw03_small.f
  rw [refcheck_eq l k hk]
  simp only [Option.bind_some]
  by_cases h : OkM l
  · rw [if_pos h, if_pos rfl]
    by_cases h1 : l.length ≤ 12
    · rw [if_pos (by omega), if_pos (by have := h.1; omega), rd_L1_zero]
      congr 1
      have : ((l.getD 0 []).length : Int) ≤ 12 ↔ colsM l ≤ 12 := by unfold colsM; omega
      simp only [this, h, h1, not_true, false_or, true_and]
    · rw [if_neg (by omega)]
      congr 1
      exact (decide_eq_false (fun hh => by rcases hh with hh | hh; exact hh h; exact h1 hh.1)).symm
  · rw [if_neg h, if_neg (by decide)]
    congr 1
    exact (decide_eq_true (Or.inl h)).symm
theorem unitf (n : Nat) (h1 : 1 ≤ n) (h2 : n ≤ 255) : matrix_Unit.f (n : Int) = some (mxL n n GfM.idm, 0) := by
  unfold matrix_Unit.f
  rw [if_pos (by omega), Int.toNat_natCast]
theorem cauf (k m : Nat) (h1 : 1 ≤ k) (h2 : 1 ≤ m) (h3 : k + m ≤ 255) : matrix_Cauchy.f (k : Int) (m : Int) = some (mxL m k (cauX k), 0) := by
  unfold matrix_Cauchy.f
  rw [if_pos (by omega), Int.toNat_natCast, Int.toNat_natCast]
theorem mulf {n m p : Nat} (A B : GfM.Mx) (n1 : 1 ≤ n) (n2 : n ≤ 255) (m1 : 1 ≤ m) (m2 : m ≤ 255) (p1 : 1 ≤ p) (p2 : p ≤ 255) : matrix_Mul.f (mxL n m A) (mxL m p B) = some (mxL n p (GfM.mm m A B), 0) := by
  unfold matrix_Mul.f
  rw [if_pos ⟨mxL_bytes _ _ _, mxL_bytes _ _ _⟩, if_pos ⟨mxL_ok _ n1 n2 m1 m2, mxL_ok _ m1 m2 p1 p2⟩, mxL_length, colsM_mxL _ n1, if_pos rfl, mxL_length, colsM_mxL _ m1]
  congr 2
  exact mxL_congr fun i hi j hj => GfM.mm_congr (fun k hk => toMx_mxL A hi hk) (fun k hk => toMx_mxL B hk hj)
theorem invf {n : Nat} (A : GfM.Mx) (n1 : 1 ≤ n) (n2 : n ≤ 255) : (∃ X, GfM.invX n A = some X ∧ matrix_Invert.f (mxL n n A) = some (mxL n n X, 0)) ∨ (GfM.invX n A = none ∧ matrix_Invert.f (mxL n n A) = some ([], 13)) := by
  unfold matrix_Invert.f invAns
  rw [if_pos (mxL_bytes _ _ _), if_pos (mxL_ok _ n1 n2 n1 n2), colsM_mxL _ n1, mxL_length, if_pos rfl]
  have hc : (GfM.invX n (toMx (mxL n n A))).isSome = (GfM.invX n A).isSome ∧ ∀ X X', GfM.invX n (toMx (mxL n n A)) = some X → GfM.invX n A = some X' → GfM.EqM n n X X' := GfM.elimX_congr (n := n) (d := n) (c := 0) (by omega) (fun i hi j hj => toMx_mxL A hi hj) (fun _ _ _ _ => rfl)
  obtain ⟨h1, h2⟩ := hc
  cases e : GfM.invX n A with
  | none =>
    rw [e] at h1
    right
    cases e2 : GfM.invX n (toMx (mxL n n A)) with
    | none => exact ⟨rfl, rfl⟩
    | some X => rw [e2] at h1; cases h1
  | some X =>
    rw [e] at h1
    left
    cases e2 : GfM.invX n (toMx (mxL n n A)) with
    | none => rw [e2] at h1; cases h1
    | some X' => exact ⟨X, rfl, by show some (mxL n n X', (0 : Int)) = some (mxL n n X, 0); rw [mxL_congr (h2 X' X e2 e)]⟩
theorem invf_some {n : Nat} {A X : GfM.Mx} (n1 : 1 ≤ n) (n2 : n ≤ 255) (h : GfM.invX n A = some X) : matrix_Invert.f (mxL n n A) = some (mxL n n X, 0) := by
  rcases invf A n1 n2 with ⟨Y, h1, h2⟩ | ⟨h1, _⟩
  · rw [h] at h1; rw [h2, Option.some.inj h1]
  · rw [h] at h1; cases h1
theorem samef {n p : Nat} {A B : GfM.Mx} (n2 : n ≤ 255) (h : ∀ i, i < n → ∀ j, j < p → A i j = B i j) : caulkref03_Same.f (mxL n p A) (mxL n p B) = some true := by
  unfold caulkref03_Same.f
  rw [if_pos ⟨mxL_bytes _ _ _, mxL_bytes _ _ _, by rw [mxL_length]; omega⟩, decide_eq_true (mxL_congr h)]
theorem rowsf {n p : Nat} (A : GfM.Mx) (n1 : 1 ≤ n) (n2 : n ≤ 255) (p1 : 1 ≤ p) (p2 : p ≤ 255) (rows : List Int) (h1 : 1 ≤ rows.length) (h2 : rows.length ≤ 255) (h : ∀ x ∈ rows, 0 ≤ x ∧ x < (n : Int)) :
    matrix_Rows.f (mxL n p A) rows = some (mxL rows.length p (fun k c => A (rows.getD k 0).toNat c), 0) := by
  unfold matrix_Rows.f
  rw [if_pos (mxL_bytes _ _ _), if_pos (mxL_ok _ n1 n2 p1 p2), if_pos ⟨h1, h2⟩, mxL_length, if_pos h, colsM_mxL _ n1]
  congr 2
  exact mxL_congr fun i hi j hj => by
    have hm : rows.getD i 0 ∈ rows := by rw [List.getD_eq_getElem?_getD, List.getElem?_eq_getElem hi]; exact List.getElem_mem hi
    have := h _ hm
    exact toMx_mxL A (by omega) hj
/-- A right matrix of bytes is one of the plain ones. -/
theorem as_mxL {l : List (List Int)} (hb : BytesM l) (ho : OkM l) : ∃ (n p : Nat) (A : GfM.Mx), 1 ≤ n ∧ n ≤ 255 ∧ 1 ≤ p ∧ p ≤ 255 ∧ l = mxL n p A := ⟨l.length, colsM l, toMx l, ho.1, ho.2.1, ho.2.2.1, ho.2.2.2.1, (mxL_toMx hb ho).symm⟩
/-! ### any k rows of the unit with parity's matrix below it -/
def allX (k : Nat) : GfM.Mx := fun i j => if i < k then GfM.idm i j else cauX k (i - k) j
theorem sumN_range (f : Nat → GfM.F) : ∀ n : Nat, GfM.sumN n f = GfM.sumL (List.range n) f := by
  have app : ∀ (l : List Nat) (x : Nat), GfM.sumL (l ++ [x]) f = GfM.sumL l f ^^^ f x := by
    intro l x
    induction l with
    | nil => simp [GfM.sumL]
    | cons a l ih => rw [List.cons_append, GfM.sumL_cons, GfM.sumL_cons, ih, BitVec.xor_assoc]
  intro n
  induction n with
  | zero => rfl
  | succ n ih => rw [GfM.sumN, ih, List.range_succ, app]
theorem sumL_filter (f : Nat → GfM.F) (p : Nat → Bool) (l : List Nat) (h : ∀ x ∈ l, p x = false → f x = 0#8) : GfM.sumL (l.filter p) f = GfM.sumL l f := by
  induction l with
  | nil => rfl
  | cons a l ih =>
    have ih' := ih (fun x hx => h x (List.mem_cons_of_mem _ hx))
    rw [GfM.sumL_cons, List.filter_cons]
    by_cases e : p a = true
    · rw [if_pos e, GfM.sumL_cons, ih']
    · rw [if_neg e, ih', h a List.mem_cons_self (by simpa using e)]; simp
theorem ofNat_inj8 {a b : Nat} (ha : a < 256) (hb : b < 256) (h : BitVec.ofNat 8 a = BitVec.ofNat 8 b) : a = b := by
  have := congrArg BitVec.toNat h
  rwa [BitVec.toNat_ofNat, BitVec.toNat_ofNat, Nat.mod_eq_of_lt ha, Nat.mod_eq_of_lt hb] at this
theorem any_inj {k m : Nat} (h : k + m ≤ 255) {R : List Nat} (hl : R.length = k) (hn : R.Nodup) (hr : ∀ x ∈ R, x < k + m) : GfM.Inj k (fun i c => allX k (R.getD i 0) c) := by
  intro v hv
  have hx : ∀ x ∈ R, GfM.sumN k (fun c => GfM.mul (allX k x c) (v c)) = 0#8 := by
    intro x hx
    obtain ⟨i, hi, e⟩ := List.mem_iff_getElem.1 hx
    have h3 : R.getD i 0 = x := by rw [List.getD_eq_getElem?_getD, List.getElem?_eq_getElem hi]; exact e
    have := hv i (by omega)
    unfold GfM.mm at this
    simp only [h3] at this
    exact this
  have hu : ∀ j, j < k → j ∈ R → v j = 0#8 := by
    intro j hj hjR
    have := hx j hjR
    have e : GfM.sumN k (fun c => GfM.mul (allX k j c) (v c)) = GfM.mm k GfM.idm (fun c _ => v c) j 0 := by
      unfold GfM.mm
      exact GfM.sumN_congr fun c _ => by unfold allX; rw [if_pos hj]
    rw [e, GfM.mm_id_left hj] at this
    exact this
  have hc1 : ((R.filter (fun x => decide (k ≤ x))).map (BitVec.ofNat 8)).length = ((List.range k).filter (fun j => decide (j ∉ R))).length := by
    rw [List.length_map]
    have p1 := (List.filter_append_perm (fun x => decide (k ≤ x)) R).length_eq
    have p2 := (List.filter_append_perm (fun j => decide (j ∉ R)) (List.range k)).length_eq
    rw [List.length_append] at p1 p2
    rw [List.length_range] at p2
    have p3 : (R.filter (fun x => !decide (k ≤ x))).Perm ((List.range k).filter (fun j => !decide (j ∉ R))) := by
      refine (List.perm_ext_iff_of_nodup (hn.sublist List.filter_sublist) (List.nodup_range.sublist List.filter_sublist)).2 fun a => ?_
      simp only [List.mem_filter, List.mem_range, Bool.not_eq_true', decide_eq_false_iff_not, Decidable.not_not]
      constructor
      · rintro ⟨h1, h2⟩; exact ⟨by omega, h1⟩
      · rintro ⟨h1, h2⟩; exact ⟨h2, by omega⟩
    have := p3.length_eq
    omega
  have hY := GfM.cauchy_zero ((R.filter (fun x => decide (k ≤ x))).map (BitVec.ofNat 8)) ((List.range k).filter (fun j => decide (j ∉ R))) (fun j => BitVec.ofNat 8 j) v hc1 ?_ ?_ ?_ ?_
  · intro j hj
    by_cases hjR : j ∈ R
    · exact hu j hj hjR
    · exact hY j (by simp [hj, hjR])
  · have h1 : (R.filter (fun x => decide (k ≤ x))).Nodup := hn.sublist List.filter_sublist
    refine List.pairwise_map.2 (List.Pairwise.imp_of_mem ?_ h1)
    intro a b ha hb hne e
    have ha' := hr a (List.mem_filter.1 ha).1
    have hb' := hr b (List.mem_filter.1 hb).1
    exact hne (ofNat_inj8 (by omega) (by omega) e)
  · have h1 : ((List.range k).filter (fun j => decide (j ∉ R))).Nodup := List.nodup_range.sublist List.filter_sublist
    refine List.Pairwise.imp_of_mem ?_ h1
    intro a b ha hb hne e
    have ha' := List.mem_range.1 (List.mem_filter.1 ha).1
    have hb' := List.mem_range.1 (List.mem_filter.1 hb).1
    exact hne (ofNat_inj8 (by omega) (by omega) e)
  · intro x hxm j hj e
    obtain ⟨r, hr1, rfl⟩ := List.mem_map.1 hxm
    have h1 := List.mem_filter.1 hr1
    have h2 := hr r h1.1
    have h3 : k ≤ r := by simpa using h1.2
    have h4 := List.mem_range.1 (List.mem_filter.1 hj).1
    have := ofNat_inj8 (by omega) (by omega) e
    omega
  · intro x hxm
    obtain ⟨r, hr1, rfl⟩ := List.mem_map.1 hxm
    have h1 := List.mem_filter.1 hr1
    have h2 := hr r h1.1
    have h3 : k ≤ r := by simpa using h1.2
    have h5 := hx r h1.1
    rw [sumL_filter, ← sumN_range]
    · rw [← h5]
      refine GfM.sumN_congr fun c _ => ?_
      unfold allX cauX
      rw [if_neg (by omega), show k + (r - k) = r from by omega, GfM.mul_comm]
    · intro j hj hp
      have hjR : j ∈ R := by simpa using hp
      rw [hu j (List.mem_range.1 hj) hjR, GfM.zero_mul]
/-- Any k rows, each once, have an inverse. -/
theorem any_inv {k m : Nat} (h1 : 1 ≤ k) (h : k + m ≤ 255) {rows : List Int} (hl : rows.length = k) (hn : rows.Nodup) (hr : ∀ x ∈ rows, 0 ≤ x ∧ x < ((k + m : Nat) : Int)) : ∃ X, GfM.invX k (fun i c => allX k (rows.getD i 0).toNat c) = some X := by
  apply GfM.inv_of_inj
  have hi := any_inj h (R := rows.map Int.toNat) (by rw [List.length_map]; exact hl) (List.pairwise_map.2 (List.Pairwise.imp_of_mem (fun ha hb hne e => hne (by have := hr _ ha; have := hr _ hb; omega)) hn)) (by
    intro x hx
    obtain ⟨y, hy, rfl⟩ := List.mem_map.1 hx
    have := hr y hy
    omega)
  have e : (fun i c => allX k ((rows.map Int.toNat).getD i 0) c) = (fun i c => allX k (rows.getD i 0).toNat c) := by
    funext i c
    congr 1
    rw [List.getD_eq_getElem?_getD, List.getD_eq_getElem?_getD, List.getElem?_map]
    cases rows[i]? <;> rfl
  rwa [e] at hi
theorem all_mxL (k m : Nat) : mxL k k GfM.idm ++ mxL m k (cauX k) = mxL (k + m) k (allX k) := by
  apply List.ext_getElem?
  intro i
  by_cases h1 : i < k
  · rw [List.getElem?_append_left (by rw [mxL_length]; exact h1), mxL_get _ _ _ i h1, mxL_get _ _ _ i (by omega)]
    exact congrArg some (rowL_congr fun j _ => by unfold allX; rw [if_pos h1])
  · rw [List.getElem?_append_right (by rw [mxL_length]; omega), mxL_length]
    by_cases h2 : i < k + m
    · rw [mxL_get _ _ _ (i - k) (by omega), mxL_get _ _ _ i h2]
      exact congrArg some (rowL_congr fun j _ => by unfold allX; rw [if_neg h1])
    · rw [List.getElem?_eq_none (by rw [mxL_length]; omega), List.getElem?_eq_none (by rw [mxL_length]; omega)]
def rng (n : Nat) : List Int := (List.range n).map fun (i : Nat) => (i : Int)
theorem rng_length (n : Nat) : (rng n).length = n := by simp [rng]
theorem rng_succ (n : Nat) : rng (n + 1) = rng n ++ [(n : Int)] := by simp [rng, List.range_succ]
theorem rng_nodup (n : Nat) : (rng n).Nodup := List.pairwise_map.2 (List.Pairwise.imp_of_mem (fun _ _ hne e => hne (by omega)) List.nodup_range)
theorem rng_mem {n : Nat} {x : Int} (h : x ∈ rng n) : 0 ≤ x ∧ x < (n : Int) := by
  obtain ⟨i, hi, rfl⟩ := List.mem_map.1 h
  have := List.mem_range.1 hi
  omega
theorem any_l0 (x0 : Int) (x2 : List Int) (M : List (List Int)) (n : Nat) (hn : n ≤ 100) (K : Nat) : ∀ (d i : Nat), i + d = n → caulklaw03_MatrixAny.l0 (K + d + 1) x0 x2 M (rng i) (n : Int) (i : Int) = caulklaw03_MatrixAny.l1 K x2 M (rng n) [] x0 0
  | 0, i, h => by
    have e : i = n := by omega
    subst e
    show (if (i : Int) < (i : Int) then _ else caulklaw03_MatrixAny.l1 K x2 M (rng i) [] x0 0) = _
    rw [if_neg (by omega)]
  | d + 1, i, h => by
    have hw : wrap64 ((i : Int) + 1) = ((i + 1 : Nat) : Int) := by unfold wrap64; omega
    have ih := any_l0 x0 x2 M n hn K d (i + 1) (by omega)
    show (if (i : Int) < (n : Int) then (if (rng i).length < 17592186044416 then caulklaw03_MatrixAny.l0 (K + d + 1) x0 x2 M (rng i ++ [(i : Int)]) (n : Int) (wrap64 ((i : Int) + 1)) else none) else _) = _
    rw [if_pos (by omega), if_pos (by rw [rng_length]; omega), hw, ← rng_succ]
    exact ih
theorem pick_perm {rows left : List Int} {n at_ : Nat} (h : (rows ++ left).Perm (rng n)) (ha : at_ < left.length) : ((rows ++ [left.getD at_ 0]) ++ (left.take at_ ++ left.drop (at_ + 1))).Perm (rng n) := by
  refine List.Perm.trans ?_ h
  rw [List.append_assoc]
  refine List.Perm.append_left rows ?_
  have e : left = left.take at_ ++ left.getD at_ 0 :: left.drop (at_ + 1) := by
    rw [List.getD_eq_getElem?_getD, List.getElem?_eq_getElem ha, Option.getD_some, ← List.drop_eq_getElem_cons ha, List.take_append_drop]
  conv => rhs; rw [e]
  show (left.getD at_ 0 :: (left.take at_ ++ left.drop (at_ + 1))).Perm _
  exact List.perm_middle.symm
theorem any_end {k m : Nat} (h1 : 1 ≤ k) (hm : 1 ≤ m) (h : k + m ≤ 255) {rows left : List Int} (hl : rows.length = k) (hp : (rows ++ left).Perm (rng (k + m))) :
    ((matrix_Rows.f (mxL (k + m) k (allX k)) rows).bind fun bt415 => ((matrix_Invert.f bt415.1).bind fun bt419 => (if bt415.2 = 0 then (some (bt419.2 == 0)) else (none)))) = some true := by
  have hnd : rows.Nodup := (List.nodup_append.1 (hp.nodup_iff.2 (rng_nodup _))).1
  have hr : ∀ x ∈ rows, 0 ≤ x ∧ x < ((k + m : Nat) : Int) := fun x hx => rng_mem (hp.mem_iff.1 (List.mem_append_left _ hx))
  obtain ⟨X, hX⟩ := any_inv h1 h hl hnd hr
  rw [rowsf (allX k) (by omega) h h1 (by omega) rows (by omega) (by omega) hr]
  simp only [Option.bind_some, hl]
  rw [invf_some h1 (by omega) hX]
  rfl
theorem any_l1 {k m : Nat} (h1 : 1 ≤ k) (hk : k ≤ 12) (hm : 1 ≤ m) (hm2 : m ≤ 30) (x2 : List Int) (hx2 : ∀ x ∈ x2, isB x) (K : Nat) : ∀ (d i : Nat) (rows left : List Int), i + d = k → rows.length = i → left.length = k + m - i → (rows ++ left).Perm (rng (k + m)) →
    caulklaw03_MatrixAny.l1 (K + d + 1) x2 (mxL (k + m) k (allX k)) left rows (k : Int) (i : Int) = some true
  | 0, i, rows, left, h, hl, hll, hp => by
    unfold caulklaw03_MatrixAny.l1
    rw [if_neg (by omega)]
    exact any_end h1 hm (by omega) (by omega) hp
  | d + 1, i, rows, left, h, hl, hll, hp => by
    have next : ∀ at_ : Nat, at_ < left.length → caulklaw03_MatrixAny.l1 (K + d + 1) x2 (mxL (k + m) k (allX k)) (left.take at_ ++ left.drop (at_ + 1)) (rows ++ [left.getD at_ 0]) (k : Int) ((i + 1 : Nat) : Int) = some true := fun at_ ha =>
      any_l1 h1 hk hm hm2 x2 hx2 K d (i + 1) _ _ (by omega) (by simp [hl]) (by simp; omega) (pick_perm hp ha)
    have f0 : (i : Int) < (k : Int) := by omega
    have f1 : (0 : Int) ≤ (i : Int) := by omega
    have f2 : ¬ (left.length : Int) = 0 := by omega
    have f3 : rows.length < 17592186044416 := by omega
    have f4 : (0 : Int) < (left.length : Int) := by omega
    have f5 : (0 : Int) ≤ (left.length : Int) := by omega
    have f6 : ((0 : Int) + 1) ≤ (left.length : Int) := by omega
    have f7 : (0 : Int) ≤ 0 + 1 := by decide
    have f8 : ∀ a : Nat, ([] : List Int).length + (left.take a).length < 17592186044416 := fun a => by simp; omega
    have f9 : ∀ a b : Nat, ([] ++ left.take a).length + (left.drop b).length < 17592186044416 := fun a b => by simp; omega
    have hll2 : left.length ≤ 100 := by omega
    have hw : wrap64 ((i : Int) + 1) = ((i + 1 : Nat) : Int) := by clear next; unfold wrap64; omega
    show caulklaw03_MatrixAny.l1 ((K + d + 1) + 1) x2 (mxL (k + m) k (allX k)) left rows (k : Int) (i : Int) = some true
    generalize hF : K + d + 1 = F at next ⊢
    generalize hMM : mxL (k + m) k (allX k) = MM at next ⊢
    clear hF hMM hp hll hl h
    unfold caulklaw03_MatrixAny.l1
    rw [if_pos f0]
    by_cases hin : (i : Int) < (x2.length : Int)
    · have hb : isB (rd x2 (i : Int)) := by
        unfold rd
        rw [Int.toNat_natCast, List.getD_eq_getElem?_getD, List.getElem?_eq_getElem (by omega)]
        exact hx2 _ (List.getElem_mem _)
      obtain ⟨at_, hat, hlt⟩ : ∃ at_ : Nat, Int.tmod (wrap64 (rd x2 (i : Int))) (left.length : Int) = (at_ : Int) ∧ at_ < left.length := by
        obtain ⟨x, hx⟩ := Int.eq_ofNat_of_zero_le hb.1
        have hw2 : wrap64 (rd x2 (i : Int)) = (x : Int) := by
          have := hb.2
          rw [hx] at this ⊢
          clear next hw
          unfold wrap64; omega
        refine ⟨x % left.length, ?_, Nat.mod_lt _ (by omega)⟩
        rw [hw2]
        rfl
      have g1 : (0 : Int) ≤ (at_ : Int) := by omega
      have g2 : (at_ : Int) < (left.length : Int) := by omega
      have g3 : (at_ : Int) ≤ (left.length : Int) := by omega
      have g4 : (0 : Int) ≤ ((at_ + 1 : Nat) : Int) := by omega
      have g5 : ((at_ + 1 : Nat) : Int) ≤ (left.length : Int) := by omega
      have hw3 : wrap64 ((at_ : Int) + 1) = ((at_ + 1 : Nat) : Int) := by clear next hw hat; unfold wrap64; omega
      have nx := next at_ hlt
      rw [if_pos hin, if_pos f1, if_neg f2]
      simp only [hat, hw3, hw, Option.bind_some, Int.toNat_natCast]
      rw [if_pos g1, if_pos g2, if_pos f3, if_pos g3, if_pos (f8 at_), if_pos g4, if_pos g5, if_pos (f9 at_ (at_ + 1))]
      unfold rd
      rw [Int.toNat_natCast]
      exact nx
    · have nx := next 0 (by omega)
      rw [if_neg hin, if_pos f4, if_pos f3]
      simp only [hw, Option.bind_some]
      rw [if_pos f5, if_pos (f8 0), if_pos f7, if_pos f6]
      have f10 : ([] ++ left.take 0).length + (left.drop ((0 + 1 : Int)).toNat).length < 17592186044416 := f9 0 1
      rw [if_pos f10]
      exact nx
theorem any_j0 (K : Nat) (x0 x1 : Int) (x2 : List Int) : caulklaw03_MatrixAny.j0 (K + 1) x0 x1 x2 false = ((matrix_Unit.f x0).bind fun bt348 => ((matrix_Cauchy.f x0 x1).bind fun bt352 => (if bt348.2 = 0 then (caulklaw03_MatrixAny.j1 K x0 x1 x2 bt348.1 bt352.1 (bt352.2 != 0)) else (caulklaw03_MatrixAny.j1 K x0 x1 x2 bt348.1 bt352.1 true)))) := rfl
theorem any_j1 (K : Nat) (x0 x1 : Int) (x2 : List Int) (x7 x9 : List (List Int)) : caulklaw03_MatrixAny.j1 (K + 1) x0 x1 x2 x7 x9 false = ((some (([] : List (List Int)) : List (List Int))).bind fun y356 => (if y356.length + x7.length < 5864062014805 then ((some (y356 ++ x7 : List (List Int))).bind fun y359 => (if y359.length + x9.length < 5864062014805 then (caulklaw03_MatrixAny.l0 K x0 x2 (y359 ++ x9) ([] : List Int) (wrap64 (x0 + x1)) 0) else (none))) else (none))) := rfl
theorem MatrixAny : caulklaw03_MatrixAny.Pure := by
  intro a0 a1 l2 w0 w1 w2
  have hx2 : ∀ x ∈ l2, isB x := fun x hx => isB_of (w2.2 x hx)
  obtain ⟨F, hF⟩ : ∃ F : Nat, F = 900 := ⟨_, rfl⟩
  refine ⟨F + 3, ?_⟩
  unfold caulklaw03_MatrixAny.f
  rw [lives03 (F + 3) (by omega)]
  simp only [Option.bind_some, if_pos]
  have skip : caulklaw03_MatrixAny.j0 (F + 3) a0 a1 l2 true = some true := rfl
  by_cases c1 : a0 < 1
  · rw [if_pos c1]; exact skip
  · rw [if_neg c1]
    by_cases c2 : a0 > 12
    · rw [if_pos c2]; exact skip
    · rw [if_neg c2]
      by_cases c3 : a1 < 1
      · rw [if_pos c3]; exact skip
      · rw [if_neg c3]
        by_cases c4 : a1 > 30
        · rw [decide_eq_true c4]; exact skip
        · rw [decide_eq_false c4]
          obtain ⟨k, rfl⟩ := Int.eq_ofNat_of_zero_le (show 0 ≤ a0 by omega)
          obtain ⟨m, rfl⟩ := Int.eq_ofNat_of_zero_le (show 0 ≤ a1 by omega)
          have hw : wrap64 ((k : Int) + (m : Int)) = ((k + m : Nat) : Int) := by unfold wrap64; omega
          refine Eq.trans (any_j0 (F + 2) (k : Int) (m : Int) l2) ?_
          rw [unitf k (by omega) (by omega), cauf k m (by omega) (by omega) (by omega)]
          refine Eq.trans (any_j1 (F + 1) (k : Int) (m : Int) l2 (mxL k k GfM.idm) (mxL m k (cauX k))) ?_
          simp only [Option.bind_some, List.nil_append]
          rw [if_pos (by rw [List.length_nil, mxL_length]; omega), if_pos (by rw [mxL_length, mxL_length]; omega), all_mxL, hw]
          have e := any_l0 (k : Int) l2 (mxL (k + m) k (allX k)) (k + m) (by omega) (F - (k + m)) (k + m) 0 (by omega)
          rw [show F - (k + m) + (k + m) + 1 = F + 1 from by omega] at e
          have e0 : rng 0 = [] := rfl
          have e00 : ((0 : Nat) : Int) = 0 := rfl
          rw [e0, e00] at e
          refine Eq.trans e ?_
          have e2 := any_l1 (k := k) (m := m) (by omega) (by omega) (by omega) (by omega) l2 hx2 (F - (k + m) - k - 1) k 0 [] (rng (k + m)) (by omega) rfl (by rw [rng_length]; omega) (by simp)
          rw [show F - (k + m) - k - 1 + k + 1 = F - (k + m) from by omega] at e2
          exact e2
end Go.Proofs.Ytlobaomleocpjaa.Pure
