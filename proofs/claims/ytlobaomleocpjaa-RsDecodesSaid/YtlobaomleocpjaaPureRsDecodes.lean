/- RsDecodes: the pure statement: numbers and lists alone. Conditions: those of the statement itself. -/
import Derived.Test.YtlobaomleocpjaaGx10
import Derived.OpenShut
namespace Go.Proofs.Ytlobaomleocpjaa.Pure
open Go.RowKit Go.Proofs.Ytlobaomleocpjaa.G Go.Proofs.Ytlobaomleocpjaa.G.RefI Go.Proofs.YtlobaomleocpjaaW.PrintWords Go.Proofs.YtlobaomleocpjaaW.PrintLast Go.Proofs.YtlobaomleocpjaaW.PrintMore Go.OpenShut
set_option linter.unusedVariables false
set_option linter.unusedSimpArgs false
theorem refrows_l0 {n p : Nat} (A : GfM.Mx) (hn : n ≤ 255) (hp : p ≤ 255) (rows : List Int) (hr : rows.length ≤ 255) (K : Nat) : ∀ (d i : Nat) (acc : List (List Int)), i + d = rows.length → acc = mxL i p (fun k c => A (rows.getD k 0).toNat c) → (∀ j, j < i → 0 ≤ rows.getD j 0 ∧ rows.getD j 0 < (n : Int)) →
    caulkref03_Rows.l0 (K + d + 1) (mxL n p A) acc rows (rows.length : Int) (i : Int) = some (if ∀ x ∈ rows, 0 ≤ x ∧ x < (n : Int) then (mxL rows.length p (fun k c => A (rows.getD k 0).toNat c), 0) else ([], 1))
  | 0, i, acc, h, ha, hg => by
    have f0 : ¬ (i : Int) < (rows.length : Int) := by omega
    show (if (i : Int) < (rows.length : Int) then _ else some (acc, 0)) = _
    rw [if_neg f0, if_pos (fun x hx => by
      obtain ⟨j, hj, rfl⟩ := List.mem_iff_getElem.1 hx
      have := hg j (by omega)
      rwa [List.getD_eq_getElem?_getD, List.getElem?_eq_getElem hj] at this), ha, show i = rows.length from by omega]
  | d + 1, i, acc, h, ha, hg => by
    have hi : i < rows.length := by omega
    have f0 : (i : Int) < (rows.length : Int) := by omega
    have f1 : (0 : Int) ≤ (i : Int) := by omega
    have hrd : rd rows (i : Int) = rows.getD i 0 := by unfold rd; rw [Int.toNat_natCast]
    have hmem : rows.getD i 0 ∈ rows := by rw [List.getD_eq_getElem?_getD, List.getElem?_eq_getElem hi]; exact List.getElem_mem hi
    have hw : wrap64 ((i : Int) + 1) = ((i + 1 : Nat) : Int) := by clear hrd hg; unfold wrap64; omega
    have hal : acc.length = i := by rw [ha, mxL_length]
    unfold caulkref03_Rows.l0
    rw [if_pos f0, if_pos f1, if_pos f0, hrd]
    by_cases b1 : rows.getD i 0 < 0
    · rw [if_pos b1, if_neg (fun hh => by have := (hh _ hmem).1; omega)]
    · rw [if_neg b1, mxL_length]
      by_cases b2 : rows.getD i 0 ≥ (n : Int)
      · rw [if_pos b2, if_neg (fun hh => by have := (hh _ hmem).2; omega)]
      · have b3 : (0 : Int) ≤ rows.getD i 0 := by omega
        have b4 : rows.getD i 0 < (n : Int) := by omega
        rw [if_neg b2]
        simp only [Option.bind_some]
        obtain ⟨q, hq⟩ := Int.eq_ofNat_of_zero_le b3
        have hqn : q < n := by omega
        have hrow : rd_L1 (mxL n p A) (rows.getD i 0) = rowL p (A q) := by rw [hq]; exact rd_L1_mxL A hqn
        rw [if_pos b3, if_pos b4, if_pos (by rw [hrow, rowL_length, List.length_nil]; omega), if_pos (by omega), hw, hrow, List.nil_append]
        refine refrows_l0 A hn hp rows hr K d (i + 1) _ (by omega) ?_ (fun j hj => ?_)
        · rw [ha]
          unfold mxL
          rw [List.range_succ, List.map_append, List.map_cons, List.map_nil]
          show _ ++ [rowL p (A q)] = _ ++ [rowL p (fun c => A (rows.getD i 0).toNat c)]
          rw [hq, Int.toNat_natCast]
        · by_cases e : j = i
          · subst e; exact ⟨b3, b4⟩
          · exact hg j (by omega)
theorem refrows_j0 (K : Nat) (x0 : List (List Int)) (x1 : List Int) (b : Bool) : caulkref03_Rows.j0 (K + 1) x0 x1 b = if b = true then (some (([] : List (List Int)), 1)) else (caulkref03_Rows.l0 K x0 ([] : List (List Int)) x1 (x1.length : Int) 0) := rfl
theorem refrows {l : List (List Int)} (hb : BytesM l) (rows : List Int) {k : Nat} (hk : 1000 ≤ k) : caulkref03_Rows.f k l rows = matrix_Rows.f l rows := by
  obtain ⟨K, rfl⟩ : ∃ K, k = K + 1 := ⟨k - 1, by omega⟩
  unfold caulkref03_Rows.f matrix_Rows.f
  rw [refcheck_eq l (K + 1) (by omega), if_pos hb]
  simp only [Option.bind_some]
  by_cases ho : OkM l
  · rw [if_pos ho, if_pos (by first | rfl | trivial), if_pos ho, refrows_j0, refrows_j0]
    by_cases h1 : (rows.length : Int) < 1
    · rw [if_pos h1, if_pos rfl, if_neg (by omega)]
    · rw [if_neg h1]
      by_cases h2 : (rows.length : Int) > 255
      · rw [decide_eq_true h2, if_pos rfl, if_neg (by omega)]
      · rw [decide_eq_false h2, if_neg (by decide), if_pos (by omega)]
        have hl := mxL_toMx hb ho
        have := refrows_l0 (n := l.length) (p := colsM l) (toMx l) ho.2.1 ho.2.2.2.1 rows (by omega) (K - rows.length - 1) rows.length 0 [] (by omega) rfl (fun j hj => by omega)
        rw [hl, show K - rows.length - 1 + rows.length + 1 = K from by omega] at this
        exact this
  · rw [if_neg ho, if_neg (by decide), if_neg ho]
/-! Cauchy -/
theorem refinv_any (x : GfM.F) {k : Nat} (hk : 300 ≤ k) : ∃ e, caulkref02_Inv.f k (x.toNat : Int) = some (((GfM.inv x).toNat : Int), e) := by
  rw [refinv_eq (isB_nat x) k hk]
  by_cases h : (x.toNat : Int) = 0
  · have hx : x = 0#8 := BitVec.eq_of_toNat_eq (by simpa using h)
    have h0 : GfM.inv 0#8 = 0#8 := by decide +kernel
    rw [if_pos h, hx, h0]
    exact ⟨13, rfl⟩
  · rw [if_neg h]
    unfold invI
    rw [el_nat]
    exact ⟨0, rfl⟩
def cauQ (k i j : Nat) : GfM.Mx := fun r c => if r < i ∨ (r = i ∧ c < j) then cauX k r c else 0#8
theorem refcau_l {k m : Nat} (hkm : k + m ≤ 255) (k1 : 1 ≤ k) :
    ∀ (d i K : Nat), 300 ≤ K → i + d = m → caulkref03_Cauchy.l0 (K + d * (k + 2) + 1) (k : Int) (mxL m k (cauQ k i 0)) (m : Int) (i : Int) = some (mxL m k (cauX k), 0) := by
  have l1 : ∀ (i : Nat), i < m → ∀ (d j K : Nat), 300 ≤ K → j + d = k → caulkref03_Cauchy.l1 (K + d + 1) (k : Int) (mxL m k (cauQ k i j)) (i : Int) (m : Int) (i : Int) (k : Int) (j : Int) = caulkref03_Cauchy.l0 K (k : Int) (mxL m k (cauQ k (i + 1) 0)) (m : Int) ((i + 1 : Nat) : Int) := by
    intro i hi d
    induction d with
    | zero =>
      intro j K hK h
      have hw : wrap64 ((i : Int) + 1) = ((i + 1 : Nat) : Int) := by unfold wrap64; omega
      unfold caulkref03_Cauchy.l1
      have e : mxL m k (cauQ k i j) = mxL m k (cauQ k (i + 1) 0) := mxL_congr fun r hr c hc => by
        unfold cauQ
        by_cases e1 : r < i ∨ (r = i ∧ c < j)
        · rw [if_pos e1, if_pos (by omega)]
        · rw [if_neg e1, if_neg (by omega)]
      rw [if_neg (by omega), hw, e]
    | succ d ih =>
      intro j K hK h
      have hj : j < k := by omega
      have f1 : (j : Int) < (k : Int) := by omega
      have f2 : (0 : Int) ≤ (i : Int) := by omega
      have f3 : (i : Int) < (m : Int) := by omega
      have f4 : (0 : Int) ≤ (j : Int) := by omega
      have hw : wrap64 ((j : Int) + 1) = ((j + 1 : Nat) : Int) := by unfold wrap64; omega
      have hw2 : wrap64 ((k : Int) + (i : Int)) = ((k + i : Nat) : Int) := by unfold wrap64; omega
      have ea : ((k + i : Nat) : Int) % 256 = ((BitVec.ofNat 8 (k + i)).toNat : Int) := by rw [BitVec.toNat_ofNat]; omega
      have eb : (j : Int) % 256 = ((BitVec.ofNat 8 j).toNat : Int) := by rw [BitVec.toNat_ofNat]; omega
      obtain ⟨er, hI⟩ := refinv_any (BitVec.ofNat 8 (k + i) ^^^ BitVec.ofNat 8 j) (k := K + d + 1) (by omega)
      have ih' := ih (j + 1) K hK (by omega)
      rw [show K + (d + 1) + 1 = (K + d + 1) + 1 from by omega]
      generalize hF : K + d + 1 = F at ih' hI ⊢
      unfold caulkref03_Cauchy.l1
      rw [if_pos f1, if_pos f2, mxL_length, if_pos f3, hw2, ea, eb, g_xor8, hI]
      simp only [Option.bind_some, hw, Int.toNat_natCast]
      rw [if_pos f4, rd_L1_mxL _ hi, rowL_length, if_pos f1]
      have e := mxL_set (p := k) (cauQ k i j) hi j (GfM.inv (BitVec.ofNat 8 (k + i) ^^^ BitVec.ofNat 8 j))
      have e3 : mxL m k (fun r c => if r = i ∧ c = j then GfM.inv (BitVec.ofNat 8 (k + i) ^^^ BitVec.ofNat 8 j) else cauQ k i j r c) = mxL m k (cauQ k i (j + 1)) := mxL_congr fun r hr c hc => by
        unfold cauQ
        by_cases e1 : r = i ∧ c = j
        · rw [if_pos e1, if_pos (by omega), e1.1, e1.2]; rfl
        · rw [if_neg e1]
          by_cases e2 : r < i ∨ (r = i ∧ c < j)
          · rw [if_pos e2, if_pos (by omega)]
          · rw [if_neg e2, if_neg (by omega)]
      rw [e, e3]
      exact ih'
  intro d
  induction d with
  | zero =>
    intro i K hK h
    rw [Nat.zero_mul, Nat.add_zero]
    unfold caulkref03_Cauchy.l0
    have e : mxL m k (cauQ k i 0) = mxL m k (cauX k) := mxL_congr fun r hr c hc => by
      unfold cauQ
      rw [if_pos (by omega)]
    rw [if_neg (by omega), e]
  | succ d ih =>
    intro i K hK h
    have hi : i < m := by omega
    have f0 : (i : Int) < (m : Int) := by omega
    have f1 : (0 : Int) ≤ (i : Int) := by omega
    have ih' := ih (i + 1) K hK (by omega)
    have e := l1 i hi k 0 (K + d * (k + 2) + 1) (by omega) (by omega)
    rw [ih'] at e
    have ef : K + (d + 1) * (k + 2) + 1 = (K + d * (k + 2) + 1 + k + 1) + 1 := by rw [Nat.succ_mul]; omega
    rw [ef]
    generalize hF : K + d * (k + 2) + 1 + k + 1 = F at e ⊢
    unfold caulkref03_Cauchy.l0
    rw [if_pos f0, if_pos f1, mxL_length, if_pos f0, rd_L1_mxL _ hi, rowL_length]
    exact e
theorem refcau_j0 (K : Nat) (x0 x1 : Int) (b : Bool) : caulkref03_Cauchy.j0 (K + 1) x0 x1 b = if b = true then (some (([] : List (List Int)), 1)) else ((caulkref03_zero.f K x1 x0).bind fun t252 => (caulkref03_Cauchy.l0 K x0 t252 (t252.length : Int) 0)) := rfl
theorem refcau (a0 a1 : Int) (s0 : a0 ≤ 20 ∨ a0 > 255) (s1 : a1 ≤ 20 ∨ a1 > 255) {k : Nat} (hk : 5000 ≤ k) : caulkref03_Cauchy.f k a0 a1 = matrix_Cauchy.f a0 a1 := by
  obtain ⟨K, rfl⟩ : ∃ K, k = K + 1 := ⟨k - 1, by omega⟩
  unfold caulkref03_Cauchy.f matrix_Cauchy.f
  simp only [refcau_j0]
  by_cases h1 : a0 < 1
  · rw [if_pos h1, if_neg (show ¬ ((1 ≤ a0 ∧ a0 ≤ 255) ∧ (1 ≤ a1 ∧ a1 ≤ 255) ∧ a1 ≤ 255 - a0) from by omega)]; rfl
  · rw [if_neg h1]
    by_cases h2 : a1 < 1
    · rw [if_pos h2, if_neg (show ¬ ((1 ≤ a0 ∧ a0 ≤ 255) ∧ (1 ≤ a1 ∧ a1 ≤ 255) ∧ a1 ≤ 255 - a0) from by omega)]; rfl
    · rw [if_neg h2]
      by_cases h3 : a0 > 255
      · rw [if_pos h3, if_neg (show ¬ ((1 ≤ a0 ∧ a0 ≤ 255) ∧ (1 ≤ a1 ∧ a1 ≤ 255) ∧ a1 ≤ 255 - a0) from by omega)]; rfl
      · rw [if_neg h3]
        by_cases h4 : a1 > 255
        · rw [if_pos h4, if_neg (show ¬ ((1 ≤ a0 ∧ a0 ≤ 255) ∧ (1 ≤ a1 ∧ a1 ≤ 255) ∧ a1 ≤ 255 - a0) from by omega)]; rfl
        · rw [if_neg h4]
          obtain ⟨n, rfl⟩ := Int.eq_ofNat_of_zero_le (show 0 ≤ a0 by omega)
          obtain ⟨m, rfl⟩ := Int.eq_ofNat_of_zero_le (show 0 ≤ a1 by omega)
          have n2 : n ≤ 20 := by omega
          have m2 : m ≤ 20 := by omega
          have hw : wrap64 ((n : Int) + (m : Int)) = ((n + m : Nat) : Int) := by unfold wrap64; omega
          have hbd : m * (n + 2) ≤ 20 * 22 := Nat.mul_le_mul m2 (by omega)
          rw [hw, decide_eq_false (by omega), if_neg (by decide), if_pos (by omega), refzero (by omega) (by omega) (by omega), Int.toNat_natCast, Int.toNat_natCast]
          have := refcau_l (k := n) (m := m) (by omega) (by omega) m 0 (K - m * (n + 2) - 1) (by omega) (by omega)
          rw [show K - m * (n + 2) - 1 + m * (n + 2) + 1 = K from by omega] at this
          simp only [Option.bind_some, mxL_length]
          have e : mxL m n (fun _ _ => 0#8) = mxL m n (cauQ n 0 0) := mxL_congr fun r _ c _ => by unfold cauQ; rw [if_neg (by omega)]
          rw [e]
          exact this
/-! ### any k rows of the unit with parity's matrix below it -/
def allX (k : Nat) : GfM.Mx := fun i j => if i < k then GfM.idm i j else cauX k (i - k) j
theorem sumN_range (f : Nat → GfM.F) : ∀ n : Nat, GfM.sumN n f = GfM.sumL (List.range n) f := by
  have app : ∀ (l : List Nat) (x : Nat), GfM.sumL (l ++ [x]) f = GfM.sumL l f ^^^ f x := by
    intro l x
    induction l with
    | nil => simp [GfM.sumL]
    | cons a l ih => rw [List.cons_append, GfM.sumL_cons, GfM.sumL_cons, ih, BitVec.xor_assoc]
  intro n
  induction n with
  | zero => rfl
  | succ n ih => rw [GfM.sumN, ih, List.range_succ, app]
theorem sumL_filter (f : Nat → GfM.F) (p : Nat → Bool) (l : List Nat) (h : ∀ x ∈ l, p x = false → f x = 0#8) : GfM.sumL (l.filter p) f = GfM.sumL l f := by
  induction l with
  | nil => rfl
  | cons a l ih =>
    have ih' := ih (fun x hx => h x (List.mem_cons_of_mem _ hx))
    rw [GfM.sumL_cons, List.filter_cons]
    by_cases e : p a = true
    · rw [if_pos e, GfM.sumL_cons, ih']
    · rw [if_neg e, ih', h a List.mem_cons_self (by simpa using e)]; simp
theorem ofNat_inj8 {a b : Nat} (ha : a < 256) (hb : b < 256) (h : BitVec.ofNat 8 a = BitVec.ofNat 8 b) : a = b := by
  have := congrArg BitVec.toNat h
  rwa [BitVec.toNat_ofNat, BitVec.toNat_ofNat, Nat.mod_eq_of_lt ha, Nat.mod_eq_of_lt hb] at this
theorem any_inj {k m : Nat} (h : k + m ≤ 255) {R : List Nat} (hl : R.length = k) (hn : R.Nodup) (hr : ∀ x ∈ R, x < k + m) : GfM.Inj k (fun i c => allX k (R.getD i 0) c) := by
  intro v hv
  have hx : ∀ x ∈ R, GfM.sumN k (fun c => GfM.mul (allX k x c) (v c)) = 0#8 := by
    intro x hx
    obtain ⟨i, hi, e⟩ := List.mem_iff_getElem.1 hx
    have h3 : R.getD i 0 = x := by rw [List.getD_eq_getElem?_getD, List.getElem?_eq_getElem hi]; exact e
    have := hv i (by omega)
    unfold GfM.mm at this
    simp only [h3] at this
    exact this
  have hu : ∀ j, j < k → j ∈ R → v j = 0#8 := by
    intro j hj hjR
    have := hx j hjR
    have e : GfM.sumN k (fun c => GfM.mul (allX k j c) (v c)) = GfM.mm k GfM.idm (fun c _ => v c) j 0 := by
      unfold GfM.mm
      exact GfM.sumN_congr fun c _ => by unfold allX; rw [if_pos hj]
    rw [e, GfM.mm_id_left hj] at this
    exact this
  have hc1 : ((R.filter (fun x => decide (k ≤ x))).map (BitVec.ofNat 8)).length = ((List.range k).filter (fun j => decide (j ∉ R))).length := by
    rw [List.length_map]
    have p1 := (List.filter_append_perm (fun x => decide (k ≤ x)) R).length_eq
    have p2 := (List.filter_append_perm (fun j => decide (j ∉ R)) (List.range k)).length_eq
    rw [List.length_append] at p1 p2
    rw [List.length_range] at p2
    have p3 : (R.filter (fun x => !decide (k ≤ x))).Perm ((List.range k).filter (fun j => !decide (j ∉ R))) := by
      refine (List.perm_ext_iff_of_nodup (hn.sublist List.filter_sublist) (List.nodup_range.sublist List.filter_sublist)).2 fun a => ?_
      simp only [List.mem_filter, List.mem_range, Bool.not_eq_true', decide_eq_false_iff_not, Decidable.not_not]
      constructor
      · rintro ⟨h1, h2⟩; exact ⟨by omega, h1⟩
      · rintro ⟨h1, h2⟩; exact ⟨h2, by omega⟩
    have := p3.length_eq
    omega
  have hY := GfM.cauchy_zero ((R.filter (fun x => decide (k ≤ x))).map (BitVec.ofNat 8)) ((List.range k).filter (fun j => decide (j ∉ R))) (fun j => BitVec.ofNat 8 j) v hc1 ?_ ?_ ?_ ?_
  · intro j hj
    by_cases hjR : j ∈ R
    · exact hu j hj hjR
    · exact hY j (by simp [hj, hjR])
  · have h1 : (R.filter (fun x => decide (k ≤ x))).Nodup := hn.sublist List.filter_sublist
    refine List.pairwise_map.2 (List.Pairwise.imp_of_mem ?_ h1)
    intro a b ha hb hne e
    have ha' := hr a (List.mem_filter.1 ha).1
    have hb' := hr b (List.mem_filter.1 hb).1
    exact hne (ofNat_inj8 (by omega) (by omega) e)
  · have h1 : ((List.range k).filter (fun j => decide (j ∉ R))).Nodup := List.nodup_range.sublist List.filter_sublist
    refine List.Pairwise.imp_of_mem ?_ h1
    intro a b ha hb hne e
    have ha' := List.mem_range.1 (List.mem_filter.1 ha).1
    have hb' := List.mem_range.1 (List.mem_filter.1 hb).1
    exact hne (ofNat_inj8 (by omega) (by omega) e)
  · intro x hxm j hj e
    obtain ⟨r, hr1, rfl⟩ := List.mem_map.1 hxm
    have h1 := List.mem_filter.1 hr1
    have h2 := hr r h1.1
    have h3 : k ≤ r := by simpa using h1.2
    have h4 := List.mem_range.1 (List.mem_filter.1 hj).1
    have := ofNat_inj8 (by omega) (by omega) e
    omega
  · intro x hxm
    obtain ⟨r, hr1, rfl⟩ := List.mem_map.1 hxm
    have h1 := List.mem_filter.1 hr1
    have h2 := hr r h1.1
    have h3 : k ≤ r := by simpa using h1.2
    have h5 := hx r h1.1
    rw [sumL_filter, ← sumN_range]
    · rw [← h5]
      refine GfM.sumN_congr fun c _ => ?_
      unfold allX cauX
      rw [if_neg (by omega), show k + (r - k) = r from by omega, GfM.mul_comm]
    · intro j hj hp
      have hjR : j ∈ R := by simpa using hp
      rw [hu j (List.mem_range.1 hj) hjR, GfM.zero_mul]
/-- Any k rows, each once, have an inverse. -/
theorem any_inv {k m : Nat} (h1 : 1 ≤ k) (h : k + m ≤ 255) {rows : List Int} (hl : rows.length = k) (hn : rows.Nodup) (hr : ∀ x ∈ rows, 0 ≤ x ∧ x < ((k + m : Nat) : Int)) : ∃ X, GfM.invX k (fun i c => allX k (rows.getD i 0).toNat c) = some X := by
  apply GfM.inv_of_inj
  have hi := any_inj h (R := rows.map Int.toNat) (by rw [List.length_map]; exact hl) (List.pairwise_map.2 (List.Pairwise.imp_of_mem (fun ha hb hne e => hne (by have := hr _ ha; have := hr _ hb; omega)) hn)) (by
    intro x hx
    obtain ⟨y, hy, rfl⟩ := List.mem_map.1 hx
    have := hr y hy
    omega)
  have e : (fun i c => allX k ((rows.map Int.toNat).getD i 0) c) = (fun i c => allX k (rows.getD i 0).toNat c) := by
    funext i c
    congr 1
    rw [List.getD_eq_getElem?_getD, List.getD_eq_getElem?_getD, List.getElem?_map]
    cases rows[i]? <;> rfl
  rwa [e] at hi
theorem all_mxL (k m : Nat) : mxL k k GfM.idm ++ mxL m k (cauX k) = mxL (k + m) k (allX k) := by
  apply List.ext_getElem?
  intro i
  by_cases h1 : i < k
  · rw [List.getElem?_append_left (by rw [mxL_length]; exact h1), mxL_get _ _ _ i h1, mxL_get _ _ _ i (by omega)]
    exact congrArg some (rowL_congr fun j _ => by unfold allX; rw [if_pos h1])
  · rw [List.getElem?_append_right (by rw [mxL_length]; omega), mxL_length]
    by_cases h2 : i < k + m
    · rw [mxL_get _ _ _ (i - k) (by omega), mxL_get _ _ _ i h2]
      exact congrArg some (rowL_congr fun j _ => by unfold allX; rw [if_neg h1])
    · rw [List.getElem?_eq_none (by rw [mxL_length]; omega), List.getElem?_eq_none (by rw [mxL_length]; omega)]
/-! ### rs over plain matrices -/
theorem bytesOf_isB (s : ByteArray) : ∀ x ∈ bytesOf s, isB x := by
  intro x hx
  simp only [bytesOf, List.mem_map] at hx
  obtain ⟨b, _, rfl⟩ := hx
  have := b.toNat_lt
  exact ⟨by omega, by omega⟩
theorem son_bytesOf (s : ByteArray) : strOfNums (bytesOf s) = s := by
  have : (strOfNums (bytesOf s)).data.toList = s.data.toList := by
    unfold strOfNums bytesOf
    simp only [List.map_map]
    conv => rhs; rw [← List.map_id s.data.toList]
    apply List.map_congr_left
    intro x hx
    simp
  cases s with
  | mk d =>
    cases h : strOfNums (bytesOf ⟨d⟩) with
    | mk e =>
      rw [h] at this
      exact congrArg ByteArray.mk (Array.toList_inj.1 this)
/-- Pieces of p bytes each. -/
def mxS (n p : Nat) (A : GfM.Mx) : List ByteArray := (List.range n).map fun i => strX p (A i)
theorem mxS_length (n p : Nat) (A : GfM.Mx) : (mxS n p A).length = n := by simp [mxS]
theorem mxS_get (n p : Nat) (A : GfM.Mx) (i : Nat) (hi : i < n) : (mxS n p A)[i]? = some (strX p (A i)) := by simp [mxS, hi]
theorem strX_congr {p : Nat} {f f' : Nat → GfM.F} (h : ∀ j, j < p → f j = f' j) : strX p f = strX p f' := by unfold strX; rw [rowL_congr h]
theorem mxS_congr {n p : Nat} {A A' : GfM.Mx} (h : ∀ i, i < n → ∀ j, j < p → A i j = A' i j) : mxS n p A = mxS n p A' := by
  unfold mxS
  apply List.map_congr_left
  intro i hi
  exact strX_congr (h i (List.mem_range.1 hi))
theorem rdS {n p : Nat} (A : GfM.Mx) {i : Nat} (hi : i < n) : rdOf ByteArray.empty (mxS n p A) (i : Int) = strX p (A i) := by
  unfold rdOf
  rw [Int.toNat_natCast, List.getD_eq_getElem?_getD, mxS_get n p A i hi]; rfl
theorem rdOf_nat (l : List ByteArray) (i : Nat) : rdOf ByteArray.empty l (i : Int) = l.getD i ByteArray.empty := by unfold rdOf; rw [Int.toNat_natCast]
/-- Pieces as a matrix. -/
def toB (l : List ByteArray) : GfM.Mx := fun i j => el ((bytesOf (l.getD i ByteArray.empty)).getD j 0)
theorem strX_back (s : ByteArray) (f : Nat → GfM.F) (h : ∀ j, j < s.size → f j = el ((bytesOf s).getD j 0)) : strX s.size f = s := by
  unfold strX
  have e : bytesOf s = rowL s.size f := rowL_ext (bytesOf_length s) (fun j hj => by
    have hm : (bytesOf s).getD j 0 ∈ bytesOf s := by rw [List.getD_eq_getElem?_getD, List.getElem?_eq_getElem (by rw [bytesOf_length]; exact hj)]; exact List.getElem_mem _
    have := bytesOf_isB s _ hm
    rw [h j hj]
    exact (el_back this.1 this.2).symm)
  rw [← e, son_bytesOf]
theorem mxS_toB {l : List ByteArray} {p : Nat} (h : ∀ s ∈ l, s.size = p) : mxS l.length p (toB l) = l := by
  apply List.ext_getElem?
  intro i
  by_cases hi : i < l.length
  · rw [mxS_get _ _ _ i hi, List.getElem?_eq_getElem hi]
    have hs := h _ (List.getElem_mem hi)
    congr 1
    rw [← hs]
    have e : l.getD i ByteArray.empty = l[i] := by rw [List.getD_eq_getElem?_getD, List.getElem?_eq_getElem hi]; rfl
    exact strX_back _ _ (fun j _ => by unfold toB; rw [e])
  · rw [List.getElem?_eq_none (by rw [mxS_length]; omega), List.getElem?_eq_none (by omega)]
theorem rscheck (a0 a1 : Int) : rs_Check.f a0 a1 = some (if 1 ≤ a0 ∧ a0 ≤ 255 ∧ 0 ≤ a1 ∧ a1 ≤ 255 - a0 then 0 else 1) := by
  unfold rs_Check.f
  by_cases h1 : a0 < 1
  · rw [if_pos h1, if_neg (by omega)]
  · rw [if_neg h1]
    by_cases h2 : a1 < 0
    · rw [if_pos h2, if_neg (by omega)]
    · rw [if_neg h2]
      by_cases h3 : a0 > 255
      · rw [if_pos h3, if_neg (by omega)]
      · rw [if_neg h3]
        have hw : wrap64 (255 - a0) = 255 - a0 := by unfold wrap64; omega
        rw [hw]
        by_cases h4 : a1 > 255 - a0
        · rw [if_pos h4, if_neg (by omega)]
        · rw [if_neg h4, if_pos (by omega)]
/-- Pieces are of one length, and not too long. -/
def Fits (l : List ByteArray) : Prop := ∀ s ∈ l, s.size = (l.getD 0 ByteArray.empty).size ∧ s.size ≤ 65536
instance (l : List ByteArray) : Decidable (Fits l) := by unfold Fits; infer_instance
theorem rsfits_l0 (l : List ByteArray) (hl : l.length ≤ 17592186044416) (K : Nat) : ∀ (d i : Nat), i + d = l.length → rs_fits.l0 (K + d + 1) l l (l.length : Int) (i : Int) = some (decide (∀ s ∈ l.drop i, s.size = (l.getD 0 ByteArray.empty).size ∧ s.size ≤ 65536))
  | 0, i, h => by
    have f0 : ¬ (i : Int) < (l.length : Int) := by omega
    show (if (i : Int) < (l.length : Int) then _ else some true) = _
    rw [if_neg f0, List.drop_of_length_le (by omega)]
    simp
  | d + 1, i, h => by
    have hi : i < l.length := by omega
    have f0 : (i : Int) < (l.length : Int) := by omega
    have f1 : (0 : Int) ≤ (i : Int) := by omega
    have f2 : (0 : Int) < (l.length : Int) := by omega
    have hw : wrap64 ((i : Int) + 1) = ((i + 1 : Nat) : Int) := by unfold wrap64; omega
    have ih := rsfits_l0 l hl K d (i + 1) (by omega)
    have e0 : rdOf ByteArray.empty l 0 = l.getD 0 ByteArray.empty := rdOf_nat l 0
    have ei : l.getD i ByteArray.empty = l[i] := by rw [List.getD_eq_getElem?_getD, List.getElem?_eq_getElem hi]; rfl
    rw [show K + (d + 1) + 1 = (K + d + 1) + 1 from by omega]
    generalize hF : K + d + 1 = F at ih ⊢
    unfold rs_fits.l0
    rw [if_pos f0, if_pos f1, if_pos f0, if_pos f2, rdOf_nat, e0, ei, hw, ih, List.drop_eq_getElem_cons hi]
    simp only [List.forall_mem_cons]
    by_cases h1 : l[i].size = (l.getD 0 ByteArray.empty).size
    · rw [if_pos (by omega)]
      by_cases h2 : l[i].size > 65536
      · rw [if_pos (by omega)]
        congr 1
        exact (decide_eq_false (fun hh => by have := hh.1.2; omega)).symm
      · rw [if_neg (by omega)]
        congr 1
        rw [decide_eq_decide]
        exact ⟨fun hh => ⟨⟨h1, by omega⟩, hh⟩, fun hh => hh.2⟩
    · rw [if_neg (by omega)]
      congr 1
      exact (decide_eq_false (fun hh => h1 hh.1.1)).symm
theorem rsfits {l : List ByteArray} (hl : l.length ≤ 17592186044416) {k : Nat} (hk : l.length < k) : rs_fits.f k l = some (decide (Fits l)) := by
  have := rsfits_l0 l hl (k - l.length - 1) l.length 0 (by omega)
  rw [show k - l.length - 1 + l.length + 1 = k from by omega, List.drop_zero] at this
  exact this
/-! times -/
def stS (n p m : Nat) (A D : GfM.Mx) (i : Nat) : List ByteArray := (List.range n).map fun r => if r < i then strX p (GfM.mm m A D r) else ⟨#[]⟩
theorem stS_length (n p m : Nat) (A D : GfM.Mx) (i : Nat) : (stS n p m A D i).length = n := by simp [stS]
theorem stS_set (n p m : Nat) (A D : GfM.Mx) (i : Nat) (hi : i < n) : (stS n p m A D i).set i (strX p (GfM.mm m A D i)) = stS n p m A D (i + 1) := by
  apply List.ext_getElem?
  intro r
  by_cases hr : r < n
  · by_cases e : r = i
    · subst e
      rw [List.getElem?_set_self (by rw [stS_length]; exact hr)]
      simp [stS, hr]
    · rw [List.getElem?_set_ne (fun e' => e e'.symm)]
      have : (r < i + 1) = (r < i) := by apply propext; omega
      simp only [stS, List.getElem?_map, List.getElem?_range hr, Option.map_some, this]
  · rw [List.getElem?_eq_none (by rw [List.length_set, stS_length]; omega), List.getElem?_eq_none (by rw [stS_length]; omega)]
theorem putf (p : Nat) (f : Nat → GfM.F) (x : GfM.F) (s : Nat → GfM.F) (hp : p ≤ 65536) : gf_Put.f (rowL p f) (x.toNat : Int) (strX p s) = some (rowL p (fun j => f j ^^^ GfM.mul x (s j))) := by
  unfold gf_Put.f
  have hx := x.isLt
  rw [if_pos ⟨⟨by omega, by omega⟩, by rw [strX_size]; omega, by rw [rowL_length]; omega, fun y hy => by
    obtain ⟨j, _, rfl⟩ := List.mem_map.1 hy
    exact ⟨by omega, by have := (f j).isLt; omega⟩⟩, rowL_length, strX_size, Nat.min_self, strX_bytes, putL_rowL]
theorem rstimes_l {n m p : Nat} (A D : GfM.Mx) (hn : n ≤ 255) (hm : m ≤ 255) (m1 : 1 ≤ m) (hp : p ≤ 65536) :
    ∀ (d i K : Nat), i + d = n → rs_times.l0 (K + d * (m + 2) + 1) (mxS m p D) (stS n p m A D i) (mxL n m A) (n : Int) (i : Int) = some (mxS n p (GfM.mm m A D)) := by
  have l1 : ∀ (i : Nat), i < n → ∀ (d j K : Nat), j + d = m → rs_times.l1 (K + d + 1) (mxS m p D) (stS n p m A D i) (i : Int) (rowL p (GfM.mm j A D i)) (mxL n m A) (n : Int) (i : Int) (rowL m (A i)) (m : Int) (j : Int) = rs_times.l0 K (mxS m p D) (stS n p m A D (i + 1)) (mxL n m A) (n : Int) ((i + 1 : Nat) : Int) := by
    intro i hi d
    induction d with
    | zero =>
      intro j K h
      have hj : j = m := by omega
      subst hj
      have f0 : ¬ (j : Int) < (j : Int) := by omega
      have f1 : (0 : Int) ≤ (i : Int) := by omega
      have f2 : (i : Int) < ((stS n p j A D i).length : Int) := by rw [stS_length]; omega
      have hw : wrap64 ((i : Int) + 1) = ((i + 1 : Nat) : Int) := by unfold wrap64; omega
      unfold rs_times.l1
      rw [if_neg f0, if_pos f1, if_pos f2, hw, Int.toNat_natCast]
      rw [show strOfNums (rowL p (GfM.mm j A D i)) = strX p (GfM.mm j A D i) from rfl, stS_set n p j A D i hi]
    | succ d ih =>
      intro j K h
      have hj : j < m := by omega
      have f0 : (j : Int) < (m : Int) := by omega
      have f1 : (0 : Int) ≤ (j : Int) := by omega
      have hw : wrap64 ((j : Int) + 1) = ((j + 1 : Nat) : Int) := by unfold wrap64; omega
      have ih' := ih (j + 1) K (by omega)
      rw [show K + (d + 1) + 1 = (K + d + 1) + 1 from by omega]
      generalize hF : K + d + 1 = F at ih' ⊢
      unfold rs_times.l1
      rw [if_pos f0, if_pos f1]
      simp only [rowL_length, mxS_length]
      rw [if_pos f0, if_pos f0, rd_rowL _ hj, rdS D hj, putf p _ _ _ hp, hw]
      exact ih'
  intro d
  induction d with
  | zero =>
    intro i K h
    have f0 : ¬ (i : Int) < (n : Int) := by omega
    rw [Nat.zero_mul, Nat.add_zero]
    unfold rs_times.l0
    rw [if_neg f0]
    have e : stS n p m A D i = mxS n p (GfM.mm m A D) := by
      unfold stS mxS
      apply List.map_congr_left
      intro r hr
      have := List.mem_range.1 hr
      rw [if_pos (by omega)]
    rw [e]
  | succ d ih =>
    intro i K h
    have hi : i < n := by omega
    have f0 : (i : Int) < (n : Int) := by omega
    have f1 : (0 : Int) ≤ (i : Int) := by omega
    have f2 : (0 : Int) < (m : Int) := by omega
    have f3 : (0 : Int) ≤ (p : Int) := by omega
    have f4 : p ≤ 281474976710656 := by omega
    have ih' := ih (i + 1) K (by omega)
    have e := l1 i hi m 0 (K + d * (m + 2) + 1) (by omega)
    rw [ih'] at e
    have ef : K + (d + 1) * (m + 2) + 1 = (K + d * (m + 2) + 1 + m + 1) + 1 := by rw [Nat.succ_mul]; omega
    have e0 : rdOf ByteArray.empty (mxS m p D) 0 = strX p (D 0) := rdS D (i := 0) (by omega)
    have er : List.replicate p (0 : Int) = rowL p (GfM.mm 0 A D i) := rowL_ext (by simp) (fun j hj => by simp [List.getD_eq_getElem?_getD, hj]; rfl)
    rw [ef]
    generalize hF : K + d * (m + 2) + 1 + m + 1 = F at e ⊢
    unfold rs_times.l0
    simp only [mxL_length, mxS_length, e0, strX_size, Int.toNat_natCast]
    rw [if_pos f0, if_pos f1, if_pos f0, if_pos f2, if_pos f3, if_pos f4, rd_L1_mxL A hi, rowL_length, er]
    exact e
theorem rstimes {n m p : Nat} (A D : GfM.Mx) (hn : n ≤ 255) (hm : m ≤ 255) (m1 : 1 ≤ m) (hp : p ≤ 65536) {k : Nat} (hk : 70000 ≤ k) : rs_times.f k (mxL n m A) (mxS m p D) = some (mxS n p (GfM.mm m A D)) := by
  unfold rs_times.f
  have f1 : (0 : Int) ≤ (n : Int) := by omega
  have f2 : n ≤ 17592186044416 := by omega
  have e : List.replicate n (⟨#[]⟩ : ByteArray) = stS n p m A D 0 := by
    apply List.ext_getElem?
    intro r
    by_cases hr : r < n
    · simp [stS, hr]
    · rw [List.getElem?_eq_none (by simp; omega), List.getElem?_eq_none (by rw [stS_length]; omega)]
  have hb : n * (m + 2) ≤ 255 * 257 := Nat.mul_le_mul hn (by omega)
  have := rstimes_l A D hn hm m1 hp n 0 (k - n * (m + 2) - 1) (by omega)
  rw [show k - n * (m + 2) - 1 + n * (m + 2) + 1 = k from by omega] at this
  simp only [mxL_length, Int.toNat_natCast]
  rw [if_pos f1, if_pos f2, e]
  exact this
/-! parity, Encode -/
theorem rsparity {k m p : Nat} (D : GfM.Mx) (k1 : 1 ≤ k) (hkm : k + m ≤ 255) (hp : p ≤ 65536) {K : Nat} (hK : 70000 ≤ K) : rs_parity.f K (k : Int) (m : Int) (mxS k p D) = some (mxS m p (GfM.mm k (cauX k) D)) := by
  unfold rs_parity.f
  by_cases h : m = 0
  · subst h
    rw [if_pos (by rfl)]; rfl
  · rw [if_neg (by omega), cauf k m k1 (by omega) hkm]
    simp only [Option.bind_some]
    rw [rstimes (cauX k) D (by omega) (by omega) k1 hp hK]
    rfl
/-- What Encode answers, if all is right. -/
theorem rsencode_ok {k m p : Nat} (D : GfM.Mx) (k1 : 1 ≤ k) (hkm : k + m ≤ 255) (hp : p ≤ 65536) {K : Nat} (hK : 70000 ≤ K) : rs_Encode.f K (k : Int) (m : Int) (mxS k p D) = some (mxS m p (GfM.mm k (cauX k) D), 0) := by
  have hfit : Fits (mxS k p D) := by
    intro s hs
    obtain ⟨i, _, rfl⟩ := List.mem_map.1 hs
    have e : (mxS k p D).getD 0 ByteArray.empty = strX p (D 0) := by rw [List.getD_eq_getElem?_getD, mxS_get k p D 0 (by omega)]; rfl
    rw [e, strX_size, strX_size]
    exact ⟨rfl, hp⟩
  unfold rs_Encode.f
  rw [rscheck, if_pos (by omega), rsfits (by rw [mxS_length]; omega) (by rw [mxS_length]; omega), decide_eq_true hfit, rsparity D k1 hkm hp hK]
  simp only [Option.bind_some, mxS_length, if_true]
/-- Either all is right, or there is an error, and nothing. -/
theorem rsencode {a0 a1 : Int} {l : List ByteArray} (hl : l.length ≤ 17592186044416) {K : Nat} (hK : 70000 ≤ K) (hK2 : l.length < K) :
    (∃ (k m p : Nat) (D : GfM.Mx), a0 = (k : Int) ∧ a1 = (m : Int) ∧ 1 ≤ k ∧ k + m ≤ 255 ∧ p ≤ 65536 ∧ l = mxS k p D ∧ rs_Encode.f K a0 a1 l = some (mxS m p (GfM.mm k (cauX k) D), 0)) ∨ ∃ e, e ≠ 0 ∧ rs_Encode.f K a0 a1 l = some ([], e) := by
  by_cases hc : 1 ≤ a0 ∧ a0 ≤ 255 ∧ 0 ≤ a1 ∧ a1 ≤ 255 - a0
  · by_cases hlen : (l.length : Int) = a0
    · by_cases hf : Fits l
      · left
        have hne : 0 < l.length := by omega
        have hp : (l.getD 0 ByteArray.empty).size ≤ 65536 := by
          refine (hf _ ?_).2
          rw [List.getD_eq_getElem?_getD, List.getElem?_eq_getElem hne]
          exact List.getElem_mem hne
        obtain ⟨m, hm⟩ := Int.eq_ofNat_of_zero_le hc.2.2.1
        have e := mxS_toB (l := l) (p := (l.getD 0 ByteArray.empty).size) (fun s hs => (hf s hs).1)
        refine ⟨l.length, m, (l.getD 0 ByteArray.empty).size, toB l, hlen.symm, hm, by omega, by omega, hp, e.symm, ?_⟩
        have := rsencode_ok (k := l.length) (m := m) (toB l) (by omega) (by omega) hp hK
        rw [e, hlen, ← hm] at this
        exact this
      · right
        unfold rs_Encode.f
        rw [rscheck, if_pos hc, rsfits hl hK2, decide_eq_false hf]
        simp only [Option.bind_some, if_true]
        rw [if_pos hlen]
        exact ⟨2, by decide, rfl⟩
    · right
      unfold rs_Encode.f
      rw [rscheck, if_pos hc]
      simp only [Option.bind_some, if_true]
      rw [if_neg hlen]
      exact ⟨2, by decide, rfl⟩
  · right
    unfold rs_Encode.f
    rw [rscheck, if_neg hc]
    exact ⟨1, by decide, rfl⟩
theorem lives04 (k : Nat) (hk : 70100 ≤ k) : caulklaw04_lives.f k = some true := by
  have h : caulklaw04_lives.f 300 = some true := by decide +kernel
  have mono : ∀ d : Nat, caulklaw04_lives.f (300 + d) = some true := by
    intro d
    induction d with
    | zero => exact h
    | succ d ih => exact caulklaw04_lives.mono (300 + d) _ ih
  have := mono (k - 300)
  rwa [show 300 + (k - 300) = k from by omega] at this
theorem small04_l0 (x0 x1 : Int) (l : List ByteArray) (hl : l.length ≤ 17592186044416) (K : Nat) : ∀ (d i : Nat) (x7 : Int), i + d = l.length → i ≤ 16 → 0 ≤ x7 → x7 ≤ 16384 * (i : Int) → (∀ j, j < i → (l.getD j ByteArray.empty).size ≤ 16384) →
    ∃ b, caulklaw04_small.l0 (K + d + 1) x0 x1 x7 l (l.length : Int) (i : Int) = some b ∧ (b = true → l.length ≤ 16 ∧ ∀ s ∈ l, s.size ≤ 16384)
  | 0, i, x7, h, h16, h0, h1, hs => by
    have f0 : ¬ (i : Int) < (l.length : Int) := by omega
    have good : l.length ≤ 16 ∧ ∀ s ∈ l, s.size ≤ 16384 := ⟨by omega, fun s hm => by
      obtain ⟨j, hj, rfl⟩ := List.mem_iff_getElem.1 hm
      have := hs j (by omega)
      rwa [List.getD_eq_getElem?_getD, List.getElem?_eq_getElem hj] at this⟩
    unfold caulklaw04_small.l0
    rw [if_neg f0]
    repeat' split
    all_goals exact ⟨_, rfl, fun _ => good⟩
  | d + 1, i, x7, h, h16, h0, h1, hs => by
    have hi : i < l.length := by omega
    have f0 : (i : Int) < (l.length : Int) := by omega
    have f1 : (0 : Int) ≤ (i : Int) := by omega
    have hw : wrap64 ((i : Int) + 1) = ((i + 1 : Nat) : Int) := by clear h1 hs; unfold wrap64; omega
    rw [show K + (d + 1) + 1 = (K + d + 1) + 1 from by omega]
    have ih := small04_l0 x0 x1 l hl K d (i + 1)
    generalize hF : K + d + 1 = F at ih ⊢
    unfold caulklaw04_small.l0
    rw [if_pos f0, if_pos f1, if_pos f0, rdOf_nat]
    by_cases e : (i : Int) = 16
    · rw [if_pos e]; exact ⟨false, rfl, fun hh => by cases hh⟩
    · rw [if_neg e]
      by_cases e1 : ((l.getD i ByteArray.empty).size : Int) > 16384
      · rw [if_pos e1]; exact ⟨false, rfl, fun hh => by cases hh⟩
      · rw [if_neg e1]
        by_cases e2 : x7 > 16384
        · rw [if_pos e2]; exact ⟨false, rfl, fun hh => by cases hh⟩
        · have hw2 : wrap64 (x7 + ((l.getD i ByteArray.empty).size : Int)) = x7 + ((l.getD i ByteArray.empty).size : Int) := by clear hw ih hs; unfold wrap64; omega
          rw [if_neg e2, hw, hw2]
          refine ih _ (by omega) (by omega) (by omega) (by omega) (fun j hj => ?_)
          by_cases ej : j = i
          · subst ej; omega
          · exact hs j (by omega)
theorem small04 (a0 a1 : Int) {l : List ByteArray} (hl : l.length ≤ 17592186044416) {k : Nat} (hk : l.length < k) : ∃ b, caulklaw04_small.f k a0 a1 l = some b ∧ (b = true → l.length ≤ 16 ∧ ∀ s ∈ l, s.size ≤ 16384) := by
  have := small04_l0 a0 a1 l hl (k - l.length - 1) l.length 0 0 (by omega) (by omega) (by omega) (by omega) (fun j hj => by omega)
  rw [show k - l.length - 1 + l.length + 1 = k from by omega] at this
  exact this
/-! ### Decode -/
/-- Which pieces are there, as far as n. -/
def thereL (t : Nat → Bool) (n : Nat) : List Nat := (List.range n).filter t
theorem thereL_succ (t : Nat → Bool) (n : Nat) : thereL t (n + 1) = thereL t n ++ (if t n = true then [n] else []) := by
  unfold thereL
  rw [List.range_succ, List.filter_append]
  congr 1
  by_cases h : t n = true <;> simp [h]
theorem thereL_lt {t : Nat → Bool} {n x : Nat} (h : x ∈ thereL t n) : x < n := List.mem_range.1 (List.mem_filter.1 h).1
theorem thereL_le (t : Nat → Bool) (n : Nat) : (thereL t n).length ≤ n := by have := List.length_filter_le t (List.range n); rw [List.length_range] at this; exact this
theorem thereL_sorted (t : Nat → Bool) (n : Nat) : (thereL t n).Pairwise (· < ·) := List.Pairwise.filter t List.pairwise_lt_range
theorem sorted_step {R : List Nat} (h : R.Pairwise (· < ·)) {i j : Nat} (hj : j < R.length) (hij : i ≤ j) : R.getD i 0 + (j - i) ≤ R.getD j 0 := by
  have key : ∀ d i : Nat, i + d < R.length → R.getD i 0 + d ≤ R.getD (i + d) 0 := by
    intro d
    induction d with
    | zero => intro i _; exact Nat.le_refl _
    | succ d ih =>
      intro i hi
      have h1 := ih i (by omega)
      have h2 : R.getD (i + d) 0 < R.getD (i + (d + 1)) 0 := by
        rw [List.getD_eq_getElem?_getD, List.getD_eq_getElem?_getD, List.getElem?_eq_getElem (show i + d < R.length by omega), List.getElem?_eq_getElem hi]
        exact List.pairwise_iff_getElem.1 h (i + d) (i + (d + 1)) (by omega) hi (by omega)
      omega
  have := key (j - i) i (by omega)
  rwa [show i + (j - i) = j from by omega] at this
def haveL (t : Nat → Bool) (p : Nat) (W : GfM.Mx) (n : Nat) : List ByteArray := (thereL t n).map fun r => strX p (W r)
def placeL (t : Nat → Bool) (n : Nat) : List Int := (thereL t n).map fun (r : Nat) => (r : Int)
theorem haveL_length (t : Nat → Bool) (p : Nat) (W : GfM.Mx) (n : Nat) : (haveL t p W n).length = (thereL t n).length := by simp [haveL]
theorem placeL_length (t : Nat → Bool) (n : Nat) : (placeL t n).length = (thereL t n).length := by simp [placeL]
theorem have_take (t : Nat → Bool) (p : Nat) (W : GfM.Mx) {n k : Nat} (hk : k ≤ (thereL t n).length) : (haveL t p W n).take k = mxS k p (fun i => W ((thereL t n).getD i 0)) := by
  apply List.ext_getElem?
  intro i
  by_cases hi : i < k
  · rw [List.getElem?_take, if_pos hi, mxS_get _ _ _ i hi]
    unfold haveL
    rw [List.getElem?_map, List.getElem?_eq_getElem (by omega), List.getD_eq_getElem?_getD, List.getElem?_eq_getElem (by omega)]
    rfl
  · rw [List.getElem?_eq_none (by rw [List.length_take, haveL_length]; omega), List.getElem?_eq_none (by rw [mxS_length]; omega)]
theorem rswhole {k m : Nat} (k1 : 1 ≤ k) (hkm : k + m ≤ 255) : rs_whole.f (k : Int) (m : Int) = some (mxL (k + m) k (allX k)) := by
  unfold rs_whole.f
  rw [unitf k k1 (by omega)]
  simp only [Option.bind_some]
  by_cases h : m = 0
  · subst h
    rw [if_pos (by rfl)]
    congr 1
    exact mxL_congr fun i hi j _ => by unfold allX; rw [if_pos (by omega)]
  · rw [if_neg (by omega), cauf k m k1 (by omega) hkm]
    simp only [Option.bind_some]
    rw [if_pos (by rw [mxL_length, mxL_length]; omega), all_mxL]
theorem rsdec_j0 (k : Nat) (x0 x1 : Int) (x9 : List ByteArray) (x10 : List Int) (x23 : Bool) : rs_Decode.j0 (k + 1) x0 x1 x9 x10 x23 = if x23 = true then (some (([] : List ByteArray), 2)) else (if (x9.length : Int) < x0 then (some (([] : List ByteArray), 10)) else ((rs_data.f k x0 x1 x9 x10).bind fun t508 => ((rs_parity.f k x0 x1 t508).bind fun t511 => (if t508.length + t511.length < 8796093022208 then (some ((t508 ++ t511), 0)) else (none))))) := rfl
theorem ref4check (a0 a1 : Int) (h0 : -9223372036854775808 ≤ a0) (h1 : a0 ≤ 9223372036854775807) (h2 : -9223372036854775808 ≤ a1) (h3 : a1 ≤ 9223372036854775807) : caulkref04_Check.f a0 a1 = rs_Check.f a0 a1 := by
  rw [rscheck]
  unfold caulkref04_Check.f
  by_cases c1 : a0 < 1
  · rw [if_pos c1, if_neg (by omega)]
  · rw [if_neg c1]
    by_cases c2 : a1 < 0
    · rw [if_pos c2, if_neg (by omega)]
    · rw [if_neg c2]
      by_cases c3 : a0 > 255
      · rw [if_pos c3, if_neg (by omega)]
      · rw [if_neg c3]
        by_cases c4 : a1 > 255
        · rw [if_pos c4, if_neg (by omega)]
        · rw [if_neg c4]
          have hw : wrap64 (a0 + a1) = a0 + a1 := by unfold wrap64; omega
          rw [hw]
          by_cases c5 : a0 + a1 > 255
          · rw [if_pos c5, if_neg (by omega)]
          · rw [if_neg c5, if_pos (by omega)]
theorem ref4fits_l0 (l : List ByteArray) (hl : l.length ≤ 17592186044416) (K : Nat) : ∀ (d i : Nat), i + d = l.length → caulkref04_fits.l0 (K + d + 1) l l (l.length : Int) (i : Int) = some (decide (∀ s ∈ l.drop i, s.size = (l.getD 0 ByteArray.empty).size ∧ s.size ≤ 65536))
  | 0, i, h => by
    have f0 : ¬ (i : Int) < (l.length : Int) := by omega
    show (if (i : Int) < (l.length : Int) then _ else some true) = _
    rw [if_neg f0, List.drop_of_length_le (by omega)]
    simp
  | d + 1, i, h => by
    have hi : i < l.length := by omega
    have f0 : (i : Int) < (l.length : Int) := by omega
    have f1 : (0 : Int) ≤ (i : Int) := by omega
    have f2 : (0 : Int) < (l.length : Int) := by omega
    have hw : wrap64 ((i : Int) + 1) = ((i + 1 : Nat) : Int) := by unfold wrap64; omega
    have ih := ref4fits_l0 l hl K d (i + 1) (by omega)
    have e0 : rdOf ByteArray.empty l 0 = l.getD 0 ByteArray.empty := rdOf_nat l 0
    have ei : l.getD i ByteArray.empty = l[i] := by rw [List.getD_eq_getElem?_getD, List.getElem?_eq_getElem hi]; rfl
    rw [show K + (d + 1) + 1 = (K + d + 1) + 1 from by omega]
    generalize hF : K + d + 1 = F at ih ⊢
    unfold caulkref04_fits.l0
    rw [if_pos f0, if_pos f1, if_pos f0, if_pos f2, rdOf_nat, e0, ei, hw, ih, List.drop_eq_getElem_cons hi]
    simp only [List.forall_mem_cons]
    by_cases h1 : l[i].size = (l.getD 0 ByteArray.empty).size
    · rw [if_pos (by omega)]
      by_cases h2 : l[i].size > 65536
      · rw [if_pos (by omega)]
        congr 1
        exact (decide_eq_false (fun hh => by have := hh.1.2; omega)).symm
      · rw [if_neg (by omega)]
        congr 1
        rw [decide_eq_decide]
        exact ⟨fun hh => ⟨⟨h1, by omega⟩, hh⟩, fun hh => hh.2⟩
    · rw [if_neg (by omega)]
      congr 1
      exact (decide_eq_false (fun hh => h1 hh.1.1)).symm
theorem ref4fits {l : List ByteArray} (hl : l.length ≤ 17592186044416) {k : Nat} (hk : l.length < k) : caulkref04_fits.f k l = some (decide (Fits l)) := by
  have := ref4fits_l0 l hl (k - l.length - 1) l.length 0 (by omega)
  rw [show k - l.length - 1 + l.length + 1 = k from by omega, List.drop_zero] at this
  exact this

theorem bt_strX (p : Nat) (f : Nat → GfM.F) {j : Nat} (hj : j < p) : bt (strX p f) (j : Int) = ((f j).toNat : Int) := by
  rw [← rd_bytesOf, strX_bytes, rd_rowL f hj]
theorem ref4times_l {n m p : Nat} (A D : GfM.Mx) (hn : n ≤ 255) (hm : m ≤ 255) (m1 : 1 ≤ m) (hp : p ≤ 65536) :
    ∀ (d i K : Nat), i + d = n → caulkref04_times.l0 (K + d * (m * (p + 2) + 2) + 1) (mxS m p D) (mxS i p (GfM.mm m A D)) (mxL n m A) (n : Int) (i : Int) = some (mxS n p (GfM.mm m A D)) := by
  have l2 : ∀ (i : Nat), i < n → ∀ (j : Nat), j < m → ∀ (d q K : Nat), q + d = p → caulkref04_times.l2 (K + d + 1) (mxS m p D) (mxS i p (GfM.mm m A D)) (rowL p (fun c => if c < q then GfM.mm (j + 1) A D i c else GfM.mm j A D i c)) (j : Int) ((A i j).toNat : Int) (mxL n m A) (n : Int) (i : Int) (rowL m (A i)) (m : Int) (j : Int) (p : Int) (q : Int) = caulkref04_times.l1 K (mxS m p D) (mxS i p (GfM.mm m A D)) (rowL p (GfM.mm (j + 1) A D i)) (mxL n m A) (n : Int) (i : Int) (rowL m (A i)) (m : Int) ((j + 1 : Nat) : Int) := by
    intro i hi j hj d
    induction d with
    | zero =>
      intro q K h
      have f0 : ¬ (q : Int) < (p : Int) := by omega
      have hw : wrap64 ((j : Int) + 1) = ((j + 1 : Nat) : Int) := by unfold wrap64; omega
      unfold caulkref04_times.l2
      rw [if_neg f0, hw, rowL_congr (f' := GfM.mm (j + 1) A D i) (fun c hc => by rw [if_pos (by omega)])]
    | succ d ih =>
      intro q K h
      have hq : q < p := by omega
      have f0 : (q : Int) < (p : Int) := by omega
      have f1 : (0 : Int) ≤ (q : Int) := by omega
      have f2 : (0 : Int) ≤ (j : Int) := by omega
      have f3 : (j : Int) < (m : Int) := by omega
      have hw : wrap64 ((q : Int) + 1) = ((q + 1 : Nat) : Int) := by unfold wrap64; omega
      have ih' := ih (q + 1) K (by omega)
      rw [show K + (d + 1) + 1 = (K + d + 1) + 1 from by omega]
      generalize hF : K + d + 1 = F at ih' ⊢
      unfold caulkref04_times.l2
      rw [if_pos f0, if_pos f1]
      simp only [rowL_length, mxS_length]
      rw [if_pos f0, if_pos f2, if_pos f3, rdS D hj, strX_size, if_pos f0, bt_strX p _ hq, refmul (isB_nat _) (isB_nat _)]
      simp only [Option.bind_some, hw, Int.toNat_natCast]
      rw [rd_rowL _ hq, mulI_nat, g_xor8, rowL_set]
      have e : rowL p (fun c => if c = q then ((fun c => if c < q then GfM.mm (j + 1) A D i c else GfM.mm j A D i c) q ^^^ GfM.mul (A i j) (D j q)) else (fun c => if c < q then GfM.mm (j + 1) A D i c else GfM.mm j A D i c) c) = rowL p (fun c => if c < q + 1 then GfM.mm (j + 1) A D i c else GfM.mm j A D i c) := rowL_congr fun c hc => by
        by_cases e : c = q
        · subst e
          rw [if_pos rfl, if_pos (by omega)]
          dsimp only
          rw [if_neg (by omega)]
          rfl
        · rw [if_neg e]
          dsimp only
          by_cases e2 : c < q
          · rw [if_pos e2, if_pos (by omega)]
          · rw [if_neg e2, if_neg (by omega)]
      rw [e]
      exact ih'
  have l1 : ∀ (i : Nat), i < n → ∀ (d j K : Nat), j + d = m → caulkref04_times.l1 (K + d * (p + 2) + 1) (mxS m p D) (mxS i p (GfM.mm m A D)) (rowL p (GfM.mm j A D i)) (mxL n m A) (n : Int) (i : Int) (rowL m (A i)) (m : Int) (j : Int) = caulkref04_times.l0 K (mxS m p D) (mxS (i + 1) p (GfM.mm m A D)) (mxL n m A) (n : Int) ((i + 1 : Nat) : Int) := by
    intro i hi d
    induction d with
    | zero =>
      intro j K h
      have hj : j = m := by omega
      subst hj
      have f0 : ¬ (j : Int) < (j : Int) := by omega
      have f2 : (mxS i p (GfM.mm j A D)).length < 8796093022208 := by rw [mxS_length]; omega
      have hw : wrap64 ((i : Int) + 1) = ((i + 1 : Nat) : Int) := by unfold wrap64; omega
      rw [Nat.zero_mul, Nat.add_zero]
      unfold caulkref04_times.l1
      rw [if_neg f0, if_pos f2, hw]
      rw [show strOfNums (rowL p (GfM.mm j A D i)) = strX p (GfM.mm j A D i) from rfl]
      have e : mxS i p (GfM.mm j A D) ++ [strX p (GfM.mm j A D i)] = mxS (i + 1) p (GfM.mm j A D) := by unfold mxS; rw [List.range_succ, List.map_append, List.map_cons, List.map_nil]
      rw [e]
    | succ d ih =>
      intro j K h
      have hj : j < m := by omega
      have f0 : (j : Int) < (m : Int) := by omega
      have f1 : (0 : Int) ≤ (j : Int) := by omega
      have ih' := ih (j + 1) K (by omega)
      have e := l2 i hi j hj p 0 (K + d * (p + 2) + 1) (by omega)
      rw [ih', rowL_congr (f' := GfM.mm j A D i) (fun c hc => by rw [if_neg (by omega)])] at e
      have ef : K + (d + 1) * (p + 2) + 1 = (K + d * (p + 2) + 1 + p + 1) + 1 := by rw [Nat.succ_mul]; omega
      rw [ef]
      generalize hF : K + d * (p + 2) + 1 + p + 1 = F at e ⊢
      unfold caulkref04_times.l1
      rw [if_pos f0, if_pos f1]
      simp only [rowL_length]
      rw [if_pos f0, rd_rowL _ hj]
      exact e
  intro d
  induction d with
  | zero =>
    intro i K h
    have e : i = n := by omega
    subst e
    have f0 : ¬ (i : Int) < (i : Int) := by omega
    rw [Nat.zero_mul, Nat.add_zero]
    unfold caulkref04_times.l0
    rw [if_neg f0]
  | succ d ih =>
    intro i K h
    have hi : i < n := by omega
    have f0 : (i : Int) < (n : Int) := by omega
    have f1 : (0 : Int) ≤ (i : Int) := by omega
    have f2 : (0 : Int) < (m : Int) := by omega
    have f3 : (0 : Int) ≤ (p : Int) := by omega
    have f4 : p ≤ 281474976710656 := by omega
    have ih' := ih (i + 1) K (by omega)
    have e := l1 i hi m 0 (K + d * (m * (p + 2) + 2) + 1) (by omega)
    rw [ih'] at e
    have ef : K + (d + 1) * (m * (p + 2) + 2) + 1 = (K + d * (m * (p + 2) + 2) + 1 + m * (p + 2) + 1) + 1 := by rw [Nat.succ_mul]; omega
    have e0 : rdOf ByteArray.empty (mxS m p D) 0 = strX p (D 0) := rdS D (i := 0) (by omega)
    have er : List.replicate p (0 : Int) = rowL p (GfM.mm 0 A D i) := rowL_ext (by simp) (fun j hj => by simp [List.getD_eq_getElem?_getD, hj]; rfl)
    rw [ef]
    generalize hF : K + d * (m * (p + 2) + 2) + 1 + m * (p + 2) + 1 = F at e ⊢
    unfold caulkref04_times.l0
    simp only [mxL_length, mxS_length, e0, strX_size, Int.toNat_natCast]
    rw [if_pos f0, if_pos f1, if_pos f0, if_pos f2, if_pos f3, if_pos f4, rd_L1_mxL A hi, rowL_length, er]
    exact e
theorem ref4times {n m p : Nat} (A D : GfM.Mx) (hn : n ≤ 255) (hm : m ≤ 255) (m1 : 1 ≤ m) (hp : p ≤ 65536) {k : Nat} (hk : 5000000000 ≤ k) : caulkref04_times.f k (mxL n m A) (mxS m p D) = some (mxS n p (GfM.mm m A D)) := by
  unfold caulkref04_times.f
  have hb1 : m * (p + 2) ≤ 255 * 65538 := Nat.mul_le_mul hm (by omega)
  have hb : n * (m * (p + 2) + 2) ≤ 255 * (255 * 65538 + 2) := Nat.mul_le_mul hn (by omega)
  have := ref4times_l A D hn hm m1 hp n 0 (k - n * (m * (p + 2) + 2) - 1) (by omega)
  rw [show k - n * (m * (p + 2) + 2) - 1 + n * (m * (p + 2) + 2) + 1 = k from by omega] at this
  rw [mxL_length]
  exact this
theorem ref4enc_j0 (k : Nat) (x0 x1 : Int) (x2 : List ByteArray) (x22 : Bool) : caulkref04_Encode.j0 (k + 1) x0 x1 x2 x22 = if x22 = true then (some (([] : List ByteArray), 2)) else (if x1 = 0 then (some (([] : List ByteArray), 0)) else ((caulkref03_Cauchy.f k x0 x1).bind fun bt574 => ((caulkref04_times.f k bt574.1 x2).bind fun t578 => (some (t578, 0))))) := rfl
theorem ref4encode {a0 a1 : Int} {l : List ByteArray} (hl : l.length ≤ 17592186044416) (s0 : a0 ≤ 20 ∨ a0 > 255) (s1 : a1 ≤ 20 ∨ a1 > 255) (w0 : -9223372036854775808 ≤ a0) (w1 : a0 ≤ 9223372036854775807) (w2 : -9223372036854775808 ≤ a1) (w3 : a1 ≤ 9223372036854775807) {K : Nat} (hK : 6000000000 ≤ K) (hK2 : l.length + 10 < K) (K' : Nat) (hK' : 70000 ≤ K') (hK3 : l.length < K') : caulkref04_Encode.f K a0 a1 l = rs_Encode.f K' a0 a1 l := by
  obtain ⟨F, rfl⟩ : ∃ F, K = F + 1 := ⟨K - 1, by omega⟩
  unfold caulkref04_Encode.f rs_Encode.f
  rw [ref4check a0 a1 w0 w1 w2 w3, rscheck]
  by_cases hc : 1 ≤ a0 ∧ a0 ≤ 255 ∧ 0 ≤ a1 ∧ a1 ≤ 255 - a0
  · rw [if_pos hc]
    simp only [Option.bind_some, if_true]
    by_cases hlen : (l.length : Int) = a0
    · rw [if_pos hlen, if_pos hlen, rsfits hl hK3, ref4fits hl (by omega)]
      simp only [Option.bind_some]
      by_cases hf : Fits l
      · rw [decide_eq_true hf]
        simp only [if_true, Bool.not_true]
        rw [ref4enc_j0, if_neg (by decide)]
        have hne : 0 < l.length := by omega
        have hp : (l.getD 0 ByteArray.empty).size ≤ 65536 := by
          refine (hf _ ?_).2
          rw [List.getD_eq_getElem?_getD, List.getElem?_eq_getElem hne]
          exact List.getElem_mem hne
        obtain ⟨m, hm⟩ := Int.eq_ofNat_of_zero_le hc.2.2.1
        have e := mxS_toB (l := l) (p := (l.getD 0 ByteArray.empty).size) (fun s hs => (hf s hs).1)
        have hpar := rsparity (k := l.length) (m := m) (toB l) (by omega) (by omega) hp hK'
        rw [e, hlen, ← hm] at hpar
        rw [hpar]
        by_cases h0 : a1 = 0
        · rw [if_pos h0]
          have : m = 0 := by omega
          subst this
          rfl
        · rw [if_neg h0, refcau a0 a1 s0 s1 (by omega)]
          have hcf := cauf l.length m (by omega) (by omega) (by omega)
          rw [hlen, ← hm] at hcf
          rw [hcf]
          simp only [Option.bind_some]
          have ht := ref4times (n := m) (m := l.length) (p := (l.getD 0 ByteArray.empty).size) (cauX l.length) (toB l) (by omega) (by omega) (by omega) hp (k := F) (by omega)
          rw [e] at ht
          rw [ht]
          rfl
      · rw [decide_eq_false hf]
        simp only [Bool.false_eq_true, if_false, Bool.not_false]
        rw [ref4enc_j0, if_pos rfl]
    · rw [if_neg hlen, if_neg hlen, ref4enc_j0, if_pos rfl]
  · rw [if_neg hc]
    rfl
theorem small04_fin (x0 x1 : Int) (l : List ByteArray) (hl : l.length ≤ 17592186044416) (K : Nat) : ∀ (d i : Nat) (x7 : Int), i + d = l.length → 0 ≤ x7 → x7 ≤ 16384 * (i : Int) → i ≤ 16 → ∀ b, caulklaw04_small.l0 (K + d + 1) x0 x1 x7 l (l.length : Int) (i : Int) = some b → b = true → (x0 ≤ 16 ∨ x0 > 255) ∧ (x1 ≤ 16 ∨ x1 > 255)
  | 0, i, x7, h, h0, h1, h16, b, he, hb => by
    have f0 : ¬ (i : Int) < (l.length : Int) := by omega
    unfold caulklaw04_small.l0 at he
    rw [if_neg f0] at he
    subst hb
    by_cases c1 : x0 ≤ 16
    · rw [if_pos c1] at he
      by_cases c2 : x1 ≤ 16
      · exact ⟨.inl c1, .inl c2⟩
      · rw [if_neg c2] at he
        by_cases c3 : x1 > 255
        · exact ⟨.inl c1, .inr c3⟩
        · rw [if_neg c3] at he; cases he
    · rw [if_neg c1] at he
      by_cases c4 : x0 > 255
      · rw [if_pos c4] at he
        by_cases c2 : x1 ≤ 16
        · exact ⟨.inr c4, .inl c2⟩
        · rw [if_neg c2] at he
          by_cases c3 : x1 > 255
          · exact ⟨.inr c4, .inr c3⟩
          · rw [if_neg c3] at he; cases he
      · rw [if_neg c4] at he; cases he
  | d + 1, i, x7, h, h0, h1, h16, b, he, hb => by
    have f0 : (i : Int) < (l.length : Int) := by omega
    have f1 : (0 : Int) ≤ (i : Int) := by omega
    have hw : wrap64 ((i : Int) + 1) = ((i + 1 : Nat) : Int) := by clear h1 he; unfold wrap64; omega
    rw [show K + (d + 1) + 1 = (K + d + 1) + 1 from by omega] at he
    have ih := small04_fin x0 x1 l hl K d (i + 1)
    generalize hF : K + d + 1 = F at ih he
    unfold caulklaw04_small.l0 at he
    rw [if_pos f0, if_pos f1, if_pos f0, rdOf_nat] at he
    subst hb
    by_cases e : (i : Int) = 16
    · rw [if_pos e] at he; cases he
    · rw [if_neg e] at he
      by_cases e1 : ((l.getD i ByteArray.empty).size : Int) > 16384
      · rw [if_pos e1] at he; cases he
      · rw [if_neg e1] at he
        by_cases e2 : x7 > 16384
        · rw [if_pos e2] at he; cases he
        · have hw2 : wrap64 (x7 + ((l.getD i ByteArray.empty).size : Int)) = x7 + ((l.getD i ByteArray.empty).size : Int) := by clear hw ih he; unfold wrap64; omega
          rw [if_neg e2, hw, hw2] at he
          exact ih _ (by omega) (by omega) (by omega) (by omega) true he rfl
theorem same4_l0 (l : List ByteArray) (hl : l.length ≤ 1000) (K : Nat) : ∀ (d i : Nat), i + d = l.length → caulkref04_Same.l0 (K + d + 1) l l (l.length : Int) (i : Int) = some true
  | 0, i, h => by
    have f0 : ¬ (i : Int) < (l.length : Int) := by omega
    unfold caulkref04_Same.l0
    rw [if_neg f0]
  | d + 1, i, h => by
    have f0 : (i : Int) < (l.length : Int) := by omega
    have f1 : (0 : Int) ≤ (i : Int) := by omega
    have hw : wrap64 ((i : Int) + 1) = ((i + 1 : Nat) : Int) := by unfold wrap64; omega
    have ih := same4_l0 l hl K d (i + 1) (by omega)
    rw [show K + (d + 1) + 1 = (K + d + 1) + 1 from by omega]
    generalize hF : K + d + 1 = F at ih ⊢
    unfold caulkref04_Same.l0
    rw [if_pos f0, if_pos f1, if_pos f0, if_pos f0, if_pos rfl, hw]
    exact ih
theorem same4 {l : List ByteArray} (hl : l.length ≤ 1000) {K : Nat} (hK : 2000 ≤ K) : caulkref04_Same.f K l l = some true := by
  have := same4_l0 l hl (K - l.length - 1) l.length 0 (by omega)
  rw [show K - l.length - 1 + l.length + 1 = K from by omega] at this
  unfold caulkref04_Same.f
  rw [if_pos rfl]
  exact this
/-! ### RsDecodes: pieces that may be anything -/
def thr (l : List S48) (r : Nat) : Bool := (l.getD r z48).f0
def dat (l : List S48) (r : Nat) : ByteArray := (l.getD r z48).f1
def haveD (t : Nat → Bool) (d : Nat → ByteArray) (n : Nat) : List ByteArray := (thereL t n).map d
theorem haveD_length (t : Nat → Bool) (d : Nat → ByteArray) (n : Nat) : (haveD t d n).length = (thereL t n).length := by simp [haveD]
theorem rd_thr (l : List S48) (i : Nat) : (rd_T48 l (i : Int)).f0 = thr l i ∧ (rd_T48 l (i : Int)).f1 = dat l i := by
  unfold rd_T48 thr dat
  rw [Int.toNat_natCast]
  exact ⟨rfl, rfl⟩
theorem have_step {t : Nat → Bool} (d : Nat → ByteArray) {i : Nat} (ht : t i = true) : haveD t d (i + 1) = haveD t d i ++ [d i] ∧ placeL t (i + 1) = placeL t i ++ [(i : Int)] := by
  unfold haveD placeL
  rw [thereL_succ, if_pos ht, List.map_append, List.map_append]
  exact ⟨rfl, rfl⟩
theorem have_stay {t : Nat → Bool} (d : Nat → ByteArray) {i : Nat} (ht : ¬ t i = true) : haveD t d (i + 1) = haveD t d i ∧ placeL t (i + 1) = placeL t i := by
  unfold haveD placeL
  rw [thereL_succ, if_neg ht, List.append_nil]
  exact ⟨rfl, rfl⟩
theorem there_any_l0 (l : List S48) (hn : l.length ≤ 255) (K : Nat) : ∀ (e i : Nat), i + e = l.length → rs_there.l0 (K + e + 1) (haveD (thr l) (dat l) i) (placeL (thr l) i) l (l.length : Int) (i : Int) = some (haveD (thr l) (dat l) l.length, placeL (thr l) l.length)
  | 0, i, h => by
    have e : i = l.length := by omega
    have f0 : ¬ (i : Int) < (l.length : Int) := by omega
    unfold rs_there.l0
    rw [if_neg f0, e]
  | e + 1, i, h => by
    have f0 : (i : Int) < (l.length : Int) := by omega
    have f1 : (0 : Int) ≤ (i : Int) := by omega
    have hw : wrap64 ((i : Int) + 1) = ((i + 1 : Nat) : Int) := by unfold wrap64; omega
    have ih := there_any_l0 l hn K e (i + 1) (by omega)
    have hle := thereL_le (thr l) i
    rw [show K + (e + 1) + 1 = (K + e + 1) + 1 from by omega]
    generalize hF : K + e + 1 = F at ih ⊢
    unfold rs_there.l0
    rw [if_pos f0, if_pos f1, if_pos f0, (rd_thr l i).1, (rd_thr l i).2, hw]
    by_cases ht : thr l i = true
    · rw [(have_step (dat l) ht).1, (have_step (dat l) ht).2] at ih
      rw [if_pos ht, if_pos (by rw [haveD_length]; omega), if_pos (by rw [placeL_length]; omega)]
      exact ih
    · rw [(have_stay (dat l) ht).1, (have_stay (dat l) ht).2] at ih
      rw [if_neg ht]
      exact ih
theorem there_any (l : List S48) (hn : l.length ≤ 255) {K : Nat} (hK : 300 ≤ K) : rs_there.f K l = some (haveD (thr l) (dat l) l.length, placeL (thr l) l.length) := by
  have := there_any_l0 l hn (K - l.length - 1) l.length 0 (by omega)
  rw [show K - l.length - 1 + l.length + 1 = K from by omega] at this
  exact this
theorem ref4dec_l0 (x0 x1 : Int) (x2 l : List S48) (hn : l.length ≤ 255) (K : Nat) : ∀ (e i : Nat), i + e = l.length → caulkref04_Decode.l0 (K + e + 1) x0 x1 x2 (haveD (thr l) (dat l) i) (placeL (thr l) i) l (l.length : Int) (i : Int)
    = if (x2.length : Int) = (wrap64 (x0 + x1)) then ((caulkref04_fits.f K (haveD (thr l) (dat l) l.length)).bind fun t447 => (caulkref04_Decode.j1 K x0 x1 (haveD (thr l) (dat l) l.length) (placeL (thr l) l.length) (!t447))) else (caulkref04_Decode.j1 K x0 x1 (haveD (thr l) (dat l) l.length) (placeL (thr l) l.length) true)
  | 0, i, h => by
    have e : i = l.length := by omega
    have f0 : ¬ (i : Int) < (l.length : Int) := by omega
    rw [Nat.add_zero]
    conv => lhs; unfold caulkref04_Decode.l0
    rw [if_neg f0, e]
  | e + 1, i, h => by
    have f0 : (i : Int) < (l.length : Int) := by omega
    have f1 : (0 : Int) ≤ (i : Int) := by omega
    have hw : wrap64 ((i : Int) + 1) = ((i + 1 : Nat) : Int) := by unfold wrap64; omega
    have ih := ref4dec_l0 x0 x1 x2 l hn K e (i + 1) (by omega)
    have hle := thereL_le (thr l) i
    rw [show K + (e + 1) + 1 = (K + e + 1) + 1 from by omega]
    generalize hF : K + e + 1 = F at ih ⊢
    conv => lhs; unfold caulkref04_Decode.l0
    rw [if_pos f0, if_pos f1, if_pos f0, (rd_thr l i).1, (rd_thr l i).2, hw]
    by_cases ht : thr l i = true
    · rw [(have_step (dat l) ht).1, (have_step (dat l) ht).2] at ih
      rw [if_pos ht, if_pos (by rw [haveD_length]; omega), if_pos (by rw [placeL_length]; omega)]
      exact ih
    · rw [(have_stay (dat l) ht).1, (have_stay (dat l) ht).2] at ih
      rw [if_neg ht]
      exact ih
theorem ref4dec_j1 (k : Nat) (x0 x1 : Int) (x8 : List ByteArray) (x9 : List Int) (x56 : Bool) : caulkref04_Decode.j1 (k + 1) x0 x1 x8 x9 x56 = if x56 = true then (some (([] : List ByteArray), 2)) else (if (x8.length : Int) < x0 then (some (([] : List ByteArray), 10)) else ((caulkref03_Unit.f k x0).bind fun bt448 => (if x1 > 0 then ((caulkref03_Cauchy.f k x0 x1).bind fun bt452 => (if bt448.1.length + bt452.1.length < 5864062014805 then (caulkref04_Decode.j2 k x0 x1 x8 x9 (bt448.1 ++ bt452.1)) else (none))) else (caulkref04_Decode.j2 k x0 x1 x8 x9 bt448.1)))) := rfl
theorem ref4dec_j2 (k : Nat) (x0 x1 : Int) (x8 : List ByteArray) (x9 : List Int) (x12 : List (List Int)) : caulkref04_Decode.j2 (k + 1) x0 x1 x8 x9 x12 = if 0 ≤ x0 then (if x0 ≤ (x9.length : Int) then ((caulkref03_Rows.f k x12 (x9.take (x0 : Int).toNat)).bind fun bt464 => ((caulkref03_Invert.f bt464.1).bind fun bt468 => (if x0 ≤ (x8.length : Int) then ((caulkref04_times.f k bt468.1 (x8.take (x0 : Int).toNat)).bind fun t477 => ((caulkref04_Encode.f k x0 x1 t477).bind fun bt480 => (if t477.length + bt480.1.length < 8796093022208 then (some ((t477 ++ bt480.1), 0)) else (none)))) else (none)))) else (none)) else (none) := rfl
/-- The rows of the first k pieces that are there. -/
theorem rows_of {k m : Nat} (t : Nat → Bool) (hR : k ≤ (thereL t (k + m)).length) : ((placeL t (k + m)).take k).length = k ∧ (∀ x ∈ (placeL t (k + m)).take k, 0 ≤ x ∧ x < ((k + m : Nat) : Int)) ∧ ((placeL t (k + m)).take k).Nodup ∧ ∀ i, i < k → (((placeL t (k + m)).take k).getD i 0).toNat = (thereL t (k + m)).getD i 0 := by
  have hs := thereL_sorted t (k + m)
  refine ⟨by rw [List.length_take, placeL_length]; omega, fun x hx => ?_, ?_, fun i hi => ?_⟩
  · obtain ⟨r, hr, rfl⟩ := List.mem_map.1 (List.mem_of_mem_take hx)
    have := thereL_lt hr
    omega
  · refine List.Nodup.sublist (List.take_sublist _ _) ?_
    exact List.pairwise_map.2 (List.Pairwise.imp (fun hlt e => by omega) hs)
  · rw [List.getD_eq_getElem?_getD, List.getElem?_take, if_pos hi]
    unfold placeL
    rw [List.getElem?_map, List.getD_eq_getElem?_getD, List.getElem?_eq_getElem (show i < (thereL t (k + m)).length by omega)]
    rfl
theorem rsdata_any {k m p : Nat} (t : Nat → Bool) (W X : GfM.Mx) (k1 : 1 ≤ k) (hkm : k + m ≤ 255) (hp : p ≤ 65536) (hR : k ≤ (thereL t (k + m)).length) {K : Nat} (hK : 70000 ≤ K) (hX : GfM.invX k (fun i c => allX k (((placeL t (k + m)).take k).getD i 0).toNat c) = some X) :
    rs_data.f K (k : Int) (m : Int) (haveL t p W (k + m)) (placeL t (k + m)) = some (mxS k p (GfM.mm k X (fun i => W ((thereL t (k + m)).getD i 0)))) := by
  have hw : wrap64 ((k : Int) - 1) = ((k - 1 : Nat) : Int) := by unfold wrap64; omega
  have hle := thereL_le t (k + m)
  have hrd : rd (placeL t (k + m)) ((k - 1 : Nat) : Int) = (((thereL t (k + m)).getD (k - 1) 0 : Nat) : Int) := by
    unfold rd placeL
    rw [Int.toNat_natCast, List.getD_eq_getElem?_getD, List.getElem?_map, List.getD_eq_getElem?_getD, List.getElem?_eq_getElem (by omega)]
    rfl
  have hs := thereL_sorted t (k + m)
  have htk := have_take t p W (n := k + m) hR
  obtain ⟨hlen, hmem, hnd, hget⟩ := rows_of t hR
  unfold rs_data.f
  rw [hw, hrd, placeL_length, if_pos (by omega), if_pos (by omega), haveL_length, Int.toNat_natCast, htk]
  by_cases hc : (thereL t (k + m)).getD (k - 1) 0 = k - 1
  · rw [if_pos (by omega), if_pos (by omega), if_pos (by omega)]
    unfold slices_Clone_string_string.f
    rw [mxS_length, if_pos (by omega)]
    simp only [Option.bind_some]
    congr 1
    apply mxS_congr
    intro i hi j _
    have hid : ∀ i, i < k → (((placeL t (k + m)).take k).getD i 0).toNat = i := by
      intro i hi
      rw [hget i hi]
      have h1 := sorted_step hs (i := i) (j := k - 1) (by omega) (by omega)
      have h2 := sorted_step hs (i := 0) (j := i) (by omega) (by omega)
      omega
    have hA : ∀ i, i < k → ∀ c, c < k → allX k (((placeL t (k + m)).take k).getD i 0).toNat c = GfM.idm i c := by
      intro i hi c _
      rw [hid i hi]
      unfold allX
      rw [if_pos hi]
    have hl := GfM.inv_left hX
    have hXi : ∀ c, c < k → X i c = GfM.idm i c := by
      intro c hc'
      rw [← GfM.mm_id_right (n := k) (A := X) (i := i) hc', ← hl i hi c hc']
      exact GfM.mm_congr (fun _ _ => rfl) (fun q hq => (hA q hq c hc').symm)
    rw [GfM.mm_congr (A' := GfM.idm) (B' := fun i => W ((thereL t (k + m)).getD i 0)) (fun q hq => hXi q hq) (fun _ _ => rfl), GfM.mm_id_left hi]
  · rw [if_neg (by omega), rswhole k1 hkm]
    simp only [Option.bind_some]
    rw [if_pos (by omega), if_pos (by omega), rowsf (allX k) (by omega) hkm k1 (by omega) _ (by omega) (by omega) hmem]
    simp only [Option.bind_some, hlen]
    rw [invf_some k1 (by omega) hX]
    simp only [Option.bind_some]
    rw [if_pos (by omega), rstimes X _ (by omega) (by omega) k1 hp hK]
    rfl
theorem refinvert_small {k : Nat} (A : GfM.Mx) (k1 : 1 ≤ k) (k16 : k ≤ 16) : caulkref03_Invert.f (mxL k k A) = matrix_Invert.f (mxL k k A) := by
  have hb : BytesM (mxL k k A) := mxL_bytes _ _ _
  unfold caulkref03_Invert.f matrix_Invert.f
  rw [if_pos hb, if_pos ⟨hb, fun _ => by rw [mxL_length]; exact k16⟩]
theorem decode_eq {a0 a1 : Int} {l : List S48} (hl : l.length ≤ 255) (s0 : a0 ≤ 16 ∨ a0 > 255) (s1 : a1 ≤ 16 ∨ a1 > 255) (w0 : -9223372036854775808 ≤ a0) (w1 : a0 ≤ 9223372036854775807) (w2 : -9223372036854775808 ≤ a1) (w3 : a1 ≤ 9223372036854775807) {F : Nat} (hF : 7000000000 ≤ F) :
    ∃ r e, rs_Decode.f F a0 a1 l = some (r, e) ∧ caulkref04_Decode.f F a0 a1 l = some (r, e) ∧ r.length ≤ 1000 := by
  unfold rs_Decode.f caulkref04_Decode.f
  rw [ref4check a0 a1 w0 w1 w2 w3, rscheck]
  by_cases hc : 1 ≤ a0 ∧ a0 ≤ 255 ∧ 0 ≤ a1 ∧ a1 ≤ 255 - a0
  · rw [if_pos hc]
    simp only [Option.bind_some, if_true]
    have hd := ref4dec_l0 a0 a1 l l hl (F - l.length - 1) l.length 0 (by omega)
    rw [show F - l.length - 1 + l.length + 1 = F from by omega] at hd
    rw [there_any l hl (by omega), show caulkref04_Decode.l0 F a0 a1 l ([] : List ByteArray) ([] : List Int) l (l.length : Int) 0 = _ from hd]
    simp only [Option.bind_some]
    clear hd
    obtain ⟨t, ht⟩ : ∃ t, t = thr l := ⟨_, rfl⟩
    obtain ⟨d, hdd⟩ : ∃ d, d = dat l := ⟨_, rfl⟩
    rw [← ht, ← hdd]
    clear ht hdd
    obtain ⟨G, hG⟩ : ∃ G, F - l.length - 1 = G + 2 := ⟨F - l.length - 3, by omega⟩
    obtain ⟨G', hG'⟩ : ∃ G', F = G' + 1 := ⟨F - 1, by omega⟩
    have hG6 : 6000000100 ≤ G := by omega
    have hG7 : 6000000100 ≤ G' := by omega
    clear hF
    rw [hG]
    clear hG
    have hlen := thereL_le t l.length
    by_cases hn : (l.length : Int) = wrap64 (a0 + a1)
    · rw [if_pos hn, if_pos hn, hG', rsfits (by rw [haveD_length]; omega) (by rw [haveD_length]; omega), ref4fits (by rw [haveD_length]; omega) (by rw [haveD_length]; omega)]
      simp only [Option.bind_some]
      rw [rsdec_j0, ref4dec_j1]
      by_cases hf : Fits (haveD t d l.length)
      · rw [decide_eq_true hf]
        simp only [Bool.not_true, Bool.false_eq_true, if_false]
        by_cases hlt : ((haveD t d l.length).length : Int) < a0
        · rw [if_pos hlt, if_pos hlt]
          exact ⟨_, _, rfl, rfl, by simp⟩
        · rw [if_neg hlt, if_neg hlt]
          obtain ⟨k, hk⟩ := Int.eq_ofNat_of_zero_le (show 0 ≤ a0 by omega)
          obtain ⟨m, hm⟩ := Int.eq_ofNat_of_zero_le hc.2.2.1
          have hwk : wrap64 (a0 + a1) = a0 + a1 := by unfold wrap64; omega
          have hln : l.length = k + m := by omega
          have k1 : 1 ≤ k := by omega
          have k16 : k ≤ 16 := by omega
          have hkm : k + m ≤ 255 := by omega
          rw [haveD_length] at hlt
          rw [hln] at hf hlt hlen ⊢
          have hR : k ≤ (thereL t (k + m)).length := by omega
          -- the pieces that are there, as rows of bytes
          have hne : 0 < (haveD t d (k + m)).length := by rw [haveD_length]; omega
          obtain ⟨p, hpd⟩ : ∃ p, p = ((haveD t d (k + m)).getD 0 ByteArray.empty).size := ⟨_, rfl⟩
          have hp : p ≤ 65536 := by
            rw [hpd]
            refine (hf _ ?_).2
            rw [List.getD_eq_getElem?_getD, List.getElem?_eq_getElem hne]
            exact List.getElem_mem hne
          have hH : haveD t d (k + m) = haveL t p (fun r j => el ((bytesOf (d r)).getD j 0)) (k + m) := by
            unfold haveL
            have hsz : ∀ r ∈ thereL t (k + m), (d r).size = p := fun r hr => by rw [hpd]; exact (hf _ (List.mem_map.2 ⟨r, hr, rfl⟩)).1
            unfold haveD
            apply List.map_congr_left
            intro r hr
            rw [← hsz r hr]
            exact (strX_back _ _ (fun j _ => rfl)).symm
          obtain ⟨W, hW⟩ : ∃ W : GfM.Mx, W = fun r j => el ((bytesOf (d r)).getD j 0) := ⟨_, rfl⟩
          rw [← hW] at hH
          obtain ⟨hrl, hmem, hnd, hget⟩ := rows_of t hR
          obtain ⟨X, hX⟩ := any_inv k1 hkm hrl hnd hmem
          rw [hH, hk, hm, rsdata_any t W X k1 hkm hp hR (by omega) hX]
          simp only [Option.bind_some]
          rw [rsparity _ k1 hkm hp (by omega)]
          simp only [Option.bind_some, mxS_length]
          rw [if_pos (by omega), refunit _ (by omega), unitf k k1 (by omega)]
          simp only [Option.bind_some]
          have hj2 : caulkref04_Decode.j2 (G + 1) (k : Int) (m : Int) (haveL t p W (k + m)) (placeL t (k + m)) (mxL (k + m) k (allX k)) = some (mxS k p (GfM.mm k X (fun i => W ((thereL t (k + m)).getD i 0))) ++ mxS m p (GfM.mm k (cauX k) (GfM.mm k X (fun i => W ((thereL t (k + m)).getD i 0)))), 0) := by
            rw [ref4dec_j2, if_pos (by omega), placeL_length, if_pos (by omega), Int.toNat_natCast, refrows (mxL_bytes _ _ _) _ (by omega), rowsf (allX k) (by omega) hkm k1 (by omega) _ (by omega) (by omega) hmem]
            simp only [Option.bind_some, hrl]
            rw [refinvert_small _ k1 k16, invf_some k1 (by omega) hX]
            simp only [Option.bind_some]
            rw [haveL_length, if_pos (by omega), have_take t p W hR, ref4times X _ (by omega) (by omega) k1 hp (by omega)]
            simp only [Option.bind_some]
            rw [ref4encode (by rw [mxS_length]; omega) (by omega) (by omega) (by omega) (by omega) (by omega) (by omega) (by omega) (by rw [mxS_length]; omega) 100000 (by omega) (by rw [mxS_length]; omega), rsencode_ok _ k1 hkm hp (by omega)]
            simp only [Option.bind_some, mxS_length]
            rw [if_pos (by omega)]
          refine ⟨_, _, rfl, ?_, by rw [List.length_append, mxS_length, mxS_length]; omega⟩
          by_cases hm0 : m = 0
          · subst hm0
            rw [if_neg (by omega)]
            have e : mxL k k GfM.idm = mxL (k + 0) k (allX k) := mxL_congr fun i hi j _ => by unfold allX; rw [if_pos (by omega)]
            rw [e]
            exact hj2
          · rw [if_pos (by omega), refcau _ _ (by omega) (by omega) (by omega), cauf k m k1 (by omega) hkm]
            simp only [Option.bind_some]
            rw [if_pos (by rw [mxL_length, mxL_length]; omega), all_mxL]
            exact hj2
      · rw [decide_eq_false hf]
        simp only [Bool.not_false, if_true]
        exact ⟨_, _, rfl, rfl, by simp⟩
    · rw [if_neg hn, if_neg hn, hG', rsdec_j0, ref4dec_j1, if_pos rfl, if_pos rfl]
      exact ⟨_, _, rfl, rfl, by simp⟩
  · rw [if_neg hc]
    exact ⟨_, _, rfl, rfl, by simp⟩
theorem law_l0 (x0 x1 : Int) (x2 l : List S48) (hl : l.length ≤ 8796093022207) (K : Nat) : ∀ (e i : Nat), i + e = l.length → caulklaw04_RsDecodes.l0 (K + e + 1) x0 x1 x2 ((l.take i).map fun x => x.f1) l (l.length : Int) (i : Int) = caulklaw04_RsDecodes.l0 (K + 1) x0 x1 x2 (l.map fun x => x.f1) l (l.length : Int) (l.length : Int)
  | 0, i, h => by
    have e : i = l.length := by omega
    rw [e, List.take_length]
  | e + 1, i, h => by
    have hi : i < l.length := by omega
    have f0 : (i : Int) < (l.length : Int) := by omega
    have f1 : (0 : Int) ≤ (i : Int) := by omega
    have hw : wrap64 ((i : Int) + 1) = ((i + 1 : Nat) : Int) := by unfold wrap64; omega
    have ih := law_l0 x0 x1 x2 l hl K e (i + 1) (by omega)
    rw [show K + (e + 1) + 1 = (K + e + 1) + 1 from by omega]
    generalize hF : K + e + 1 = F at ih ⊢
    have er : (rd_T48 l (i : Int)).f1 = l[i].f1 := by
      rw [(rd_thr l i).2]
      unfold dat
      rw [List.getD_eq_getElem?_getD, List.getElem?_eq_getElem hi]
      rfl
    have et : (l.take (i + 1)).map (fun x => x.f1) = (l.take i).map (fun x => x.f1) ++ [l[i].f1] := by
      rw [List.take_succ_eq_append_getElem hi, List.map_append]
      rfl
    rw [et] at ih
    conv => lhs; unfold caulklaw04_RsDecodes.l0
    rw [if_pos f0, if_pos f1, if_pos f0, if_pos (by rw [List.length_map, List.length_take]; omega), er, hw]
    exact ih
theorem law_end (k : Nat) (x0 x1 : Int) (x2 : List S48) (x7 : List ByteArray) (n : Int) : caulklaw04_RsDecodes.l0 (k + 1) x0 x1 x2 x7 x2 n n = ((caulklaw04_small.f k x0 x1 x7).bind fun t492 => (if t492 = true then ((rs_Decode.f k x0 x1 x2).bind fun bt494 => ((caulkref04_Decode.f k x0 x1 x2).bind fun bt498 => ((caulklaw04_lives.f k).bind fun t502 => (if t502 = true then ((caulkref04_Same.f k bt494.1 bt498.1).bind fun t503 => (if t503 = true then (some (bt494.2 == bt498.2)) else (none))) else (none))))) else ((caulklaw04_lives.f k).bind fun t493 => (some t493)))) := by
  conv => lhs; unfold caulklaw04_RsDecodes.l0
  rw [if_neg (by omega)]
theorem RsDecodes : caulklaw04_RsDecodes.Pure := by
  intro a0 a1 l2 w0 w1 w2
  have h2 : l2.length ≤ 5864062014805 := by have := w2.1; omega
  have wa := bounds_i64 w0
  have wb := bounds_i64 w1
  obtain ⟨F, hF⟩ : ∃ F : Nat, F = 7000000000 + l2.length := ⟨_, rfl⟩
  refine ⟨F + l2.length + 1, ?_⟩
  unfold caulklaw04_RsDecodes.f
  have e0 := law_l0 a0 a1 l2 l2 (by omega) F l2.length 0 (by omega)
  rw [show caulklaw04_RsDecodes.l0 (F + l2.length + 1) a0 a1 l2 ([] : List ByteArray) l2 (l2.length : Int) 0 = _ from e0, law_end]
  have hsl : (l2.map fun x => x.f1).length = l2.length := List.length_map _
  obtain ⟨b2, e2, g2⟩ := small04 a0 a1 (l := l2.map fun x => x.f1) (k := F) (by omega) (by omega)
  rw [lives04 F (by omega), e2]
  simp only [Option.bind_some, if_true]
  cases b2 with
  | false => rfl
  | true =>
    have s2 := g2 rfl
    rw [hsl] at s2
    have s3 : (a0 ≤ 16 ∨ a0 > 255) ∧ (a1 ≤ 16 ∨ a1 > 255) := by
      have := small04_fin a0 a1 (l2.map fun x => x.f1) (by omega) (F - l2.length - 1) l2.length 0 0 (by omega) (by omega) (by omega) (by omega) true
      rw [show F - l2.length - 1 + l2.length + 1 = F from by omega] at this
      exact this e2 rfl
    obtain ⟨r, e, h1, h3, hr⟩ := decode_eq (a0 := a0) (a1 := a1) (l := l2) (by omega) s3.1 s3.2 (by omega) (by omega) (by omega) (by omega) (F := F) (by omega)
    rw [h1, h3]
    simp only [Option.bind_some, if_true]
    rw [same4 hr (by omega)]
    simp only [Option.bind_some, if_true, beq_self_eq_true]
end Go.Proofs.Ytlobaomleocpjaa.Pure
