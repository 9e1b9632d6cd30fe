/- SpaceLowest: the pure statement: numbers and lists alone. Conditions: those of the statement itself. -/
import Derived.Test.YtgiljibkjccgfaaGx4
import Derived.OpenShut
namespace Go.Proofs.Ytgiljibkjccgfaa.Pure
open Go.RowKit Go.Proofs.Ytgiljibkjccgfaa.G Go.Proofs.YtgiljibkjccgfaaW.PrintWords Go.Proofs.YtgiljibkjccgfaaW.PrintLast Go.Proofs.YtgiljibkjccgfaaW.PrintMore Go.OpenShut
set_option linter.unusedVariables false
set_option linter.unusedSimpArgs false
/-! ### Lists of bools, turned at places -/
def setN (b : Bool) (l : List Bool) (ns : List Nat) : List Bool := ns.foldl (fun o x => o.set x b) l
theorem setN_length (b : Bool) (ns : List Nat) : ∀ (l : List Bool), (setN b l ns).length = l.length := by
  induction ns with
  | nil => intro l; rfl
  | cons x ns ih => intro l; show (setN b (l.set x b) ns).length = _; rw [ih]; simp
theorem setN_get (b : Bool) (ns : List Nat) : ∀ (l : List Bool) (i : Nat), i < l.length → (setN b l ns).getD i false = if i ∈ ns then b else l.getD i false := by
  induction ns with
  | nil => intro l i h; simp [setN]
  | cons x ns ih =>
    intro l i h
    show (setN b (l.set x b) ns).getD i false = _
    rw [ih (l.set x b) i (by simpa using h)]
    by_cases h1 : i ∈ ns
    · simp [h1]
    · rw [if_neg h1]
      by_cases h2 : i = x
      · subst h2; simp [List.getD_eq_getElem?_getD, h]
      · have h3 : ¬ i ∈ x :: ns := by simp [h1, h2]
        rw [if_neg h3]
        simp [List.getD_eq_getElem?_getD, List.getElem?_set_ne (Ne.symm h2)]
theorem bl_ext {a b : List Bool} (hl : a.length = b.length) (h : ∀ i, i < a.length → a.getD i false = b.getD i false) : a = b := by
  apply List.ext_getElem hl
  intro i h1 h2
  have := h i h1
  simpa [List.getD_eq_getElem?_getD, h1, h2] using this
theorem sp_w1 (i : Nat) (h : i < 9223372036854775807) : wrap64 ((i : Int) + 1) = ((i + 1 : Nat) : Int) := by unfold wrap64; omega
theorem sp_rdOf (l : List Bool) (i : Nat) : rdOf false l (i : Int) = l.getD i false := by unfold rdOf; simp
theorem sp_rd (l : List Int) (i : Nat) : rd l (i : Int) = l.getD i 0 := by unfold rd; simp

/-! ### The places at which it is so -/
def fN (l : List Bool) (is : Bool) (k : Nat) : List Nat := (List.range k).filter fun i => l.getD i false == is
theorem fN_succ (l : List Bool) (is : Bool) (k : Nat) : fN l is (k + 1) = fN l is k ++ (if l.getD k false = is then [k] else []) := by
  unfold fN
  rw [List.range_succ, List.filter_append]
  congr 1
  by_cases h : l.getD k false = is <;> simp [List.filter_cons, h]
theorem those_fN (l : List Bool) (is : Bool) : ∀ k, k ≤ l.length → (thoseF l is k).map (fun x => x.val) = fN l is k := by
  intro k
  induction k with
  | zero => intro _; rfl
  | succ k ih =>
    intro hk
    by_cases h : l.getD k false = is
    · rw [thoseF_yes (by omega) h, fN_succ, if_pos h, List.map_append, ih (by omega)]; rfl
    · rw [thoseF_no (by omega) h, fN_succ, if_neg h, ih (by omega)]; simp
theorem fN_mem {l : List Bool} {is : Bool} {k i : Nat} : i ∈ fN l is k ↔ i < k ∧ l.getD i false = is := by
  unfold fN; simp
theorem fN_sorted (l : List Bool) (is : Bool) (k : Nat) : (fN l is k).Pairwise (· < ·) := List.Pairwise.filter _ List.pairwise_lt_range
theorem fN_le (l : List Bool) (is : Bool) (k : Nat) : (fN l is k).length ≤ k := by unfold fN; exact Nat.le_trans (List.length_filter_le _ _) (by simp)
theorem fN_sum (l : List Bool) (k : Nat) : (fN l true k).length + (fN l false k).length = k := by
  induction k with
  | zero => rfl
  | succ k ih =>
    rw [fN_succ, fN_succ]
    cases h : l.getD k false <;> simp <;> omega
theorem freeI_fN (l : List Bool) : freeI l = ((fN l false l.length).length : Int) := by
  unfold freeI; rw [← those_fN l false l.length (Nat.le_refl _), List.length_map]
theorem idxI_fN (l : List Bool) (is : Bool) (k : Nat) (h : k ≤ l.length) : idxI l is k = (fN l is k).map (fun x : Nat => (x : Int)) := by
  unfold idxI; rw [← those_fN l is k h, List.map_map]; rfl
def tN (l : List Bool) (n : Int) : List Nat := (fN l false l.length).take n.toNat
theorem takeF_fN (l : List Bool) (n : Int) : (takeF l n).map (fun x => x.val) = tN l n := by
  unfold takeF tN; rw [List.map_take, those_fN l false l.length (Nat.le_refl _)]
theorem setAll_fN (l : List Bool) (n : Int) : setAll l (takeF l n) = setN true l (tN l n) := by
  rw [← takeF_fN]; unfold setAll setN; rw [List.foldl_map]
theorem space_Take_eq (l : List Bool) (n : Int) (hl : l.length ≤ 5000) : space_Take.f l n = some (if n < 0 then (l, [], 1) else if freeI l < n then (l, [], 11) else (setN true l (tN l n), (tN l n).map (fun x : Nat => (x : Int)), 0)) := by
  unfold space_Take.f
  rw [if_pos (by omega), setAll_fN, show (takeF l n).map (fun x => (x.val : Int)) = (tN l n).map (fun x : Nat => (x : Int)) from by rw [← takeF_fN, List.map_map]; rfl]
theorem space_Free_eq (l : List Bool) (hl : l.length ≤ 5000) : space_Free.f l = some ((fN l false l.length).length : Int) := by
  unfold space_Free.f; rw [if_pos (by omega), freeI_fN]
theorem space_Used_eq (l : List Bool) (hl : l.length ≤ 5000) : space_Used.f l = some ((fN l true l.length).map (fun x : Nat => (x : Int))) := by
  unfold space_Used.f; rw [if_pos (by omega), idxI_fN _ _ _ (Nat.le_refl _)]
theorem clone_eq (l : List Bool) (hl : l.length ≤ 5000) : slices_Clone_bool_bool.f l = some l := by
  unfold slices_Clone_bool_bool.f; rw [if_pos (by omega)]

/-! ### One row is like itself -/
theorem same12_l (a : List Bool) (hl : a.length < 9223372036854775807) : ∀ (m i k : Nat), i + m = a.length → m < k → caulkref12_Same.l0 k a a (a.length : Int) (i : Int) = some true := by
  intro m
  induction m with
  | zero =>
    intro i k hi hk
    obtain ⟨k, rfl⟩ : ∃ j, k = j + 1 := ⟨k - 1, by omega⟩
    simp only [caulkref12_Same.l0]
    rw [if_neg (by omega)]
  | succ m ih =>
    intro i k hi hk
    obtain ⟨k, rfl⟩ : ∃ j, k = j + 1 := ⟨k - 1, by omega⟩
    simp only [caulkref12_Same.l0]
    rw [if_pos (by omega), if_pos (by omega), if_pos (by omega), if_pos (by omega), if_neg (by simp), sp_w1 _ (by omega)]
    exact ih (i + 1) k (by omega) (by omega)
theorem same12 (a : List Bool) (hl : a.length ≤ 5000) (k : Nat) (hk : 5000 < k) : caulkref12_Same.f k a a = some true := by
  unfold caulkref12_Same.f
  rw [if_pos rfl]
  exact same12_l a (by omega) a.length 0 k (by omega) (by omega)
theorem same05_l (a : List Int) (hl : a.length < 9223372036854775807) : ∀ (m i k : Nat), i + m = a.length → m < k → caulkref05_Same.l0 k a a (a.length : Int) (i : Int) = some true := by
  intro m
  induction m with
  | zero =>
    intro i k hi hk
    obtain ⟨k, rfl⟩ : ∃ j, k = j + 1 := ⟨k - 1, by omega⟩
    simp only [caulkref05_Same.l0]
    rw [if_neg (by omega)]
  | succ m ih =>
    intro i k hi hk
    obtain ⟨k, rfl⟩ : ∃ j, k = j + 1 := ⟨k - 1, by omega⟩
    simp only [caulkref05_Same.l0]
    rw [if_pos (by omega), if_pos (by omega), if_pos (by omega), if_pos (by omega), if_pos trivial, sp_w1 _ (by omega)]
    exact ih (i + 1) k (by omega) (by omega)
theorem same05 (a : List Int) (hl : a.length ≤ 5000) (k : Nat) (hk : 5000 < k) : caulkref05_Same.f k a a = some true := by
  unfold caulkref05_Same.f
  rw [if_pos rfl]
  exact same05_l a (by omega) a.length 0 k (by omega) (by omega)

/-! ### Mark and Give -/
def turnGo (use : List Bool) (is : Bool) (bad : Int) : List Bool → List Int → List Bool × Int
  | out, [] => (out, 0)
  | out, x :: at' => if x < 0 ∨ x ≥ (use.length : Int) then (use, 1) else if out.getD x.toNat false ≠ is then (use, bad) else turnGo use is bad (out.set x.toNat (!is)) at'
theorem sp_drop {at' : List Int} {i : Nat} (h : i < at'.length) : at'.drop i = at'.getD i 0 :: at'.drop (i + 1) := by
  rw [List.drop_eq_getElem_cons h, List.getD_eq_getElem?_getD, List.getElem?_eq_getElem h]; rfl
theorem turn_l (use : List Bool) (is : Bool) (bad : Int) (at' : List Int) (hu : use.length ≤ 5000) (ha : at'.length ≤ 5000) : ∀ (m i k : Nat) (out : List Bool), i + m = at'.length → 2 * m < k → out.length = use.length →
    space_turn.l0 k use is bad out at' (at'.length : Int) (i : Int) = some (turnGo use is bad out (at'.drop i)) := by
  intro m
  induction m with
  | zero =>
    intro i k out hi hk ho
    obtain ⟨k, rfl⟩ : ∃ j, k = j + 1 := ⟨k - 1, by omega⟩
    simp only [space_turn.l0]
    rw [if_neg (by omega), List.drop_eq_nil_of_le (by omega)]
    rfl
  | succ m ih =>
    intro i k out hi hk ho
    obtain ⟨k, rfl⟩ : ∃ j, k = j + 2 := ⟨k - 2, by omega⟩
    simp only [space_turn.l0]
    rw [if_pos (by omega), if_pos (by omega), if_pos (by omega), sp_drop (i := i) (by omega), sp_rd]
    generalize hx : at'.getD i 0 = x
    unfold turnGo
    by_cases h1 : x < 0
    · rw [if_pos h1, if_pos (.inl h1)]
      simp only [space_turn.j1, if_true, clone_eq use hu, Option.bind_some]
    · rw [if_neg h1]
      by_cases h2 : x ≥ (use.length : Int)
      · rw [if_pos (.inr h2)]
        have : x ≥ (out.length : Int) := by rw [ho]; exact h2
        simp only [space_turn.j1, this, decide_true, if_true, clone_eq use hu, Option.bind_some]
      · rw [if_neg (by omega)]
        have h3 : ¬ x ≥ (out.length : Int) := by rw [ho]; exact h2
        simp only [space_turn.j1, h3, decide_false, Bool.false_eq_true, if_false]
        rw [if_pos (by omega), if_pos (by omega)]
        have e : rdOf false out x = out.getD x.toNat false := rfl
        rw [e]
        by_cases h4 : out.getD x.toNat false = is
        · rw [if_neg (by rw [h4]; simp), if_neg (fun hh => hh h4), sp_w1 _ (by omega)]
          exact ih (i + 1) k _ (by omega) (by omega) (by simpa using ho)
        · rw [if_pos (bne_iff_ne.2 h4), if_pos h4, clone_eq use hu]; rfl
theorem turn_eq (use : List Bool) (is : Bool) (bad : Int) (at' : List Int) (hu : use.length ≤ 5000) (ha : at'.length ≤ 5000) (k : Nat) (hk : 10000 < k) : space_turn.f k use is bad at' = some (turnGo use is bad use at') := by
  unfold space_turn.f
  rw [clone_eq use hu, Option.bind_some]
  exact turn_l use is bad at' hu ha at'.length 0 k use (by omega) (by omega) rfl
theorem refturn_l (use : List Bool) (is : Bool) (bad : Int) (at' : List Int) (hu : use.length ≤ 5000) (ha : at'.length ≤ 5000) : ∀ (m i k : Nat) (out : List Bool), i + m = at'.length → 2 * m < k → out.length = use.length →
    caulkref12_turn.l0 k use is bad out at' (at'.length : Int) (i : Int) = some (turnGo use is bad out (at'.drop i)) := by
  intro m
  induction m with
  | zero =>
    intro i k out hi hk ho
    obtain ⟨k, rfl⟩ : ∃ j, k = j + 1 := ⟨k - 1, by omega⟩
    simp only [caulkref12_turn.l0]
    rw [if_neg (by omega), List.drop_eq_nil_of_le (by omega)]
    rfl
  | succ m ih =>
    intro i k out hi hk ho
    obtain ⟨k, rfl⟩ : ∃ j, k = j + 2 := ⟨k - 2, by omega⟩
    simp only [caulkref12_turn.l0]
    rw [if_pos (by omega), if_pos (by omega), if_pos (by omega), sp_drop (i := i) (by omega), sp_rd]
    generalize hx : at'.getD i 0 = x
    have hc : ([] : List Bool).length + use.length < 140737488355328 := by simp; omega
    unfold turnGo
    by_cases h1 : x < 0
    · rw [if_pos h1, if_pos (.inl h1)]
      simp only [caulkref12_turn.j1, if_true, Option.bind_some, if_pos hc, List.nil_append]
    · rw [if_neg h1]
      by_cases h2 : x ≥ (use.length : Int)
      · rw [if_pos (.inr h2)]
        simp only [caulkref12_turn.j1, h2, decide_true, if_true, Option.bind_some, if_pos hc, List.nil_append]
      · rw [if_neg (by omega)]
        simp only [caulkref12_turn.j1, h2, decide_false, Bool.false_eq_true, if_false]
        rw [if_pos (by omega), if_pos (by omega)]
        have e : rdOf false out x = out.getD x.toNat false := rfl
        rw [e]
        by_cases h4 : out.getD x.toNat false = is
        · rw [if_neg (by rw [h4]; simp), if_neg (fun hh => hh h4), sp_w1 _ (by omega)]
          exact ih (i + 1) k _ (by omega) (by omega) (by simpa using ho)
        · rw [if_pos (bne_iff_ne.2 h4), if_pos h4]
          simp only [Option.bind_some, if_pos hc, List.nil_append]
theorem refturn_eq (use : List Bool) (is : Bool) (bad : Int) (at' : List Int) (hu : use.length ≤ 5000) (ha : at'.length ≤ 5000) (k : Nat) (hk : 10000 < k) : caulkref12_turn.f k use is bad at' = some (turnGo use is bad use at') := by
  unfold caulkref12_turn.f
  simp only [Option.bind_some, List.nil_append]
  rw [if_pos (by simp; omega)]
  exact refturn_l use is bad at' hu ha at'.length 0 k use (by omega) (by omega) rfl
theorem Mark_eq (use : List Bool) (at' : List Int) (hu : use.length ≤ 5000) (ha : at'.length ≤ 5000) (k : Nat) (hk : 10000 < k) : space_Mark.f k use at' = some (turnGo use false 4 use at') := by
  unfold space_Mark.f; rw [turn_eq _ _ _ _ hu ha k hk]; rfl
theorem Give_eq (use : List Bool) (at' : List Int) (hu : use.length ≤ 5000) (ha : at'.length ≤ 5000) (k : Nat) (hk : 10000 < k) : space_Give.f k use at' = some (turnGo use true 3 use at') := by
  unfold space_Give.f; rw [turn_eq _ _ _ _ hu ha k hk]; rfl
theorem refMark_eq (use : List Bool) (at' : List Int) (hu : use.length ≤ 5000) (ha : at'.length ≤ 5000) (k : Nat) (hk : 10000 < k) : caulkref12_Mark.f k use at' = some (turnGo use false 4 use at') := by
  unfold caulkref12_Mark.f; rw [refturn_eq _ _ _ _ hu ha k hk]; rfl
theorem refGive_eq (use : List Bool) (at' : List Int) (hu : use.length ≤ 5000) (ha : at'.length ≤ 5000) (k : Nat) (hk : 10000 < k) : caulkref12_Give.f k use at' = some (turnGo use true 3 use at') := by
  unfold caulkref12_Give.f; rw [refturn_eq _ _ _ _ hu ha k hk]; rfl
theorem turnGo_length (use : List Bool) (is : Bool) (bad : Int) : ∀ (at' : List Int) (out : List Bool), out.length = use.length → (turnGo use is bad out at').1.length = use.length := by
  intro at'
  induction at' with
  | nil => intro out h; exact h
  | cons x at' ih =>
    intro out h
    unfold turnGo
    split
    · rfl
    · split
      · rfl
      · exact ih _ (by simpa using h)

/-! ### New -/
def newP (a : Int) : List Bool × Int := if a < 4 ∨ a > 4096 then ([], 1) else (((List.replicate a.toNat false).set 0 true).set 1 true, 0)
theorem New_eq (a : Int) (k : Nat) (hk : 10 < k) : space_New.f k a = some (newP a) := by
  obtain ⟨k, rfl⟩ : ∃ j, k = j + 5 := ⟨k - 5, by omega⟩
  unfold space_New.f newP
  by_cases h1 : a < 4
  · rw [if_pos h1, if_pos (.inl h1)]; rfl
  · rw [if_neg h1]
    by_cases h2 : a > 4096
    · rw [if_pos (.inr h2)]
      simp only [space_New.j0, h2, decide_true, if_true]
    · rw [if_neg (by omega)]
      simp only [space_New.j0, h2, decide_false, Bool.false_eq_true, if_false]
      rw [if_pos (by omega), if_pos (by omega)]
      simp only [space_New.l0]
      rw [if_pos (by decide), if_pos (by decide), if_pos (by simp; omega)]
      rw [show wrap64 (0 + 1) = 1 from by unfold wrap64; omega]
      rw [if_pos (by decide), if_pos (by decide), if_pos (by simp; omega)]
      rw [show wrap64 (1 + 1) = 2 from by unfold wrap64; omega]
      rw [if_neg (by decide)]
      rfl
theorem newP_length (a : Int) : (newP a).1.length ≤ 4096 := by
  unfold newP; split <;> simp; omega

/-! ### Used, Free, Take -/
theorem refUsed_l (l : List Bool) (hl : l.length ≤ 5000) : ∀ (m i k : Nat), i + m = l.length → m < k → caulkref12_Used.l0 k ((fN l true i).map (fun x : Nat => (x : Int))) l (l.length : Int) (i : Int) = some ((fN l true l.length).map (fun x : Nat => (x : Int))) := by
  intro m
  induction m with
  | zero =>
    intro i k hi hk
    obtain ⟨k, rfl⟩ : ∃ j, k = j + 1 := ⟨k - 1, by omega⟩
    simp only [caulkref12_Used.l0]
    rw [if_neg (by omega), show i = l.length from by omega]
  | succ m ih =>
    intro i k hi hk
    obtain ⟨k, rfl⟩ : ∃ j, k = j + 1 := ⟨k - 1, by omega⟩
    simp only [caulkref12_Used.l0]
    have hle := fN_le l true i
    have := ih (i + 1) k (by omega) (by omega)
    rw [fN_succ] at this
    rw [if_pos (by omega), if_pos (by omega), if_pos (by omega), sp_rdOf, sp_w1 _ (by omega)]
    by_cases h : l.getD i false = true
    · rw [if_pos h, if_pos (by simp; omega)]
      rw [if_pos h] at this
      simpa using this
    · rw [if_neg h]
      rw [if_neg h] at this
      simpa using this
theorem refUsed_eq (l : List Bool) (hl : l.length ≤ 5000) (k : Nat) (hk : 5000 < k) : caulkref12_Used.f k l = some ((fN l true l.length).map (fun x : Nat => (x : Int))) := by
  unfold caulkref12_Used.f
  exact refUsed_l l hl l.length 0 k (by omega) (by omega)
theorem refFree_eq (l : List Bool) (hl : l.length ≤ 5000) (k : Nat) (hk : 5000 < k) : caulkref12_Free.f k l = some ((fN l false l.length).length : Int) := by
  unfold caulkref12_Free.f
  rw [refUsed_eq l hl k hk, Option.bind_some]
  have := fN_sum l l.length
  congr 1
  rw [List.length_map]
  unfold wrap64; omega
/-! ### The document's own words -/
theorem lives_eq (k : Nat) (hk : 20000 ≤ k) : caulklaw12_lives.f k = some true := by
  have t1 : space_Take.f (newP 6).1 2 = some ([true, true, true, true, false, false], [2, 3], 0) := by decide
  have t2 : space_Take.f [true, true, true, true, false, false] 3 = some ([true, true, true, true, false, false], [], 11) := by decide
  have n1 : (newP 6).2 = 0 := by decide
  have n2 : (newP 3).2 = 1 := by decide
  have m1 : turnGo [true, true, true, true, false, false] false 4 [true, true, true, true, false, false] [4, 4] = ([true, true, true, true, false, false], 4) := by decide
  have m2 : turnGo [true, true, true, true, false, false] true 3 [true, true, true, true, false, false] [2] = ([true, true, false, true, false, false], 0) := by decide
  have m3 : turnGo [true, true, true, true, false, false] true 3 [true, true, true, true, false, false] [5] = ([true, true, true, true, false, false], 3) := by decide
  have m4 : turnGo [true, true, false, true, false, false] false 4 [true, true, false, true, false, false] [2] = ([true, true, true, true, false, false], 0) := by decide
  have f1 : space_Free.f [true, true, false, true, false, false] = some 3 := by decide
  have u1 : space_Used.f [true, true, true, true, false, false] = some [0, 1, 2, 3] := by decide
  unfold caulklaw12_lives.f
  simp only [New_eq _ k (by omega), Option.bind_some, t1, n1, n2]
  rw [Mark_eq _ _ (by simp) (by simp) k (by omega), m1]
  simp only [Option.bind_some]
  rw [Give_eq _ _ (by simp) (by simp) k (by omega), m2]
  simp only [Option.bind_some, t2]
  rw [Give_eq _ _ (by simp) (by simp) k (by omega), m3]
  simp only [Option.bind_some]
  rw [Mark_eq _ _ (by simp) (by simp) k (by omega), m4]
  simp only [Option.bind_some, if_true, same05 [2, 3] (by simp) k (by omega), f1, same12 [true, true, true, true, false, false] (by simp) k (by omega), u1, same05 [0, 1, 2, 3] (by simp) k (by omega)]
theorem tN_len {l : List Bool} {n : Int} (hn : 0 ≤ n) (hF : n ≤ freeI l) : ((tN l n).length : Int) = n := by
  rw [freeI_fN] at hF; unfold tN; rw [List.length_take]; omega
theorem tN_mem {l : List Bool} {n : Int} {x : Nat} (h : x ∈ tN l n) : x < l.length ∧ l.getD x false = false := fN_mem.1 (List.mem_of_mem_take h)
theorem tN_sorted (l : List Bool) (n : Int) : (tN l n).Pairwise (· < ·) := (fN_sorted l false l.length).sublist (List.take_sublist _ _)
theorem tN_low {l : List Bool} {n : Int} {i t : Nat} (hi : i < l.length) (hf : l.getD i false = false) (ht : t ∈ tN l n) (hlt : i < t) : i ∈ tN l n := by
  have hA : i ∈ fN l false l.length := fN_mem.2 ⟨hi, hf⟩
  have hs := fN_sorted l false l.length
  rw [← List.take_append_drop n.toNat (fN l false l.length)] at hA hs
  rcases List.mem_append.1 hA with h | h
  · exact h
  · have := (List.pairwise_append.1 hs).2.2 t ht i h
    omega
theorem free_after (l : List Bool) (n : Int) : (fN (setN true l (tN l n)) false (setN true l (tN l n)).length).length = (fN l false l.length).length - n.toNat := by
  have h1 : fN (setN true l (tN l n)) false (setN true l (tN l n)).length = (fN l false l.length).filter (fun i => decide (i ∉ tN l n)) := by
    rw [setN_length]
    unfold fN
    rw [List.filter_filter]
    apply List.filter_congr
    intro i hi
    rw [setN_get _ _ _ _ (by simpa using hi)]
    show _ = (decide (i ∉ tN l n) && (l.getD i false == false))
    by_cases h : i ∈ tN l n <;> simp [h]
  rw [h1]
  have hs := fN_sorted l false l.length
  rw [← List.take_append_drop n.toNat (fN l false l.length)] at hs
  have hd := (List.pairwise_append.1 hs).2.2
  conv => lhs; rw [← List.take_append_drop n.toNat (fN l false l.length)]
  rw [List.filter_append]
  have e1 : ((fN l false l.length).take n.toNat).filter (fun i => decide (i ∉ tN l n)) = [] := by
    rw [List.filter_eq_nil_iff]
    intro a ha
    have : a ∈ tN l n := ha
    simp [this]
  have e2 : ((fN l false l.length).drop n.toNat).filter (fun i => decide (i ∉ tN l n)) = (fN l false l.length).drop n.toNat := by
    rw [List.filter_eq_self]
    intro a ha
    have : a ∉ tN l n := fun hm => by have := hd a hm a ha; omega
    simp [this]
  rw [e1, e2, List.nil_append, List.length_drop]
theorem turnGo_back (use : List Bool) : ∀ (ns : List Nat) (out : List Bool), out.length = use.length → (∀ x ∈ ns, x < use.length ∧ out.getD x false = true) → ns.Pairwise (· < ·) → turnGo use true 3 out (ns.map (fun x : Nat => (x : Int))) = (setN false out ns, 0) := by
  intro ns
  induction ns with
  | nil => intro out _ _ _; rfl
  | cons x ns ih =>
    intro out ho h hs
    obtain ⟨h1, h2⟩ := h x (by simp)
    show turnGo use true 3 out ((x : Int) :: ns.map (fun x : Nat => (x : Int))) = _
    unfold turnGo
    rw [if_neg (by omega), Int.toNat_natCast, if_neg (fun hh => hh h2)]
    have := ih (out.set x (!true)) (by simpa using ho) (fun y hy => by
      obtain ⟨g1, g2⟩ := h y (by simp [hy])
      refine ⟨g1, ?_⟩
      have : x < y := (List.pairwise_cons.1 hs).1 y hy
      rw [List.getD_eq_getElem?_getD, List.getElem?_set_ne (by omega), ← List.getD_eq_getElem?_getD]
      exact g2) (List.pairwise_cons.1 hs).2
    rw [this]
    rfl
theorem give_back (l : List Bool) (n : Int) : turnGo (setN true l (tN l n)) true 3 (setN true l (tN l n)) ((tN l n).map (fun x : Nat => (x : Int))) = (l, 0) := by
  rw [turnGo_back _ _ _ rfl (fun x hx => by
    obtain ⟨h1, _⟩ := tN_mem hx
    rw [setN_length, setN_get _ _ _ _ h1, if_pos hx]
    exact ⟨h1, rfl⟩) (tN_sorted l n)]
  congr 1
  apply bl_ext (by rw [setN_length, setN_length])
  intro i hi
  rw [setN_length, setN_length] at hi
  rw [setN_get _ _ _ _ (by rw [setN_length]; exact hi), setN_get _ _ _ _ hi]
  by_cases h : i ∈ tN l n
  · rw [if_pos h, (tN_mem h).2]
  · rw [if_neg h, if_neg h]
theorem rd_map (ns : List Nat) (i : Nat) (h : i < ns.length) : rd (ns.map (fun x : Nat => (x : Int))) (i : Int) = ((ns[i] : Nat) : Int) := by
  rw [sp_rd]; simp [List.getD_eq_getElem?_getD, h]
theorem low_l1 (l : List Bool) (n : Int) (hn : 0 ≤ n) (hF : n ≤ freeI l) (hl : l.length ≤ 5000) : ∀ (m i k : Nat), i + m = l.length → m + 10001 < k →
    caulklaw12_SpaceLowest.l1 k l n (setN true l (tN l n)) ((tN l n).map (fun x : Nat => (x : Int))) (l.length : Int) (i : Int) = some true := by
  have hT := tN_len hn hF
  have hFl := fN_le l false l.length
  rw [freeI_fN] at hF
  intro m
  induction m with
  | zero =>
    intro i k hi hk
    obtain ⟨k, rfl⟩ : ∃ j, k = j + 1 := ⟨k - 1, by omega⟩
    simp only [caulklaw12_SpaceLowest.l1]
    rw [if_neg (by omega), Give_eq _ _ (by rw [setN_length]; exact hl) (by simp; omega) k (by omega), give_back]
    simp only [Option.bind_some, if_true]
    rw [same12 l hl k (by omega)]; rfl
  | succ m ih =>
    intro i k hi hk
    obtain ⟨k, rfl⟩ : ∃ j, k = j + 1 := ⟨k - 1, by omega⟩
    simp only [caulklaw12_SpaceLowest.l1]
    have hnext := ih (i + 1) k (by omega) (by omega)
    rw [if_pos (by omega), sp_w1 _ (by omega)]
    by_cases h1 : n > 0
    · have e : wrap64 (n - 1) = ((n.toNat - 1 : Nat) : Int) := by unfold wrap64; omega
      have hb : n.toNat - 1 < (tN l n).length := by omega
      rw [if_pos h1, e, if_pos (by omega), if_pos (by simp; omega), rd_map _ _ hb]
      by_cases h2 : (i : Int) < (((tN l n)[n.toNat - 1] : Nat) : Int)
      · have hg : (setN true l (tN l n)).getD i false = true := by
          rw [setN_get _ _ _ _ (by omega)]
          by_cases h3 : l.getD i false = false
          · rw [if_pos (tN_low (by omega) h3 (List.getElem_mem hb) (by omega))]
          · split
            · rfl
            · simpa using h3
        rw [if_pos h2, if_pos (by omega), if_pos (by rw [setN_length]; omega), sp_rdOf, if_pos hg]
        exact hnext
      · rw [if_neg h2]; exact hnext
    · rw [if_neg h1]; exact hnext
theorem low_l0 (l : List Bool) (n : Int) (hn : 0 ≤ n) (hF : n ≤ freeI l) (hl : l.length ≤ 5000) : ∀ (m i k : Nat), i + m = (tN l n).length → m + 15100 < k →
    caulklaw12_SpaceLowest.l0 k l n (setN true l (tN l n)) ((tN l n).map (fun x : Nat => (x : Int))) ((tN l n).map (fun x : Nat => (x : Int))) ((tN l n).length : Int) (i : Int) = some true := by
  have hT := tN_len hn hF
  have hFl := fN_le l false l.length
  have hF' := hF
  rw [freeI_fN] at hF'
  intro m
  induction m with
  | zero =>
    intro i k hi hk
    obtain ⟨k, rfl⟩ : ∃ j, k = j + 1 := ⟨k - 1, by omega⟩
    simp only [caulklaw12_SpaceLowest.l0]
    rw [if_neg (by omega), setN_length]
    exact low_l1 l n hn hF hl l.length 0 k (by omega) (by omega)
  | succ m ih =>
    intro i k hi hk
    obtain ⟨k, rfl⟩ : ∃ j, k = j + 1 := ⟨k - 1, by omega⟩
    simp only [caulklaw12_SpaceLowest.l0]
    have hnext := ih (i + 1) k (by omega) (by omega)
    have hb : i < (tN l n).length := by omega
    obtain ⟨hx1, hx2⟩ := tN_mem (List.getElem_mem hb)
    have hg : (setN true l (tN l n)).getD (tN l n)[i] false = true := by rw [setN_get _ _ _ _ hx1, if_pos (List.getElem_mem hb)]
    rw [if_pos (by omega), if_pos (by omega), if_pos (by simp; omega), rd_map _ _ hb, if_neg (by omega), if_neg (by omega), if_pos (by omega), if_pos (by omega), sp_rdOf, if_neg (by rw [hx2]; simp), if_pos (by rw [setN_length]; omega), sp_rdOf, if_pos hg, sp_w1 _ (by omega)]
    by_cases h1 : (i : Int) > 0
    · have e : wrap64 ((i : Int) - 1) = ((i - 1 : Nat) : Int) := by unfold wrap64; omega
      have hb' : i - 1 < (tN l n).length := by omega
      have hs := List.pairwise_iff_getElem.1 (tN_sorted l n) (i - 1) i hb' hb (by omega)
      rw [if_pos h1, e, if_pos (by omega), if_pos (by simp; omega), rd_map _ _ hb', if_neg (by omega)]
      exact hnext
    · rw [if_neg h1]; exact hnext
theorem SpaceLowest : caulklaw12_SpaceLowest.Pure := by
  intro l0 a1 hl0 ha1
  refine ⟨40000, ?_⟩
  unfold caulklaw12_SpaceLowest.f
  rw [lives_eq _ (by omega)]
  simp only [Option.bind_some, if_true]
  by_cases c0 : (l0.length : Int) > 5000
  · rw [if_pos c0]
  · rw [if_neg c0]
    have hl : l0.length ≤ 5000 := by omega
    have hFl := fN_le l0 false l0.length
    rw [space_Take_eq l0 a1 hl]
    by_cases c1 : a1 < 0
    · rw [if_pos c1]
      simp only [Option.bind_some]
      rw [if_neg (by decide), if_pos (by simp), same12 l0 hl 40000 (by omega)]
      simp only [Option.bind_some, if_true, if_pos c1]
    · rw [if_neg c1]
      by_cases c2 : freeI l0 < a1
      · rw [if_pos c2]
        simp only [Option.bind_some]
        rw [if_neg (by decide), if_pos (by simp), same12 l0 hl 40000 (by omega)]
        simp only [Option.bind_some, if_true, if_neg c1, space_Free_eq l0 hl, ← freeI_fN, decide_eq_true c2]
      · rw [if_neg c2]
        have hT := tN_len (l := l0) (n := a1) (by omega) (by omega)
        have hF := freeI_fN l0
        simp only [Option.bind_some, if_true]
        rw [if_pos (by simpa using hT), if_pos (by rw [setN_length]), space_Free_eq _ (by rw [setN_length]; exact hl), free_after, space_Free_eq l0 hl]
        simp only [Option.bind_some]
        have e : ((((fN l0 false l0.length).length - a1.toNat : Nat) : Int) != wrap64 (((fN l0 false l0.length).length : Int) - a1)) = false := by
          have : (((fN l0 false l0.length).length - a1.toNat : Nat) : Int) = wrap64 (((fN l0 false l0.length).length : Int) - a1) := by unfold wrap64; omega
          rw [this]; simp
        rw [e]
        simp only [caulklaw12_SpaceLowest.j0, Bool.false_eq_true, if_false, List.length_map]
        exact low_l0 l0 a1 (by omega) (by omega) hl _ 0 39999 (Nat.zero_add _) (by omega)
end Go.Proofs.Ytgiljibkjccgfaa.Pure
