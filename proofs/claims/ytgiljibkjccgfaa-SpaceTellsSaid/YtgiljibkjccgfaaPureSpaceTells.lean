/- SpaceTells: the pure statement: numbers and lists alone. Conditions: those of the statement itself. -/
import Derived.Test.YtgiljibkjccgfaaGx3
import Derived.OpenShut
namespace Go.Proofs.Ytgiljibkjccgfaa.Pure
open Go.RowKit Go.Proofs.Ytgiljibkjccgfaa.G Go.Proofs.YtgiljibkjccgfaaW.PrintWords Go.Proofs.YtgiljibkjccgfaaW.PrintLast Go.Proofs.YtgiljibkjccgfaaW.PrintMore Go.OpenShut
set_option linter.unusedVariables false
set_option linter.unusedSimpArgs false
/-! ### Lists of bools, turned at places -/
def setN (b : Bool) (l : List Bool) (ns : List Nat) : List Bool := ns.foldl (fun o x => o.set x b) l
theorem setN_length (b : Bool) (ns : List Nat) : ∀ (l : List Bool), (setN b l ns).length = l.length := by
  induction ns with
  | nil => intro l; rfl
  | cons x ns ih => intro l; show (setN b (l.set x b) ns).length = _; rw [ih]; simp
theorem setN_get (b : Bool) (ns : List Nat) : ∀ (l : List Bool) (i : Nat), i < l.length → (setN b l ns).getD i false = if i ∈ ns then b else l.getD i false := by
  induction ns with
  | nil => intro l i h; simp [setN]
  | cons x ns ih =>
    intro l i h
    show (setN b (l.set x b) ns).getD i false = _
    rw [ih (l.set x b) i (by simpa using h)]
    by_cases h1 : i ∈ ns
    · simp [h1]
    · rw [if_neg h1]
      by_cases h2 : i = x
      · subst h2; simp [List.getD_eq_getElem?_getD, h]
      · have h3 : ¬ i ∈ x :: ns := by simp [h1, h2]
        rw [if_neg h3]
        simp [List.getD_eq_getElem?_getD, List.getElem?_set_ne (Ne.symm h2)]
theorem bl_ext {a b : List Bool} (hl : a.length = b.length) (h : ∀ i, i < a.length → a.getD i false = b.getD i false) : a = b := by
  apply List.ext_getElem hl
  intro i h1 h2
  have := h i h1
  simpa [List.getD_eq_getElem?_getD, h1, h2] using this
theorem sp_w1 (i : Nat) (h : i < 9223372036854775807) : wrap64 ((i : Int) + 1) = ((i + 1 : Nat) : Int) := by unfold wrap64; omega
theorem sp_rdOf (l : List Bool) (i : Nat) : rdOf false l (i : Int) = l.getD i false := by unfold rdOf; simp
theorem sp_rd (l : List Int) (i : Nat) : rd l (i : Int) = l.getD i 0 := by unfold rd; simp

/-! ### The places at which it is so -/
def fN (l : List Bool) (is : Bool) (k : Nat) : List Nat := (List.range k).filter fun i => l.getD i false == is
theorem fN_succ (l : List Bool) (is : Bool) (k : Nat) : fN l is (k + 1) = fN l is k ++ (if l.getD k false = is then [k] else []) := by
  unfold fN
  rw [List.range_succ, List.filter_append]
  congr 1
  by_cases h : l.getD k false = is <;> simp [List.filter_cons, h]
theorem those_fN (l : List Bool) (is : Bool) : ∀ k, k ≤ l.length → (thoseF l is k).map (fun x => x.val) = fN l is k := by
  intro k
  induction k with
  | zero => intro _; rfl
  | succ k ih =>
    intro hk
    by_cases h : l.getD k false = is
    · rw [thoseF_yes (by omega) h, fN_succ, if_pos h, List.map_append, ih (by omega)]; rfl
    · rw [thoseF_no (by omega) h, fN_succ, if_neg h, ih (by omega)]; simp
theorem fN_mem {l : List Bool} {is : Bool} {k i : Nat} : i ∈ fN l is k ↔ i < k ∧ l.getD i false = is := by
  unfold fN; simp
theorem fN_sorted (l : List Bool) (is : Bool) (k : Nat) : (fN l is k).Pairwise (· < ·) := List.Pairwise.filter _ List.pairwise_lt_range
theorem fN_le (l : List Bool) (is : Bool) (k : Nat) : (fN l is k).length ≤ k := by unfold fN; exact Nat.le_trans (List.length_filter_le _ _) (by simp)
theorem fN_sum (l : List Bool) (k : Nat) : (fN l true k).length + (fN l false k).length = k := by
  induction k with
  | zero => rfl
  | succ k ih =>
    rw [fN_succ, fN_succ]
    cases h : l.getD k false <;> simp <;> omega
theorem freeI_fN (l : List Bool) : freeI l = ((fN l false l.length).length : Int) := by
  unfold freeI; rw [← those_fN l false l.length (Nat.le_refl _), List.length_map]
theorem idxI_fN (l : List Bool) (is : Bool) (k : Nat) (h : k ≤ l.length) : idxI l is k = (fN l is k).map (fun x : Nat => (x : Int)) := by
  unfold idxI; rw [← those_fN l is k h, List.map_map]; rfl
def tN (l : List Bool) (n : Int) : List Nat := (fN l false l.length).take n.toNat
theorem takeF_fN (l : List Bool) (n : Int) : (takeF l n).map (fun x => x.val) = tN l n := by
  unfold takeF tN; rw [List.map_take, those_fN l false l.length (Nat.le_refl _)]
theorem setAll_fN (l : List Bool) (n : Int) : setAll l (takeF l n) = setN true l (tN l n) := by
  rw [← takeF_fN]; unfold setAll setN; rw [List.foldl_map]
theorem space_Take_eq (l : List Bool) (n : Int) (hl : l.length ≤ 5000) : space_Take.f l n = some (if n < 0 then (l, [], 1) else if freeI l < n then (l, [], 11) else (setN true l (tN l n), (tN l n).map (fun x : Nat => (x : Int)), 0)) := by
  unfold space_Take.f
  rw [if_pos (by omega), setAll_fN, show (takeF l n).map (fun x => (x.val : Int)) = (tN l n).map (fun x : Nat => (x : Int)) from by rw [← takeF_fN, List.map_map]; rfl]
theorem space_Free_eq (l : List Bool) (hl : l.length ≤ 5000) : space_Free.f l = some ((fN l false l.length).length : Int) := by
  unfold space_Free.f; rw [if_pos (by omega), freeI_fN]
theorem space_Used_eq (l : List Bool) (hl : l.length ≤ 5000) : space_Used.f l = some ((fN l true l.length).map (fun x : Nat => (x : Int))) := by
  unfold space_Used.f; rw [if_pos (by omega), idxI_fN _ _ _ (Nat.le_refl _)]
theorem clone_eq (l : List Bool) (hl : l.length ≤ 5000) : slices_Clone_bool_bool.f l = some l := by
  unfold slices_Clone_bool_bool.f; rw [if_pos (by omega)]

/-! ### One row is like itself -/
theorem same12_l (a : List Bool) (hl : a.length < 9223372036854775807) : ∀ (m i k : Nat), i + m = a.length → m < k → caulkref12_Same.l0 k a a (a.length : Int) (i : Int) = some true := by
  intro m
  induction m with
  | zero =>
    intro i k hi hk
    obtain ⟨k, rfl⟩ : ∃ j, k = j + 1 := ⟨k - 1, by omega⟩
    simp only [caulkref12_Same.l0]
    rw [if_neg (by omega)]
  | succ m ih =>
    intro i k hi hk
    obtain ⟨k, rfl⟩ : ∃ j, k = j + 1 := ⟨k - 1, by omega⟩
    simp only [caulkref12_Same.l0]
    rw [if_pos (by omega), if_pos (by omega), if_pos (by omega), if_pos (by omega), if_neg (by simp), sp_w1 _ (by omega)]
    exact ih (i + 1) k (by omega) (by omega)
theorem same12 (a : List Bool) (hl : a.length ≤ 5000) (k : Nat) (hk : 5000 < k) : caulkref12_Same.f k a a = some true := by
  unfold caulkref12_Same.f
  rw [if_pos rfl]
  exact same12_l a (by omega) a.length 0 k (by omega) (by omega)
theorem same05_l (a : List Int) (hl : a.length < 9223372036854775807) : ∀ (m i k : Nat), i + m = a.length → m < k → caulkref05_Same.l0 k a a (a.length : Int) (i : Int) = some true := by
  intro m
  induction m with
  | zero =>
    intro i k hi hk
    obtain ⟨k, rfl⟩ : ∃ j, k = j + 1 := ⟨k - 1, by omega⟩
    simp only [caulkref05_Same.l0]
    rw [if_neg (by omega)]
  | succ m ih =>
    intro i k hi hk
    obtain ⟨k, rfl⟩ : ∃ j, k = j + 1 := ⟨k - 1, by omega⟩
    simp only [caulkref05_Same.l0]
    rw [if_pos (by omega), if_pos (by omega), if_pos (by omega), if_pos (by omega), if_pos trivial, sp_w1 _ (by omega)]
    exact ih (i + 1) k (by omega) (by omega)
theorem same05 (a : List Int) (hl : a.length ≤ 5000) (k : Nat) (hk : 5000 < k) : caulkref05_Same.f k a a = some true := by
  unfold caulkref05_Same.f
  rw [if_pos rfl]
  exact same05_l a (by omega) a.length 0 k (by omega) (by omega)

/-! ### Mark and Give -/
def turnGo (use : List Bool) (is : Bool) (bad : Int) : List Bool → List Int → List Bool × Int
  | out, [] => (out, 0)
  | out, x :: at' => if x < 0 ∨ x ≥ (use.length : Int) then (use, 1) else if out.getD x.toNat false ≠ is then (use, bad) else turnGo use is bad (out.set x.toNat (!is)) at'
theorem sp_drop {at' : List Int} {i : Nat} (h : i < at'.length) : at'.drop i = at'.getD i 0 :: at'.drop (i + 1) := by
  rw [List.drop_eq_getElem_cons h, List.getD_eq_getElem?_getD, List.getElem?_eq_getElem h]; rfl
theorem turn_l (use : List Bool) (is : Bool) (bad : Int) (at' : List Int) (hu : use.length ≤ 5000) (ha : at'.length ≤ 5000) : ∀ (m i k : Nat) (out : List Bool), i + m = at'.length → 2 * m < k → out.length = use.length →
    space_turn.l0 k use is bad out at' (at'.length : Int) (i : Int) = some (turnGo use is bad out (at'.drop i)) := by
  intro m
  induction m with
  | zero =>
    intro i k out hi hk ho
    obtain ⟨k, rfl⟩ : ∃ j, k = j + 1 := ⟨k - 1, by omega⟩
    simp only [space_turn.l0]
    rw [if_neg (by omega), List.drop_eq_nil_of_le (by omega)]
    rfl
  | succ m ih =>
    intro i k out hi hk ho
    obtain ⟨k, rfl⟩ : ∃ j, k = j + 2 := ⟨k - 2, by omega⟩
    simp only [space_turn.l0]
    rw [if_pos (by omega), if_pos (by omega), if_pos (by omega), sp_drop (i := i) (by omega), sp_rd]
    generalize hx : at'.getD i 0 = x
    unfold turnGo
    by_cases h1 : x < 0
    · rw [if_pos h1, if_pos (.inl h1)]
      simp only [space_turn.j1, if_true, clone_eq use hu, Option.bind_some]
    · rw [if_neg h1]
      by_cases h2 : x ≥ (use.length : Int)
      · rw [if_pos (.inr h2)]
        have : x ≥ (out.length : Int) := by rw [ho]; exact h2
        simp only [space_turn.j1, this, decide_true, if_true, clone_eq use hu, Option.bind_some]
      · rw [if_neg (by omega)]
        have h3 : ¬ x ≥ (out.length : Int) := by rw [ho]; exact h2
        simp only [space_turn.j1, h3, decide_false, Bool.false_eq_true, if_false]
        rw [if_pos (by omega), if_pos (by omega)]
        have e : rdOf false out x = out.getD x.toNat false := rfl
        rw [e]
        by_cases h4 : out.getD x.toNat false = is
        · rw [if_neg (by rw [h4]; simp), if_neg (fun hh => hh h4), sp_w1 _ (by omega)]
          exact ih (i + 1) k _ (by omega) (by omega) (by simpa using ho)
        · rw [if_pos (bne_iff_ne.2 h4), if_pos h4, clone_eq use hu]; rfl
theorem turn_eq (use : List Bool) (is : Bool) (bad : Int) (at' : List Int) (hu : use.length ≤ 5000) (ha : at'.length ≤ 5000) (k : Nat) (hk : 10000 < k) : space_turn.f k use is bad at' = some (turnGo use is bad use at') := by
  unfold space_turn.f
  rw [clone_eq use hu, Option.bind_some]
  exact turn_l use is bad at' hu ha at'.length 0 k use (by omega) (by omega) rfl
theorem refturn_l (use : List Bool) (is : Bool) (bad : Int) (at' : List Int) (hu : use.length ≤ 5000) (ha : at'.length ≤ 5000) : ∀ (m i k : Nat) (out : List Bool), i + m = at'.length → 2 * m < k → out.length = use.length →
    caulkref12_turn.l0 k use is bad out at' (at'.length : Int) (i : Int) = some (turnGo use is bad out (at'.drop i)) := by
  intro m
  induction m with
  | zero =>
    intro i k out hi hk ho
    obtain ⟨k, rfl⟩ : ∃ j, k = j + 1 := ⟨k - 1, by omega⟩
    simp only [caulkref12_turn.l0]
    rw [if_neg (by omega), List.drop_eq_nil_of_le (by omega)]
    rfl
  | succ m ih =>
    intro i k out hi hk ho
    obtain ⟨k, rfl⟩ : ∃ j, k = j + 2 := ⟨k - 2, by omega⟩
    simp only [caulkref12_turn.l0]
    rw [if_pos (by omega), if_pos (by omega), if_pos (by omega), sp_drop (i := i) (by omega), sp_rd]
    generalize hx : at'.getD i 0 = x
    have hc : ([] : List Bool).length + use.length < 140737488355328 := by simp; omega
    unfold turnGo
    by_cases h1 : x < 0
    · rw [if_pos h1, if_pos (.inl h1)]
      simp only [caulkref12_turn.j1, if_true, Option.bind_some, if_pos hc, List.nil_append]
    · rw [if_neg h1]
      by_cases h2 : x ≥ (use.length : Int)
      · rw [if_pos (.inr h2)]
        simp only [caulkref12_turn.j1, h2, decide_true, if_true, Option.bind_some, if_pos hc, List.nil_append]
      · rw [if_neg (by omega)]
        simp only [caulkref12_turn.j1, h2, decide_false, Bool.false_eq_true, if_false]
        rw [if_pos (by omega), if_pos (by omega)]
        have e : rdOf false out x = out.getD x.toNat false := rfl
        rw [e]
        by_cases h4 : out.getD x.toNat false = is
        · rw [if_neg (by rw [h4]; simp), if_neg (fun hh => hh h4), sp_w1 _ (by omega)]
          exact ih (i + 1) k _ (by omega) (by omega) (by simpa using ho)
        · rw [if_pos (bne_iff_ne.2 h4), if_pos h4]
          simp only [Option.bind_some, if_pos hc, List.nil_append]
theorem refturn_eq (use : List Bool) (is : Bool) (bad : Int) (at' : List Int) (hu : use.length ≤ 5000) (ha : at'.length ≤ 5000) (k : Nat) (hk : 10000 < k) : caulkref12_turn.f k use is bad at' = some (turnGo use is bad use at') := by
  unfold caulkref12_turn.f
  simp only [Option.bind_some, List.nil_append]
  rw [if_pos (by simp; omega)]
  exact refturn_l use is bad at' hu ha at'.length 0 k use (by omega) (by omega) rfl
theorem Mark_eq (use : List Bool) (at' : List Int) (hu : use.length ≤ 5000) (ha : at'.length ≤ 5000) (k : Nat) (hk : 10000 < k) : space_Mark.f k use at' = some (turnGo use false 4 use at') := by
  unfold space_Mark.f; rw [turn_eq _ _ _ _ hu ha k hk]; rfl
theorem Give_eq (use : List Bool) (at' : List Int) (hu : use.length ≤ 5000) (ha : at'.length ≤ 5000) (k : Nat) (hk : 10000 < k) : space_Give.f k use at' = some (turnGo use true 3 use at') := by
  unfold space_Give.f; rw [turn_eq _ _ _ _ hu ha k hk]; rfl
theorem refMark_eq (use : List Bool) (at' : List Int) (hu : use.length ≤ 5000) (ha : at'.length ≤ 5000) (k : Nat) (hk : 10000 < k) : caulkref12_Mark.f k use at' = some (turnGo use false 4 use at') := by
  unfold caulkref12_Mark.f; rw [refturn_eq _ _ _ _ hu ha k hk]; rfl
theorem refGive_eq (use : List Bool) (at' : List Int) (hu : use.length ≤ 5000) (ha : at'.length ≤ 5000) (k : Nat) (hk : 10000 < k) : caulkref12_Give.f k use at' = some (turnGo use true 3 use at') := by
  unfold caulkref12_Give.f; rw [refturn_eq _ _ _ _ hu ha k hk]; rfl
theorem turnGo_length (use : List Bool) (is : Bool) (bad : Int) : ∀ (at' : List Int) (out : List Bool), out.length = use.length → (turnGo use is bad out at').1.length = use.length := by
  intro at'
  induction at' with
  | nil => intro out h; exact h
  | cons x at' ih =>
    intro out h
    unfold turnGo
    split
    · rfl
    · split
      · rfl
      · exact ih _ (by simpa using h)

/-! ### New -/
def newP (a : Int) : List Bool × Int := if a < 4 ∨ a > 4096 then ([], 1) else (((List.replicate a.toNat false).set 0 true).set 1 true, 0)
theorem New_eq (a : Int) (k : Nat) (hk : 10 < k) : space_New.f k a = some (newP a) := by
  obtain ⟨k, rfl⟩ : ∃ j, k = j + 5 := ⟨k - 5, by omega⟩
  unfold space_New.f newP
  by_cases h1 : a < 4
  · rw [if_pos h1, if_pos (.inl h1)]; rfl
  · rw [if_neg h1]
    by_cases h2 : a > 4096
    · rw [if_pos (.inr h2)]
      simp only [space_New.j0, h2, decide_true, if_true]
    · rw [if_neg (by omega)]
      simp only [space_New.j0, h2, decide_false, Bool.false_eq_true, if_false]
      rw [if_pos (by omega), if_pos (by omega)]
      simp only [space_New.l0]
      rw [if_pos (by decide), if_pos (by decide), if_pos (by simp; omega)]
      rw [show wrap64 (0 + 1) = 1 from by unfold wrap64; omega]
      rw [if_pos (by decide), if_pos (by decide), if_pos (by simp; omega)]
      rw [show wrap64 (1 + 1) = 2 from by unfold wrap64; omega]
      rw [if_neg (by decide)]
      rfl
theorem refNew_eq (a : Int) : caulkref12_New.f a = some (newP a) := by
  unfold caulkref12_New.f newP
  by_cases h1 : a < 4
  · rw [if_pos h1, if_pos (.inl h1)]
  · rw [if_neg h1]
    by_cases h2 : a > 4096
    · rw [if_pos h2, if_pos (.inr h2)]
    · rw [if_neg h2, if_neg (show ¬ (a < 4 ∨ a > 4096) from by omega), if_pos (by omega), if_pos (by omega)]
      simp only [Option.bind_some]
      rw [if_pos (by simp; omega), if_pos (by simp; omega)]
      rfl
theorem newP_length (a : Int) : (newP a).1.length ≤ 4096 := by
  unfold newP; split <;> simp; omega

/-! ### Used, Free, Take -/
theorem refUsed_l (l : List Bool) (hl : l.length ≤ 5000) : ∀ (m i k : Nat), i + m = l.length → m < k → caulkref12_Used.l0 k ((fN l true i).map (fun x : Nat => (x : Int))) l (l.length : Int) (i : Int) = some ((fN l true l.length).map (fun x : Nat => (x : Int))) := by
  intro m
  induction m with
  | zero =>
    intro i k hi hk
    obtain ⟨k, rfl⟩ : ∃ j, k = j + 1 := ⟨k - 1, by omega⟩
    simp only [caulkref12_Used.l0]
    rw [if_neg (by omega), show i = l.length from by omega]
  | succ m ih =>
    intro i k hi hk
    obtain ⟨k, rfl⟩ : ∃ j, k = j + 1 := ⟨k - 1, by omega⟩
    simp only [caulkref12_Used.l0]
    have hle := fN_le l true i
    have := ih (i + 1) k (by omega) (by omega)
    rw [fN_succ] at this
    rw [if_pos (by omega), if_pos (by omega), if_pos (by omega), sp_rdOf, sp_w1 _ (by omega)]
    by_cases h : l.getD i false = true
    · rw [if_pos h, if_pos (by simp; omega)]
      rw [if_pos h] at this
      simpa using this
    · rw [if_neg h]
      rw [if_neg h] at this
      simpa using this
theorem refUsed_eq (l : List Bool) (hl : l.length ≤ 5000) (k : Nat) (hk : 5000 < k) : caulkref12_Used.f k l = some ((fN l true l.length).map (fun x : Nat => (x : Int))) := by
  unfold caulkref12_Used.f
  exact refUsed_l l hl l.length 0 k (by omega) (by omega)
theorem refFree_eq (l : List Bool) (hl : l.length ≤ 5000) (k : Nat) (hk : 5000 < k) : caulkref12_Free.f k l = some ((fN l false l.length).length : Int) := by
  unfold caulkref12_Free.f
  rw [refUsed_eq l hl k hk, Option.bind_some]
  have := fN_sum l l.length
  congr 1
  rw [List.length_map]
  unfold wrap64; omega
theorem refTake_l (l : List Bool) (n : Int) (hn : 0 ≤ n) (hl : l.length ≤ 5000) : ∀ (m i k : Nat), i + m = l.length → m < k →
    caulkref12_Take.l0 k n (setN true l ((fN l false i).take n.toNat)) (((fN l false i).take n.toNat).map (fun x : Nat => (x : Int))) (l.length : Int) (i : Int) = some (setN true l (tN l n), (tN l n).map (fun x : Nat => (x : Int)), 0) := by
  intro m
  induction m with
  | zero =>
    intro i k hi hk
    obtain ⟨k, rfl⟩ : ∃ j, k = j + 1 := ⟨k - 1, by omega⟩
    simp only [caulkref12_Take.l0]
    rw [if_neg (by omega), show i = l.length from by omega]
    rfl
  | succ m ih =>
    intro i k hi hk
    obtain ⟨k, rfl⟩ : ∃ j, k = j + 1 := ⟨k - 1, by omega⟩
    simp only [caulkref12_Take.l0]
    have hle := fN_le l false i
    have hi' := ih (i + 1) k (by omega) (by omega)
    rw [fN_succ] at hi'
    have hg : (setN true l ((fN l false i).take n.toNat)).getD i false = l.getD i false := by
      rw [setN_get _ _ _ _ (by omega), if_neg]
      intro hmem
      have := (fN_mem.1 (List.mem_of_mem_take hmem)).1
      omega
    rw [if_pos (by omega), if_pos (by omega), if_pos (by rw [setN_length]; omega), sp_rdOf, hg, sp_w1 _ (by omega)]
    by_cases h : l.getD i false = true
    · rw [if_pos h]
      rw [if_neg (by rw [h]; simp)] at hi'
      simpa using hi'
    · have h' : l.getD i false = false := by simpa using h
      rw [if_neg h]
      rw [if_pos h'] at hi'
      by_cases h2 : (fN l false i).length < n.toNat
      · rw [if_pos (by simp; omega), if_pos (by simp; omega)]
        rw [List.take_of_length_le (by simp; omega)] at hi'
        rw [List.take_of_length_le (l := fN l false i) (by omega)]
        have e : setN true l (fN l false i ++ [i]) = (setN true l (fN l false i)).set i true := by simp [setN]
        rw [e] at hi'
        simpa using hi'
      · rw [if_neg (by simp; omega)]
        rw [List.take_append_of_le_length (by omega)] at hi'
        exact hi'
theorem refTake_eq (l : List Bool) (n : Int) (hl : l.length ≤ 5000) (k : Nat) (hk : 5000 < k) : caulkref12_Take.f k l n = some (if n < 0 then (l, [], 1) else if freeI l < n then (l, [], 11) else (setN true l (tN l n), (tN l n).map (fun x : Nat => (x : Int)), 0)) := by
  unfold caulkref12_Take.f
  simp only [Option.bind_some, List.nil_append]
  rw [if_pos (by simp; omega)]
  by_cases h1 : n < 0
  · rw [if_pos h1, if_pos h1]
  · rw [if_neg h1, if_neg h1, refFree_eq l hl k hk, Option.bind_some, ← freeI_fN]
    by_cases h2 : freeI l < n
    · rw [if_pos h2, if_pos h2]
    · rw [if_neg h2, if_neg h2]
      have := refTake_l l n (by omega) hl l.length 0 k (by omega) (by omega)
      rw [show (fN l false 0).take n.toNat = [] from by simp [fN]] at this
      exact this

/-! ### The document's own words -/
theorem lives_eq (k : Nat) (hk : 20000 ≤ k) : caulklaw12_lives.f k = some true := by
  have t1 : space_Take.f (newP 6).1 2 = some ([true, true, true, true, false, false], [2, 3], 0) := by decide
  have t2 : space_Take.f [true, true, true, true, false, false] 3 = some ([true, true, true, true, false, false], [], 11) := by decide
  have n1 : (newP 6).2 = 0 := by decide
  have n2 : (newP 3).2 = 1 := by decide
  have m1 : turnGo [true, true, true, true, false, false] false 4 [true, true, true, true, false, false] [4, 4] = ([true, true, true, true, false, false], 4) := by decide
  have m2 : turnGo [true, true, true, true, false, false] true 3 [true, true, true, true, false, false] [2] = ([true, true, false, true, false, false], 0) := by decide
  have m3 : turnGo [true, true, true, true, false, false] true 3 [true, true, true, true, false, false] [5] = ([true, true, true, true, false, false], 3) := by decide
  have m4 : turnGo [true, true, false, true, false, false] false 4 [true, true, false, true, false, false] [2] = ([true, true, true, true, false, false], 0) := by decide
  have f1 : space_Free.f [true, true, false, true, false, false] = some 3 := by decide
  have u1 : space_Used.f [true, true, true, true, false, false] = some [0, 1, 2, 3] := by decide
  unfold caulklaw12_lives.f
  simp only [New_eq _ k (by omega), Option.bind_some, t1, n1, n2]
  rw [Mark_eq _ _ (by simp) (by simp) k (by omega), m1]
  simp only [Option.bind_some]
  rw [Give_eq _ _ (by simp) (by simp) k (by omega), m2]
  simp only [Option.bind_some, t2]
  rw [Give_eq _ _ (by simp) (by simp) k (by omega), m3]
  simp only [Option.bind_some]
  rw [Mark_eq _ _ (by simp) (by simp) k (by omega), m4]
  simp only [Option.bind_some, if_true, same05 [2, 3] (by simp) k (by omega), f1, same12 [true, true, true, true, false, false] (by simp) k (by omega), u1, same05 [0, 1, 2, 3] (by simp) k (by omega)]
theorem SpaceTells : caulklaw12_SpaceTells.Pure := by
  intro l0 l1 a2 a3 hl0 hl1 ha2 ha3
  refine ⟨20002, ?_⟩
  have hj1 : caulklaw12_SpaceTells.j0 20002 l0 l1 a2 a3 true = some true := by
    simp only [caulklaw12_SpaceTells.j0, if_true]
    rw [lives_eq _ (by omega)]; rfl
  have hj2 : l0.length ≤ 5000 → l1.length ≤ 300 → caulklaw12_SpaceTells.j0 20002 l0 l1 a2 a3 false = some true := by
    intro h0 h1
    have tl := turnGo_length l0 false 4 l1 l0 rfl
    have tg := turnGo_length l0 true 3 l1 l0 rfl
    have nl := newP_length a3
    have fl := fN_le l0 true l0.length
    have hT : tN l0 a2 = tN l0 a2 := rfl
    have htl : (tN l0 a2).length ≤ 5000 := by
      unfold tN
      exact Nat.le_trans (List.length_take_le' _ _) (Nat.le_trans (fN_le l0 false l0.length) h0)
    have s3 : ∀ (x : List Bool × List Int × Int), x = (if a2 < 0 then (l0, [], 1) else if freeI l0 < a2 then (l0, [], 11) else (setN true l0 (tN l0 a2), (tN l0 a2).map (fun x : Nat => (x : Int)), 0)) → x.1.length ≤ 5000 ∧ x.2.1.length ≤ 5000 := by
      rintro x rfl
      split
      · exact ⟨h0, by simp⟩
      · split
        · exact ⟨h0, by simp⟩
        · exact ⟨by rw [setN_length]; exact h0, by simpa using htl⟩
    simp only [caulklaw12_SpaceTells.j0, Bool.false_eq_true, if_false]
    rw [Mark_eq l0 l1 h0 (by omega) 20001 (by omega), refMark_eq l0 l1 h0 (by omega) 20001 (by omega), Give_eq l0 l1 h0 (by omega) 20001 (by omega), refGive_eq l0 l1 h0 (by omega) 20001 (by omega),
      space_Take_eq l0 a2 h0, refTake_eq l0 a2 h0 20001 (by omega), New_eq a3 20001 (by omega), refNew_eq a3, lives_eq 20001 (by omega), space_Free_eq l0 h0, refFree_eq l0 h0 20001 (by omega), space_Used_eq l0 h0, refUsed_eq l0 h0 20001 (by omega)]
    generalize hx : (if a2 < 0 then (l0, [], 1) else if freeI l0 < a2 then (l0, [], 11) else (setN true l0 (tN l0 a2), (tN l0 a2).map (fun x : Nat => (x : Int)), 0) : List Bool × List Int × Int) = x
    obtain ⟨x1, x2⟩ := s3 x hx.symm
    simp only [Option.bind_some, if_true]
    rw [same12 _ (by omega) 20001 (by omega), Option.bind_some, if_pos rfl, same12 _ (by omega) 20001 (by omega), Option.bind_some, if_pos rfl, same12 _ x1 20001 (by omega), Option.bind_some, if_pos rfl, same05 _ x2 20001 (by omega), Option.bind_some, if_pos rfl,
      same12 _ (by omega) 20001 (by omega), Option.bind_some, if_pos rfl, same05 _ (by simp; omega) 20001 (by omega)]
    rfl
  unfold caulklaw12_SpaceTells.f
  by_cases c1 : a3 > 300
  · rw [if_pos c1]
    by_cases c2 : a3 ≤ 4096
    · rw [if_pos c2]; exact hj1
    · rw [if_neg c2]
      by_cases c3 : (l0.length : Int) > 5000
      · rw [if_pos c3]; exact hj1
      · rw [if_neg c3]
        by_cases c4 : (l1.length : Int) > 300
        · rw [decide_eq_true c4]; exact hj1
        · rw [decide_eq_false c4]; exact hj2 (by omega) (by omega)
  · rw [if_neg c1]
    by_cases c3 : (l0.length : Int) > 5000
    · rw [if_pos c3]; exact hj1
    · rw [if_neg c3]
      by_cases c4 : (l1.length : Int) > 300
      · rw [decide_eq_true c4]; exact hj1
      · rw [decide_eq_false c4]; exact hj2 (by omega) (by omega)
end Go.Proofs.Ytgiljibkjccgfaa.Pure
