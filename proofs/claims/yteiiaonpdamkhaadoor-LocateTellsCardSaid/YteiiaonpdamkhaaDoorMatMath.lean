/- Plain mathematics of matrices over the field of 256 elements. No condition. -/
import Derived.Test.YteiiaonpdamkhaaDoorGfMath
namespace Go.Proofs.YteiiaonpdamkhaaDoor.GfM

abbrev F := BitVec 8
/-- the sum of a list's values -/
def sumL {α : Type} (l : List α) (f : α → F) : F := l.foldr (fun x s => f x ^^^ s) 0#8
theorem sumL_nil {α : Type} (f : α → F) : sumL [] f = 0#8 := rfl
theorem sumL_cons {α : Type} (x : α) (l : List α) (f : α → F) : sumL (x :: l) f = f x ^^^ sumL l f := rfl
theorem sumL_xor {α : Type} (l : List α) (f g : α → F) : sumL l (fun x => f x ^^^ g x) = sumL l f ^^^ sumL l g := by
  induction l with
  | nil => simp [sumL_nil]
  | cons x l ih => simp only [sumL_cons]; rw [ih, xor_rot]
theorem sumL_mul {α : Type} (l : List α) (c : F) (f : α → F) : sumL l (fun x => mul c (f x)) = mul c (sumL l f) := by
  induction l with
  | nil => exact (mul_zero c).symm
  | cons x l ih => simp only [sumL_cons]; rw [ih, mul_xor_right]
theorem sumL_congr {α : Type} (l : List α) (f g : α → F) (h : ∀ x ∈ l, f x = g x) : sumL l f = sumL l g := by
  induction l with
  | nil => rfl
  | cons x l ih => simp only [sumL_cons]; rw [h x (by simp), ih (fun y hy => h y (by simp [hy]))]
theorem sumL_zero {α : Type} (l : List α) (f : α → F) (h : ∀ x ∈ l, f x = 0#8) : sumL l f = 0#8 := by
  induction l with
  | nil => rfl
  | cons x l ih => simp only [sumL_cons]; rw [h x (by simp), ih (fun y hy => h y (by simp [hy]))]; rfl

theorem xor_ne {a b : F} (h : a ≠ b) : a ^^^ b ≠ 0#8 := by
  intro e
  apply h
  have := congrArg (· ^^^ b) e
  simpa [BitVec.xor_assoc] using this
theorem inv_ne {a : F} (ha : a ≠ 0#8) : inv a ≠ 0#8 := by
  intro e
  have := mul_inv a ha
  rw [e, mul_zero] at this
  exact absurd this (by decide)
/-- c times (x + y), by x + y -/
theorem mul_left_comm (a b c : F) : mul a (mul b c) = mul b (mul a c) := by rw [← mul_assoc, mul_comm a b, mul_assoc]

/-- ANY SQUARE PART: values at the columns Y, whose weights by 1 / (x + y) sum to nought at as many x, are noughts. -/
theorem cauchy_zero {α : Type} (X : List F) : ∀ (Y : List α) (y v : α → F), X.length = Y.length → X.Nodup → Y.Pairwise (fun a b => y a ≠ y b) → (∀ x ∈ X, ∀ j ∈ Y, x ≠ y j) →
    (∀ x ∈ X, sumL Y (fun j => mul (v j) (inv (x ^^^ y j))) = 0#8) → ∀ j ∈ Y, v j = 0#8 := by
  induction X with
  | nil => intro Y y v hl _ _ _ _ j hj; have : Y = [] := List.eq_nil_of_length_eq_zero hl.symm; subst this; simp at hj
  | cons x1 X ih =>
    intro Y y v hl hX hY hne h0
    match Y, hl, hY, hne, h0 with
    | a :: Y, hl, hY, hne, h0 =>
    have hx1 : ∀ j ∈ a :: Y, x1 ^^^ y j ≠ 0#8 := fun j hj => xor_ne (hne x1 (by simp) j hj)
    obtain ⟨hx1X, hX'⟩ := List.nodup_cons.1 hX
    obtain ⟨haY, hY'⟩ := List.pairwise_cons.1 hY
    have f1 := h0 x1 (by simp)
    -- the weights with one column and one point less
    have hv : ∀ j ∈ Y, mul (v j) (mul (y a ^^^ y j) (inv (x1 ^^^ y j))) = 0#8 := by
      refine ih Y y (fun j => mul (v j) (mul (y a ^^^ y j) (inv (x1 ^^^ y j)))) (by simpa using hl) hX' hY' (fun x hx j hj => hne x (by simp [hx]) j (by simp [hj])) ?_
      intro x hx
      have fx := h0 x (by simp [hx])
      have hxx : x1 ^^^ x ≠ 0#8 := xor_ne (fun e => hx1X (e ▸ hx))
      -- (x1 + x) S = f(x) (x + ya) + f(x1) (x1 + ya)
      have key : ∀ j ∈ a :: Y, mul (x1 ^^^ x) (mul (mul (v j) (mul (y a ^^^ y j) (inv (x1 ^^^ y j)))) (inv (x ^^^ y j))) =
          mul (x ^^^ y a) (mul (v j) (inv (x ^^^ y j))) ^^^ mul (x1 ^^^ y a) (mul (v j) (inv (x1 ^^^ y j))) := by
        intro j hj
        have e1 := mul_inv _ (hx1 j hj)
        have e2 := mul_inv (x ^^^ y j) (xor_ne (hne x (by simp [hx]) j hj))
        generalize inv (x1 ^^^ y j) = p at *
        generalize inv (x ^^^ y j) = q at *
        have l : mul (x1 ^^^ x) (mul (mul (v j) (mul (y a ^^^ y j) p)) q) = mul (v j) (mul (mul (x1 ^^^ x) (y a ^^^ y j)) (mul p q)) := by
          rw [mul_assoc, mul_left_comm, mul_assoc, mul_assoc]
        have r : mul (x ^^^ y a) (mul (v j) q) ^^^ mul (x1 ^^^ y a) (mul (v j) p) = mul (v j) (mul (x ^^^ y a) q ^^^ mul (x1 ^^^ y a) p) := by
          rw [mul_left_comm, mul_left_comm (x1 ^^^ y a), ← mul_xor_right]
        rw [l, r]
        congr 1
        -- (x + ya) q + (x1 + ya) p = [(x + ya)(x1 + yj) + (x1 + ya)(x + yj)] p q
        have e3 : mul (x ^^^ y a) q = mul (mul (x ^^^ y a) (x1 ^^^ y j)) (mul p q) := by
          rw [mul_assoc, ← mul_assoc (x1 ^^^ y j), e1, one_mul]
        have e4 : mul (x1 ^^^ y a) p = mul (mul (x1 ^^^ y a) (x ^^^ y j)) (mul p q) := by
          rw [mul_assoc, mul_comm p q, ← mul_assoc (x ^^^ y j), e2, one_mul]
        rw [e3, e4, ← mul_xor_left]
        congr 1
        simp only [mul_xor_left, mul_xor_right]
        rw [mul_comm x1 x, mul_comm (y a) x, mul_comm (y a) x1]
        generalize mul x x1 = t1
        generalize mul x (y j) = t2
        generalize mul x1 (y a) = t3
        generalize mul (y a) (y j) = t4
        generalize mul x1 (y j) = t5
        generalize mul x (y a) = t6
        ext i hi; simp only [BitVec.getElem_xor]; cases t1[i] <;> cases t2[i] <;> cases t3[i] <;> cases t4[i] <;> cases t5[i] <;> cases t6[i] <;> rfl
      have tot : mul (x1 ^^^ x) (sumL (a :: Y) (fun j => mul (mul (v j) (mul (y a ^^^ y j) (inv (x1 ^^^ y j)))) (inv (x ^^^ y j)))) = 0#8 := by
        rw [← sumL_mul, sumL_congr _ _ _ key, sumL_xor, sumL_mul, sumL_mul, fx, f1, mul_zero, mul_zero]; rfl
      have z := (mul_eq_zero tot).resolve_left hxx
      rw [sumL_cons] at z
      rw [show y a ^^^ y a = 0#8 from by simp, zero_mul, mul_zero, zero_mul] at z
      simpa using z
    have hvY : ∀ j ∈ Y, v j = 0#8 := by
      intro j hj
      rcases mul_eq_zero (hv j hj) with h | h
      · exact h
      · rcases mul_eq_zero h with h | h
        · exact absurd h (xor_ne (haY j hj))
        · exact absurd h (inv_ne (hx1 j (by simp [hj])))
    intro j hj
    rcases List.mem_cons.1 hj with rfl | hj
    · rw [sumL_cons, sumL_zero Y _ (fun k hk => by rw [hvY k hk, zero_mul])] at f1
      have f1' : mul (v j) (inv (x1 ^^^ y j)) = 0#8 := by simpa using f1
      exact (mul_eq_zero f1').resolve_right (inv_ne (hx1 j (by simp)))
    · exact hvY j hj

end Go.Proofs.YteiiaonpdamkhaaDoor.GfM
namespace Go.Proofs.YteiiaonpdamkhaaDoor.GfM
abbrev Mx := Nat → Nat → F
def sumN : Nat → (Nat → F) → F
  | 0, _ => 0#8
  | n + 1, f => sumN n f ^^^ f n
theorem sumN_congr {f g : Nat → F} : ∀ {n : Nat}, (∀ k, k < n → f k = g k) → sumN n f = sumN n g
  | 0, _ => rfl
  | n + 1, h => by rw [sumN, sumN, sumN_congr (n := n) (fun k hk => h k (by omega)), h n (by omega)]
theorem sumN_xor (f g : Nat → F) : ∀ n : Nat, sumN n (fun k => f k ^^^ g k) = sumN n f ^^^ sumN n g
  | 0 => by simp [sumN]
  | n + 1 => by rw [sumN, sumN, sumN, sumN_xor f g n, xor_rot]
theorem sumN_mul (c : F) (f : Nat → F) : ∀ n : Nat, sumN n (fun k => mul c (f k)) = mul c (sumN n f)
  | 0 => (mul_zero c).symm
  | n + 1 => by rw [sumN, sumN, sumN_mul c f n, mul_xor_right]
theorem sumN_mul_right (c : F) (f : Nat → F) : ∀ n : Nat, sumN n (fun k => mul (f k) c) = mul (sumN n f) c
  | 0 => (zero_mul c).symm
  | n + 1 => by rw [sumN, sumN, sumN_mul_right c f n, mul_xor_left]
theorem sumN_zero {f : Nat → F} : ∀ {n : Nat}, (∀ k, k < n → f k = 0#8) → sumN n f = 0#8
  | 0, _ => rfl
  | n + 1, h => by rw [sumN, sumN_zero (n := n) (fun k hk => h k (by omega)), h n (by omega)]; rfl
theorem sumN_one {f : Nat → F} {i : Nat} : ∀ {n : Nat}, i < n → (∀ k, k < n → k ≠ i → f k = 0#8) → sumN n f = f i
  | n + 1, hi, h => by
    rw [sumN]
    by_cases e : i = n
    · subst e
      rw [sumN_zero (fun k hk => h k (by omega) (by omega))]; simp
    · rw [sumN_one (n := n) (by omega) (fun k hk hne => h k (by omega) hne), h n (by omega) (fun e' => e e'.symm)]; simp
theorem sumN_two {f : Nat → F} {i j : Nat} : ∀ {n : Nat}, i < n → j < n → i ≠ j → (∀ k, k < n → k ≠ i → k ≠ j → f k = 0#8) → sumN n f = f i ^^^ f j
  | n + 1, hi, hj, hne, h => by
    rw [sumN]
    by_cases e : i = n
    · subst e
      rw [sumN_one (n := i) (i := j) (by omega) (fun k hk hk2 => h k (by omega) (by omega) hk2), BitVec.xor_comm]
    · by_cases e2 : j = n
      · subst e2
        rw [sumN_one (n := j) (i := i) (by omega) (fun k hk hk2 => h k (by omega) hk2 (by omega))]
      · rw [sumN_two (n := n) (by omega) (by omega) hne (fun k hk h1 h2 => h k (by omega) h1 h2), h n (by omega) (fun e' => e e'.symm) (fun e' => e2 e'.symm)]; simp
theorem sumN_swap (f : Nat → Nat → F) (m : Nat) : ∀ n : Nat, sumN n (fun i => sumN m (fun j => f i j)) = sumN m (fun j => sumN n (fun i => f i j))
  | 0 => (sumN_zero (fun _ _ => rfl)).symm
  | n + 1 => by rw [sumN, sumN_swap f m n, ← sumN_xor]; rfl
/-- The product of a matrix of n columns with one of n rows. -/
def mm (n : Nat) (A B : Mx) : Mx := fun i j => sumN n fun k => mul (A i k) (B k j)
def idm : Mx := fun i j => if i = j then 1#8 else 0#8
theorem mm_assoc (n p : Nat) (A B C : Mx) (i j : Nat) : mm p (mm n A B) C i j = mm n A (mm p B C) i j := by
  unfold mm
  have e1 : ∀ k, mul (sumN n fun l => mul (A i l) (B l k)) (C k j) = sumN n fun l => mul (A i l) (mul (B l k) (C k j)) := by
    intro k
    rw [← sumN_mul_right]
    exact sumN_congr fun l _ => mul_assoc _ _ _
  rw [sumN_congr (fun k _ => e1 k), sumN_swap]
  exact sumN_congr fun l _ => by rw [← sumN_mul]
theorem mm_id_left {n i : Nat} (hi : i < n) (B : Mx) (j : Nat) : mm n idm B i j = B i j := by
  unfold mm
  rw [sumN_one hi (fun k _ hne => by simp [idm, Ne.symm hne, zero_mul])]
  simp [idm, one_mul]
theorem mm_id_right {n j : Nat} (hj : j < n) (A : Mx) (i : Nat) : mm n A idm i j = A i j := by
  unfold mm
  rw [sumN_one hj (fun k _ hne => by simp [idm, hne, mul_zero])]
  simp [idm, mul_one]
theorem mm_congr {n : Nat} {A A' B B' : Mx} {i j : Nat} (ha : ∀ k, k < n → A i k = A' i k) (hb : ∀ k, k < n → B k j = B' k j) : mm n A B i j = mm n A' B' i j :=
  sumN_congr fun k hk => by rw [ha k hk, hb k hk]
/-- Two matrices are one, in n rows and p columns. -/
def EqM (n p : Nat) (A B : Mx) : Prop := ∀ i, i < n → ∀ j, j < p → A i j = B i j
/-- Nothing but nought becomes nought. -/
def Inj (n : Nat) (A : Mx) : Prop := ∀ v : Nat → F, (∀ i, i < n → mm n A (fun k _ => v k) i 0 = 0#8) → ∀ k, k < n → v k = 0#8
def swapX (i j : Nat) (A : Mx) : Mx := fun r c => A (if r = i then j else if r = j then i else r) c
def scaleX (i : Nat) (x : F) (A : Mx) : Mx := fun r c => if r = i then mul x (A r c) else A r c
def clearX (i : Nat) (L A : Mx) : Mx := fun r c => if r = i then A r c else A r c ^^^ mul (L r i) (A i c)
theorem mm_swap (n i j : Nat) (A B : Mx) (r c : Nat) : mm n (swapX i j A) B r c = swapX i j (mm n A B) r c := rfl
theorem mm_scale (n i : Nat) (x : F) (A B : Mx) (r c : Nat) : mm n (scaleX i x A) B r c = scaleX i x (mm n A B) r c := by
  unfold mm scaleX
  by_cases e : r = i
  · simp only [e, if_true]
    rw [← sumN_mul]
    exact sumN_congr fun k _ => mul_assoc _ _ _
  · simp only [if_neg e]
theorem mm_clear (n i : Nat) (L A B : Mx) (r c : Nat) : mm n (clearX i L A) B r c = clearX i L (mm n A B) r c := by
  unfold mm clearX
  by_cases e : r = i
  · simp only [e, if_true]
  · simp only [if_neg e]
    rw [← sumN_mul, ← sumN_xor]
    exact sumN_congr fun k _ => by rw [mul_xor_left, mul_assoc]
theorem Inj.swap {n i j : Nat} {A : Mx} (h : Inj n A) (hi : i < n) (hj : j < n) : Inj n (swapX i j A) := by
  intro v hv
  apply h v
  intro r hr
  by_cases e1 : r = i
  · have := hv j hj
    rw [mm_swap] at this
    unfold swapX at this
    by_cases e : j = i
    · rw [if_pos e] at this; rw [e1, ← e]; exact this
    · rw [if_neg e, if_pos rfl] at this; rw [e1]; exact this
  · by_cases e2 : r = j
    · have := hv i hi
      rw [mm_swap] at this
      unfold swapX at this
      rw [if_pos rfl] at this
      rw [e2]; exact this
    · have := hv r hr
      rw [mm_swap] at this
      unfold swapX at this
      rwa [if_neg e1, if_neg e2] at this
theorem Inj.scale {n i : Nat} {x : F} {A : Mx} (h : Inj n A) (hx : x ≠ 0#8) : Inj n (scaleX i x A) := by
  intro v hv
  apply h v
  intro r hr
  have := hv r hr
  rw [mm_scale] at this
  unfold scaleX at this
  by_cases e : r = i
  · rw [if_pos e] at this
    exact (mul_eq_zero this).resolve_left hx
  · rwa [if_neg e] at this
theorem Inj.clear {n i : Nat} {L A : Mx} (h : Inj n A) (hi : i < n) : Inj n (clearX i L A) := by
  intro v hv
  apply h v
  have h0 := hv i hi
  rw [mm_clear] at h0
  unfold clearX at h0
  rw [if_pos rfl] at h0
  intro r hr
  have := hv r hr
  rw [mm_clear] at this
  unfold clearX at this
  by_cases e : r = i
  · rw [e]; exact h0
  · rw [if_neg e, h0, mul_zero] at this
    simpa using this
theorem Inj_idm (n : Nat) : Inj n idm := by
  intro v hv k hk
  have := hv k hk
  rwa [mm_id_left hk] at this
/-- The first row from 'i' on (d rows are left) that has something in column 'c'. -/
def pivotX (L : Mx) (c : Nat) : Nat → Nat → Option Nat
  | 0, _ => none
  | d + 1, i => if L i c ≠ 0#8 then some i else pivotX L c d (i + 1)
theorem pivotX_some {L : Mx} {c : Nat} : ∀ {d i p : Nat}, pivotX L c d i = some p → i ≤ p ∧ p < i + d ∧ L p c ≠ 0#8
  | d + 1, i, p, h => by
    unfold pivotX at h
    by_cases e : L i c ≠ 0#8
    · rw [if_pos e] at h
      obtain rfl := Option.some.inj h
      exact ⟨Nat.le_refl _, by omega, e⟩
    · rw [if_neg e] at h
      obtain ⟨a, b, c'⟩ := pivotX_some h
      exact ⟨by omega, by omega, c'⟩
theorem pivotX_none {L : Mx} {c : Nat} : ∀ {d i : Nat}, pivotX L c d i = none → ∀ r, i ≤ r → r < i + d → L r c = 0#8
  | 0, i, _, r, h1, h2 => by omega
  | d + 1, i, h, r, h1, h2 => by
    unfold pivotX at h
    by_cases e : L i c ≠ 0#8
    · rw [if_pos e] at h; cases h
    · rw [if_neg e] at h
      by_cases e2 : r = i
      · subst e2; simpa using e
      · exact pivotX_none h r (by omega) (by omega)
theorem pivotX_congr {L L' : Mx} {c : Nat} : ∀ {d i : Nat}, (∀ r, i ≤ r → r < i + d → L r c = L' r c) → pivotX L c d i = pivotX L' c d i
  | 0, _, _ => rfl
  | d + 1, i, h => by
    unfold pivotX
    rw [h i (Nat.le_refl _) (by omega), pivotX_congr (d := d) (i := i + 1) (fun r h1 h2 => h r (by omega) (by omega))]
/-- One step: a row with something in column c is swapped up, made 1 there, and taken from the others. -/
def turnX (c p : Nat) (L A : Mx) : Mx := clearX c (scaleX c (inv (swapX c p L c c)) (swapX c p L)) (scaleX c (inv (swapX c p L c c)) (swapX c p A))
/-- The steps from column c on; d are left. -/
def elimX (n : Nat) : Nat → Nat → Mx → Mx → Option Mx
  | 0, _, _, R => some R
  | d + 1, c, L, R => match pivotX L c (n - c) c with
    | none => none
    | some p => elimX n d (c + 1) (turnX c p L L) (turnX c p L R)
theorem mm_turn (n c p : Nat) (L A B : Mx) (r k : Nat) : mm n (turnX c p L A) B r k = turnX c p L (mm n A B) r k := by
  unfold turnX
  rw [mm_clear]
  unfold clearX
  rw [mm_scale, mm_scale]
  rfl
theorem turnX_congr {n q c p : Nat} {L L' A A' : Mx} (hc : c < n) (hp : p < n) (hq : c < q) (hL : EqM n q L L') {m : Nat} (hA : EqM n m A A') : EqM n m (turnX c p L A) (turnX c p L' A') := by
  intro r hr k hk
  have e1 : ∀ x, x < n → (if x = c then p else if x = p then c else x) < n := by
    intro x hx; split
    · exact hp
    · split
      · exact hc
      · exact hx
  unfold turnX clearX scaleX swapX
  simp only [if_true]
  rw [hL _ hp _ hq]
  by_cases e : r = c
  · simp only [if_pos e]
    rw [hA _ hp _ hk]
  · simp only [if_neg e]
    have e2 : (if r = p then c else r) < n := by split <;> omega
    rw [hA _ e2 _ hk, hA _ hp _ hk, hL _ e2 _ hq]
/-- What the steps keep. -/
structure Turned (n c : Nat) (m L R : Mx) : Prop where
  prod : EqM n n L (mm n R m)
  inj : Inj n R
  unit : ∀ k, k < c → ∀ r, r < n → L r k = idm r k
theorem Turned.step {n c p : Nat} {m L R : Mx} (h : Turned n c m L R) (hc : c < n) (h1 : c ≤ p) (h2 : p < n) (h3 : L p c ≠ 0#8) : Turned n (c + 1) m (turnX c p L L) (turnX c p L R) := by
  have hpv : swapX c p L c c ≠ 0#8 := by unfold swapX; rw [if_pos rfl]; exact h3
  have hcc : mul (inv (swapX c p L c c)) (swapX c p L c c) = 1#8 := by rw [mul_comm]; exact mul_inv _ hpv
  refine ⟨?_, ?_, ?_⟩
  · intro r hr k hk
    rw [mm_turn]
    exact turnX_congr hc h2 hc (fun _ _ _ _ => rfl) h.prod r hr k hk
  · exact ((h.inj.swap hc h2).scale (inv_ne hpv)).clear hc
  · intro k hk r hr
    have hz : ∀ x, x < n → c ≤ x → k < c → swapX c p L x k = 0#8 := by
      intro x hx hx2 hk2
      unfold swapX
      have : ∀ y, y < n → c ≤ y → L y k = 0#8 := fun y hy hy2 => by rw [h.unit k hk2 y hy]; unfold idm; rw [if_neg (by omega)]
      split
      · exact this p h2 h1
      · split
        · exact this c hc (Nat.le_refl _)
        · exact this x hx hx2
    unfold turnX clearX
    by_cases e : r = c
    · simp only [if_pos e]
      unfold scaleX
      rw [if_pos e]
      by_cases ek : k = c
      · rw [ek, e, hcc]; simp [idm]
      · rw [e, hz c hc (Nat.le_refl _) (by omega), mul_zero]; unfold idm; rw [if_neg (by omega)]
    · simp only [if_neg e]
      have er : ∀ q, scaleX c (inv (swapX c p L c c)) (swapX c p L) r q = swapX c p L r q := fun q => by unfold scaleX; rw [if_neg e]
      have ec : ∀ q, scaleX c (inv (swapX c p L c c)) (swapX c p L) c q = mul (inv (swapX c p L c c)) (swapX c p L c q) := fun q => by unfold scaleX; rw [if_pos rfl]
      rw [er, er, ec]
      by_cases ek : k = c
      · rw [ek, hcc, mul_one]; unfold idm; rw [if_neg e]; simp
      · have hk2 : k < c := by omega
        rw [hz c hc (Nat.le_refl _) hk2, mul_zero, mul_zero]
        by_cases e2 : r < c
        · have : swapX c p L r k = L r k := by unfold swapX; rw [if_neg e, if_neg (by omega)]
          rw [this, h.unit k hk2 r hr]; simp
        · rw [hz r hr (by omega) hk2]; unfold idm; rw [if_neg (by omega)]; simp
theorem Turned.stuck {n c : Nat} {m L R : Mx} (h : Turned n c m L R) (hc : c < n) (h0 : ∀ r, c ≤ r → r < n → L r c = 0#8) : ¬ Inj n m := by
  intro hm
  have key : ∀ i, i < n → mm n L (fun k _ => if k < c then L k c else if k = c then 1#8 else 0#8) i 0 = 0#8 := by
    intro i hi
    unfold mm
    by_cases hic : i < c
    · rw [sumN_two (i := i) (j := c) hi hc (by omega)]
      · have e1 : ¬ c < c := by omega
        dsimp only
        rw [h.unit i hic i hi, if_pos hic, if_neg e1, if_pos rfl]
        simp [idm, one_mul, mul_one]
      · intro k hk h1 h2
        by_cases hkc : k < c
        · rw [h.unit k hkc i hi]; unfold idm; rw [if_neg (by omega), zero_mul]
        · dsimp only
          rw [if_neg hkc, if_neg h2, mul_zero]
    · apply sumN_zero
      intro k hk
      by_cases hkc : k < c
      · rw [h.unit k hkc i hi]; unfold idm; rw [if_neg (by omega), zero_mul]
      · by_cases e : k = c
        · rw [e, h0 i (by omega) hi, zero_mul]
        · dsimp only
          rw [if_neg hkc, if_neg e, mul_zero]
  have h2 := hm (fun k => if k < c then L k c else if k = c then 1#8 else 0#8) ?_ c hc
  · simp at h2
  · intro i hi
    have h3 := h.inj (fun k => mm n m (fun k _ => if k < c then L k c else if k = c then 1#8 else 0#8) k 0) ?_ i hi
    · exact h3
    · intro r hr
      have e1 : mm n R (fun k _ => mm n m (fun k _ => if k < c then L k c else if k = c then 1#8 else 0#8) k 0) r 0 = mm n R (mm n m (fun k _ => if k < c then L k c else if k = c then 1#8 else 0#8)) r 0 := rfl
      rw [e1, ← mm_assoc]
      refine Eq.trans ?_ (key r hr)
      exact mm_congr (fun k hk => (h.prod r hr k hk).symm) (fun _ _ => rfl)
theorem elimX_some {n : Nat} {m : Mx} : ∀ {d c : Nat} {L R X : Mx}, c + d = n → Turned n c m L R → elimX n d c L R = some X → Turned n n m (mm n X m) X
  | 0, c, L, R, X, hcd, h, he => by
    obtain rfl : R = X := Option.some.inj he
    refine ⟨fun _ _ _ _ => rfl, h.inj, fun k hk r hr => ?_⟩
    rw [← h.prod r hr k hk]
    exact h.unit k (by omega) r hr
  | d + 1, c, L, R, X, hcd, h, he => by
    unfold elimX at he
    cases hp : pivotX L c (n - c) c with
    | none => rw [hp] at he; cases he
    | some p =>
      rw [hp] at he
      obtain ⟨h1, h2, h3⟩ := pivotX_some hp
      exact elimX_some (by omega) (h.step (by omega) h1 (by omega) h3) he
theorem elimX_none {n : Nat} {m : Mx} : ∀ {d c : Nat} {L R : Mx}, c + d = n → Turned n c m L R → elimX n d c L R = none → ¬ Inj n m
  | 0, _, _, _, _, _, he => by cases he
  | d + 1, c, L, R, hcd, h, he => by
    unfold elimX at he
    cases hp : pivotX L c (n - c) c with
    | none => exact h.stuck (by omega) (fun r h1 h2 => pivotX_none hp r h1 (by omega))
    | some p =>
      rw [hp] at he
      obtain ⟨h1, h2, h3⟩ := pivotX_some hp
      exact elimX_none (by omega) (h.step (by omega) h1 (by omega) h3) he
theorem Turned.start (n : Nat) (m : Mx) : Turned n 0 m m idm := ⟨fun _ hi j _ => (mm_id_left hi m j).symm, Inj_idm n, fun k hk => absurd hk (Nat.not_lt_zero k)⟩
/-- Turning a matrix to the unit. -/
def invX (n : Nat) (m : Mx) : Option Mx := elimX n n 0 m idm
theorem inv_left {n : Nat} {m X : Mx} (h : invX n m = some X) : EqM n n (mm n X m) idm := fun i hi j hj => (elimX_some (by omega) (Turned.start n m) h).unit j hj i hi
theorem inv_of_inj {n : Nat} {m : Mx} (h : Inj n m) : ∃ X, invX n m = some X := by
  cases e : invX n m with
  | some X => exact ⟨X, rfl⟩
  | none => exact absurd h (elimX_none (by omega) (Turned.start n m) e)
theorem elimX_congr {n : Nat} : ∀ {d c : Nat} {L L' R R' : Mx}, c + d = n → EqM n n L L' → EqM n n R R' → (elimX n d c L R).isSome = (elimX n d c L' R').isSome ∧ ∀ X X', elimX n d c L R = some X → elimX n d c L' R' = some X' → EqM n n X X'
  | 0, c, L, L', R, R', _, _, hR => ⟨rfl, fun X X' h h' => by
    obtain rfl : R = X := Option.some.inj h
    obtain rfl : R' = X' := Option.some.inj h'
    exact hR⟩
  | d + 1, c, L, L', R, R', hcd, hL, hR => by
    have e : pivotX L c (n - c) c = pivotX L' c (n - c) c := pivotX_congr (fun r h1 h2 => hL r (by omega) c (by omega))
    unfold elimX
    rw [e]
    cases hp : pivotX L' c (n - c) c with
    | none => exact ⟨rfl, fun X X' h => by cases h⟩
    | some p =>
      obtain ⟨h1, h2, _⟩ := pivotX_some hp
      exact elimX_congr (d := d) (c := c + 1) (by omega) (turnX_congr (by omega) (by omega) (by omega) hL hL) (turnX_congr (by omega) (by omega) (by omega) hL hR)
end Go.Proofs.YteiiaonpdamkhaaDoor.GfM
