/- A matrix in memory over this seat's types, and what each store and call makes of it. Conditions: each lemma's own. -/
import Derived.Test.YteiiaonpdamkhaaDoorGfArr
import Derived.Test.YteiiaonpdamkhaaDoorMatMath
namespace Go.Proofs.YteiiaonpdamkhaaDoor.G
open Go.RowKit Go.Proofs.YteiiaonpdamkhaaDoorW.PrintWords Go.Proofs.YteiiaonpdamkhaaDoorW.PrintLast Go.Proofs.YteiiaonpdamkhaaDoorW.PrintMore
set_option linter.unusedVariables false
set_option linter.unusedSimpArgs false

/-- A matrix (n rows, p columns) in memory: block gm holds the rows' slices, row i lies in block g i from o i on. Nothing of it lies below B. -/
structure Mat (B : Nat) (w : World) (gm cm n p : Nat) (g o c : Nat → Nat) (A : GfM.Mx) : Prop where
  out : ∃ cells, w.heap[gm]? = some (.cells cells 76 (0, 0)) ∧ cells.size = cm ∧ ∀ i, i < n → cells[i]? = some (.slice (some ⟨g i, o i, none⟩) p (c i))
  row : ∀ i, i < n → ∃ cur, w.heap[g i]? = some (.cells cur 5 (0, 0)) ∧ ∀ j, j < p → cur[o i + j]? = some (.int .u8 ((A i j).toNat : Int))
  sep : ∀ i, i < n → ∀ k, k < n → i ≠ k → g i = g k → o i + p ≤ o k ∨ o k + p ≤ o i
  ne : ∀ i, i < n → g i ≠ gm
  cap : ∀ i, i < n → p ≤ c i
  low : ∀ i, i < n → B ≤ g i
  lowm : B ≤ gm
namespace Mat
variable {B gm cm n p : Nat} {w w1 : World} {g o c : Nat → Nat} {A A' : GfM.Mx}
theorem load (h : Mat B w gm cm n p g o c A) {i : Nat} (hi : i < n) : w.cell? ⟨gm, i, none⟩ = some (.slice (some ⟨g i, o i, none⟩) p (c i)) := by
  obtain ⟨cells, hb, hs, hc⟩ := h.out
  rw [blk_cell hb, hc i hi]
theorem froz (h : Mat B w gm cm n p g o c A) (i : Nat) : w.frozen? ⟨gm, i, none⟩ = false := by
  obtain ⟨cells, hb, hs, hc⟩ := h.out
  exact blk_frozen hb i
theorem cell (h : Mat B w gm cm n p g o c A) {i j : Nat} (hi : i < n) (hj : j < p) : w.cell? ⟨g i, o i + j, none⟩ = some (.int .u8 ((A i j).toNat : Int)) := by
  obtain ⟨cur, hb, hc⟩ := h.row i hi
  rw [blk_cell hb, hc j hj]
theorem frozen (h : Mat B w gm cm n p g o c A) {i : Nat} (hi : i < n) (j : Nat) : w.frozen? ⟨g i, j, none⟩ = false := by
  obtain ⟨cur, hb, hc⟩ := h.row i hi
  exact blk_frozen hb j
theorem ltm (h : Mat B w gm cm n p g o c A) : gm < w.heap.size := by obtain ⟨cells, hb, _, _⟩ := h.out; exact blk_lt hb
theorem lt (h : Mat B w gm cm n p g o c A) {i : Nat} (hi : i < n) : g i < w.heap.size := by obtain ⟨cur, hb, _⟩ := h.row i hi; exact blk_lt hb
/-- The blocks from B on stay. -/
theorem keep (h : Mat B w gm cm n p g o c A) (hk : ∀ k, B ≤ k → k < w.heap.size → w1.heap[k]? = w.heap[k]?) : Mat B w1 gm cm n p g o c A := by
  refine ⟨?_, ?_, h.sep, h.ne, h.cap, h.low, h.lowm⟩
  · obtain ⟨cells, hb, hs, hc⟩ := h.out
    exact ⟨cells, (hk gm h.lowm (blk_lt hb)).trans hb, hs, hc⟩
  · intro i hi
    obtain ⟨cur, hb, hc⟩ := h.row i hi
    exact ⟨cur, (hk _ (h.low i hi) (blk_lt hb)).trans hb, hc⟩
theorem below (h : Mat B w gm cm n p g o c A) (hb : Below w.heap.size w w1) : Mat B w1 gm cm n p g o c A := h.keep fun k _ hk => hb.block k hk
theorem alloc (h : Mat B w gm cm n p g o c A) (x : Obj) : Mat B (w.alloc x) gm cm n p g o c A := h.below ((Below.refl _ w).alloc (Nat.le_refl _) x)
theorem drewN (h : Mat B w gm cm n p g o c A) (m : Nat) : Mat B (w.drewN m) gm cm n p g o c A := h.below (pw_below_drewN (Below.refl _ w) m)
theorem drew (h : Mat B w gm cm n p g o c A) : Mat B w.drew gm cm n p g o c A := h.below (Below.refl _ w).drew
/-- Another block is stored to. -/
theorem far (h : Mat B w gm cm n p g o c A) {a : Addr} (hm : gm ≠ a.block) (hg : ∀ i, i < n → g i ≠ a.block) (u : Value) : Mat B (w.setCell a u) gm cm n p g o c A := by
  refine ⟨?_, ?_, h.sep, h.ne, h.cap, h.low, h.lowm⟩
  · obtain ⟨cells, hb, hs, hc⟩ := h.out
    exact ⟨cells, blk_far hb hm u, hs, hc⟩
  · intro i hi
    obtain ⟨cur, hb, hc⟩ := h.row i hi
    exact ⟨cur, blk_far hb (hg i hi) u, hc⟩
theorem lower (h : Mat B w gm cm n p g o c A) {B' : Nat} (hb : B' ≤ B) : Mat B' w gm cm n p g o c A := ⟨h.out, h.row, h.sep, h.ne, h.cap, fun i hi => Nat.le_trans hb (h.low i hi), Nat.le_trans hb h.lowm⟩
theorem congr (h : Mat B w gm cm n p g o c A) (ha : ∀ i, i < n → ∀ j, j < p → A i j = A' i j) : Mat B w gm cm n p g o c A' := by
  refine ⟨h.out, ?_, h.sep, h.ne, h.cap, h.low, h.lowm⟩
  intro i hi
  obtain ⟨cur, hb, hc⟩ := h.row i hi
  exact ⟨cur, hb, fun j hj => by rw [hc j hj, ha i hi j hj]⟩
/-- One row is written: its block's cells have turned inside of the row alone. -/
theorem setRow (h : Mat B w gm cm n p g o c A) {i : Nat} (hi : i < n) {cur cur' : Array Value} {f : Nat → GfM.F} (h0 : w.heap[g i]? = some (.cells cur 5 (0, 0))) (h1 : w1.heap[g i]? = some (.cells cur' 5 (0, 0)))
    (hk : ∀ k, k ≠ g i → k < w.heap.size → w1.heap[k]? = w.heap[k]?) (hout : ∀ k, k < o i ∨ o i + p ≤ k → cur'[k]? = cur[k]?) (hin : ∀ j, j < p → cur'[o i + j]? = some (.int .u8 ((f j).toNat : Int))) :
    Mat B w1 gm cm n p g o c (fun r k => if r = i then f k else A r k) := by
  refine ⟨?_, ?_, h.sep, h.ne, h.cap, h.low, h.lowm⟩
  · obtain ⟨cells, hb, hs, hc⟩ := h.out
    exact ⟨cells, (hk gm (fun e => h.ne i hi e.symm) (blk_lt hb)).trans hb, hs, hc⟩
  · intro r hr
    by_cases e : r = i
    · subst e
      exact ⟨cur', h1, fun j hj => by rw [hin j hj, if_pos rfl]⟩
    · obtain ⟨cur2, hb, hc⟩ := h.row r hr
      by_cases eg : g r = g i
      · rw [eg] at hb
        rw [hb] at h0
        injection h0 with h0
        injection h0 with h0 _
        subst h0
        refine ⟨cur', by rw [eg]; exact h1, fun j hj => ?_⟩
        rw [hout _ (by rcases h.sep r hr i hi e eg with hs2 | hs2 <;> omega), hc j hj, if_neg e]
      · exact ⟨cur2, (hk _ eg (blk_lt hb)).trans hb, fun j hj => by rw [hc j hj, if_neg e]⟩
theorem setCell (h : Mat B w gm cm n p g o c A) {i j : Nat} (hi : i < n) (hj : j < p) (x : GfM.F) : Mat B (w.setCell ⟨g i, o i + j, none⟩ (.int .u8 (x.toNat : Int))) gm cm n p g o c (fun r k => if r = i ∧ k = j then x else A r k) := by
  obtain ⟨cur, hb, hc⟩ := h.row i hi
  have hsz : o i + j < cur.size := by have := hc j hj; exact (Array.getElem?_eq_some_iff.1 this).1
  refine (h.setRow hi (f := fun k => if k = j then x else A i k) hb (blk_set hb _ _) (fun k hk _ => Below.heap_setCell w _ _ k hk) (fun k hk => ?_) (fun k hk => ?_)).congr (fun r hr k hk => ?_)
  · rw [Array.getElem?_setIfInBounds, if_neg (by omega)]
  · rw [Array.getElem?_setIfInBounds]
    by_cases e : k = j
    · subst e; rw [if_pos rfl, if_pos hsz, if_pos rfl]
    · rw [if_neg (by omega), hc k hk, if_neg e]
  · by_cases e1 : r = i
    · by_cases e2 : k = j
      · simp [e1, e2]
      · simp [e1, e2]
    · simp [e1]
/-- Two rows are swapped. -/
theorem swap (h : Mat B w gm cm n p g o c A) {i j : Nat} (hi : i < n) (hj : j < n) :
    Mat B ((w.setCell ⟨gm, i, none⟩ (.slice (some ⟨g j, o j, none⟩) p (c j))).setCell ⟨gm, j, none⟩ (.slice (some ⟨g i, o i, none⟩) p (c i))) gm cm n p
      (fun r => g (if r = i then j else if r = j then i else r)) (fun r => o (if r = i then j else if r = j then i else r)) (fun r => c (if r = i then j else if r = j then i else r)) (GfM.swapX i j A) := by
  have hsw : ∀ r, r < n → (if r = i then j else if r = j then i else r) < n := by
    intro r hr; split
    · exact hj
    · split
      · exact hi
      · exact hr
  have hinj : ∀ r k : Nat, r ≠ k → (if r = i then j else if r = j then i else r) ≠ (if k = i then j else if k = j then i else k) := by
    intro r k hne; repeat' split
    all_goals omega
  refine ⟨?_, ?_, fun r hr k hk hne => h.sep _ (hsw r hr) _ (hsw k hk) (hinj r k hne), fun r hr => h.ne _ (hsw r hr), fun r hr => h.cap _ (hsw r hr), fun r hr => h.low _ (hsw r hr), h.lowm⟩
  · obtain ⟨cells, hb, hs, hc⟩ := h.out
    refine ⟨_, blk_set (blk_set hb _ _) _ _, by rw [Array.size_setIfInBounds, Array.size_setIfInBounds]; exact hs, fun r hr => ?_⟩
    have s1 : i < cells.size := (Array.getElem?_eq_some_iff.1 (hc i hi)).1
    have s2 : j < cells.size := (Array.getElem?_eq_some_iff.1 (hc j hj)).1
    rw [Array.getElem?_setIfInBounds, Array.getElem?_setIfInBounds, Array.size_setIfInBounds]
    by_cases e1 : j = r
    · subst e1
      rw [if_pos rfl, if_pos s2]
      by_cases e2 : j = i
      · subst e2; simp
      · rw [if_neg e2, if_pos rfl]
    · rw [if_neg e1]
      by_cases e2 : i = r
      · subst e2; rw [if_pos rfl, if_pos s1, if_pos rfl]
      · rw [if_neg e2, hc r hr, if_neg (Ne.symm e2), if_neg (Ne.symm e1)]
  · intro r hr
    obtain ⟨cur, hb, hc⟩ := h.row _ (hsw r hr)
    exact ⟨cur, blk_far (blk_far hb (h.ne _ (hsw r hr)) _) (h.ne _ (hsw r hr)) _, hc⟩
end Mat
/-- A row of the field's elements as numbers. -/
def rowL (p : Nat) (f : Nat → GfM.F) : List Int := (List.range p).map fun j => ((f j).toNat : Int)
theorem rowL_length (p : Nat) (f : Nat → GfM.F) : (rowL p f).length = p := by simp [rowL]
theorem rowL_get (p : Nat) (f : Nat → GfM.F) (j : Nat) (hj : j < p) : (rowL p f).getD j 0 = ((f j).toNat : Int) := by simp [rowL, List.getD_eq_getElem?_getD, hj]
theorem rowL_ext {p : Nat} {l : List Int} {f : Nat → GfM.F} (hl : l.length = p) (h : ∀ j, j < p → l.getD j 0 = ((f j).toNat : Int)) : l = rowL p f := by
  apply List.ext_getElem?
  intro j
  by_cases hj : j < p
  · have h1 := h j hj
    have h2 := rowL_get p f j hj
    rw [List.getD_eq_getElem?_getD, List.getElem?_eq_getElem (by omega)] at h1
    rw [List.getD_eq_getElem?_getD, List.getElem?_eq_getElem (by rw [rowL_length]; exact hj)] at h2
    rw [List.getElem?_eq_getElem (by omega), List.getElem?_eq_getElem (by rw [rowL_length]; exact hj)]
    simp only [Option.getD_some] at h1 h2
    rw [h1, h2]
  · rw [List.getElem?_eq_none (by omega), List.getElem?_eq_none (by rw [rowL_length]; omega)]
theorem rowL_congr {p : Nat} {f f' : Nat → GfM.F} (h : ∀ j, j < p → f j = f' j) : rowL p f = rowL p f' := by
  unfold rowL
  apply List.map_congr_left
  intro j hj
  rw [h j (List.mem_range.1 hj)]
/-- The matrix as lists. -/
def mxL (n p : Nat) (A : GfM.Mx) : List (List Int) := (List.range n).map fun i => rowL p (A i)
theorem mxL_length (n p : Nat) (A : GfM.Mx) : (mxL n p A).length = n := by simp [mxL]
theorem mxL_get (n p : Nat) (A : GfM.Mx) (i : Nat) (hi : i < n) : (mxL n p A)[i]? = some (rowL p (A i)) := by simp [mxL, hi]
theorem mxL_congr {n p : Nat} {A A' : GfM.Mx} (h : ∀ i, i < n → ∀ j, j < p → A i j = A' i j) : mxL n p A = mxL n p A' := by
  unfold mxL
  apply List.map_congr_left
  intro i hi
  exact rowL_congr (h i (List.mem_range.1 hi))
/-- Lists as a matrix. -/
def toMx (l : List (List Int)) : GfM.Mx := fun i j => el ((l.getD i []).getD j 0)
theorem toMx_mxL {n p : Nat} (A : GfM.Mx) {i j : Nat} (hi : i < n) (hj : j < p) : toMx (mxL n p A) i j = A i j := by
  have e : (mxL n p A).getD i [] = rowL p (A i) := by rw [List.getD_eq_getElem?_getD, mxL_get n p A i hi]; rfl
  unfold toMx
  rw [e, rowL_get p _ j hj]
  exact el_nat _
theorem putL_rowL (x : GfM.F) (p : Nat) (f s : Nat → GfM.F) : putL (x.toNat : Int) (rowL p s) (rowL p f) p = rowL p (fun j => f j ^^^ GfM.mul x (s j)) := by
  apply rowL_ext
  · rw [putL_length, rowL_length]
  · intro j hj
    have key : ∀ k, j < k → k ≤ p → (putL (x.toNat : Int) (rowL p s) (rowL p f) k).getD j 0 = ((f j ^^^ GfM.mul x (s j)).toNat : Int) := by
      intro k
      induction k with
      | zero => intro h; omega
      | succ k ih =>
        intro h1 h2
        unfold putL
        by_cases e : j = k
        · subst e
          rw [List.getD_eq_getElem?_getD, List.getElem?_set_self (by rw [putL_length, rowL_length]; omega), Option.getD_some, rowL_get p f j hj, rowL_get p s j hj]
          unfold mulI
          rw [el_nat, el_nat, ← g_xor8]
        · rw [List.getD_eq_getElem?_getD, List.getElem?_set_ne (by omega), ← List.getD_eq_getElem?_getD]
          exact ih (by omega) (by omega)
    exact key p hj (Nat.le_refl _)
theorem sonB {xs : List Int} (h : ∀ x ∈ xs, isB x) : bytesOf (strOfNums xs) = xs := by
  unfold bytesOf strOfNums
  simp only [List.map_map]
  conv => rhs; rw [← List.map_id xs]
  apply List.map_congr_left
  intro x hx
  have := h x hx
  unfold isB at this
  simp only [Function.comp, UInt8.toNat_ofNat', id]
  omega
/-- The text of a row. -/
def strX (p : Nat) (f : Nat → GfM.F) : ByteArray := strOfNums (rowL p f)
theorem strX_bytes (p : Nat) (f : Nat → GfM.F) : bytesOf (strX p f) = rowL p f := by
  unfold strX
  apply sonB
  intro x hx
  obtain ⟨j, _, rfl⟩ := List.mem_map.1 hx
  have := (f j).isLt
  exact ⟨by omega, by omega⟩
theorem strX_size (p : Nat) (f : Nat → GfM.F) : (strX p f).size = p := by rw [← bytesOf_length, strX_bytes, rowL_length]
theorem int_reads {W : World} {g o p : Nat} {f : Nat → GfM.F} (hp : p ≤ 9223372036854775807) (h : ∀ j, j < p → W.cell? ⟨g, o + j, none⟩ = some (.int .u8 ((f j).toNat : Int))) : Kd.C (Kd.int .u8) W (some ⟨g, o, none⟩) (rowL p f).length (rowL p f) := by
  refine Kd.C_of_reads (enc := Value.int .u8) (d := (0 : Int)) ⟨rfl, by rw [rowL_length]; exact hp, fun _ => ⟨_, rfl, fun j hj => ?_⟩⟩
  rw [rowL_length] at hj
  rw [rowL_get p f j hj]
  have : (⟨g, o, none⟩ : Addr).add j = ⟨g, o + j, none⟩ := by unfold Addr.add; split <;> simp_all
  rw [this]
  exact h j hj
/-- The matrix as what is handed back. -/
theorem Mat.N {B gm cm n p : Nat} {w : World} {g o c : Nat → Nat} {A : GfM.Mx} (h : Mat B w gm cm n p g o c A) (hn : n ≤ cm) (hcm : cm ≤ 9223372036854775807) (hp : p ≤ 9223372036854775807) :
    Kd.N (Kd.slice 5 (Kd.int .u8)) 76 w B (fun k_ => B ≤ k_) (.slice (some ⟨gm, 0, none⟩) n cm) (mxL n p A) := by
  obtain ⟨cells, hb, hs, hc⟩ := h.out
  have sz1 : (Kd.slice 5 (Kd.int .u8)).sz = 1 := rfl
  have hl : ((List.range n).map fun i => Value.slice (some ⟨g i, o i, none⟩) p (c i)).length = n := by simp
  refine ⟨fun k hk => ?_, (List.range n).map (fun i => [Value.slice (some ⟨g i, o i, none⟩) p (c i)]), by simp [mxL_length], ⟨fun k hk => hk.symm, (List.range n).map (fun i => Value.slice (some ⟨g i, o i, none⟩) p (c i)), ⟨by simp [Kd.raw, sz1], .inr ⟨gm, cm, cells, by simp, h.lowm, hb, by simpa using hn, hcm, by simp [Kd.raw, sz1]; exact hs, ?_⟩⟩, by simp [Kd.raw, sz1], fun j q hj => ?_⟩, fun j x q hx hq => ?_⟩
  · have : gm = k := by simpa [Value.ownBlock] using hk
    rw [← this]; exact h.lowm
  · apply List.ext_getElem?
    intro i
    by_cases hi : i < n
    · simp [Kd.raw, sz1, List.getElem?_take, hi]
      have := hc i hi
      simpa using this
    · rw [List.getElem?_eq_none (by simp [Kd.raw, sz1]; omega), List.getElem?_eq_none (by simp; omega)]
  · have hjn : j < n := by have := (List.getElem?_eq_some_iff.1 hj).1; simpa using this
    have hq : q = [Value.slice (some ⟨g j, o j, none⟩) p (c j)] := by
      rw [List.getElem?_map, List.getElem?_range hjn] at hj
      exact (Option.some.inj hj).symm
    subst hq
    have e : (((List.range n).map fun i => Value.slice (some ⟨g i, o i, none⟩) p (c i)).drop (j * 1)).take 1 = [Value.slice (some ⟨g j, o j, none⟩) p (c j)] := by
      rw [Nat.mul_one, List.drop_eq_getElem_cons (by simp; exact hjn)]
      simp
    have e' : (((List.range n).map fun i => Value.slice (some ⟨g i, o i, none⟩) p (c i)).drop (j * (Kd.raw (Kd.slice 5 (Kd.int .u8)).sz).sz)).take (Kd.raw (Kd.slice 5 (Kd.int .u8)).sz).sz = [Value.slice (some ⟨g j, o j, none⟩) p (c j)] := e
    rw [e']
    exact ⟨rfl, rfl, by simp [Value.oneCell']⟩
  · have hjn : j < n := by have := (List.getElem?_eq_some_iff.1 hx).1; rwa [mxL_length] at this
    rw [mxL_get n p A j hjn] at hx
    obtain rfl := Option.some.inj hx
    rw [List.getElem?_map, List.getElem?_range hjn] at hq
    obtain rfl := Option.some.inj hq
    intro W' hW
    obtain ⟨cur, hb2, hc2⟩ := h.row j hjn
    have hb3 : W'.heap[g j]? = some (.cells cur 5 (0, 0)) := (hW (g j) ⟨h.low j hjn, by simpa [Value.ownBlock] using h.ne j hjn⟩ (blk_lt hb2)).trans hb2
    refine ⟨some ⟨g j, o j, none⟩, c j, by rw [rowL_length], by rw [rowL_length]; exact h.cap j hjn, int_reads hp (fun i hi => ?_)⟩
    rw [blk_cell hb3, hc2 i hi]
end Go.Proofs.YteiiaonpdamkhaaDoor.G
