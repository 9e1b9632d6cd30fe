/- caulkref03.Invert over this seat's program: two matrices in memory, and their rows of one's own. Conditions: each lemma's own. -/
import Derived.Laws.CopyRow
import Derived.Lib.BufferWrite
import Derived.Lib.SlBuf
import Derived.Deep.RegionLaw
import Derived.Test.YteiiaonpdamkhaaDoorMatFn
namespace Go.Proofs.YteiiaonpdamkhaaDoor.G
open Go.RowKit Go.Proofs.YteiiaonpdamkhaaDoorW.PrintWords Go.Proofs.YteiiaonpdamkhaaDoorW.PrintLast Go.Proofs.YteiiaonpdamkhaaDoorW.PrintMore
def matrix_Mul.f (l0 l1 : List (List Int)) : Option (List (List Int) × Int) :=
  if BytesM l0 ∧ BytesM l1 then some (if OkM l0 ∧ OkM l1 then (if l1.length = colsM l0 then (mxL l0.length (colsM l1) (GfM.mm l1.length (toMx l0) (toMx l1)), 0) else ([], 1)) else ([], 2)) else none
def matrix_Rows.f (l0 : List (List Int)) (l1 : List Int) : Option (List (List Int) × Int) :=
  if BytesM l0 then some (if OkM l0 then (if 1 ≤ l1.length ∧ l1.length ≤ 255 then (if ∀ x ∈ l1, 0 ≤ x ∧ x < (l0.length : Int) then (mxL l1.length (colsM l0) (fun k c => toMx l0 (l1.getD k 0).toNat c), 0) else ([], 1)) else ([], 1)) else ([], 2)) else none
def invAns (l : List (List Int)) : List (List Int) × Int := match GfM.invX l.length (toMx l) with | some X => (mxL l.length l.length X, 0) | none => ([], 13)
def matrix_Invert.f (l0 : List (List Int)) : Option (List (List Int) × Int) :=
  if BytesM l0 then some (if OkM l0 then (if colsM l0 = l0.length then invAns l0 else ([], 1)) else ([], 2)) else none
end Go.Proofs.YteiiaonpdamkhaaDoor.G
namespace Go.Proofs.YteiiaonpdamkhaaDoor.G
open Go.RowKit Go.Proofs.YteiiaonpdamkhaaDoorW.PrintWords Go.Proofs.YteiiaonpdamkhaaDoorW.PrintLast Go.Proofs.YteiiaonpdamkhaaDoorW.PrintMore
set_option linter.unusedVariables false
set_option linter.unusedSimpArgs false

/-- A matrix of rows of one's own (no two in one block) as one in memory. -/
theorem mat_of_S {B n p : Nat} {w : World} {ok : Nat → Prop} {v : Value} {A : GfM.Mx} (h : Kd.S (Kd.slice 5 (Kd.int .u8)) 76 w B ok v (mxL n p A)) (hn : 0 < n) (hp : 0 < p) :
    ∃ (gm cm : Nat) (g c : Nat → Nat), v = .slice (some ⟨gm, 0, none⟩) n cm ∧ Mat B w gm cm n p g (fun _ => 0) c A ∧ n ≤ cm ∧ cm ≤ 9223372036854775807 := by
  obtain ⟨f, h0, inner, ⟨hl, ho⟩, hr⟩ := h
  have es : (Kd.tag f (Kd.slice 5 (Kd.int .u8))).sz = 1 := rfl
  rw [List.length_zipIdx, mxL_length, es] at hl ho
  rw [es] at hr
  rcases ho with ⟨_, e⟩ | ⟨gm, cap, cur, rfl, hg, hh, hle, hmax, hsz, htk⟩
  · omega
  rw [Nat.mul_one] at hsz htk hl
  have key : ∀ i, i < n → ∃ (gi ci : Nat) (cu : Array Value), cur[i]? = some (.slice (some ⟨gi, 0, none⟩) p ci) ∧ B ≤ gi ∧ gi ≠ gm ∧ f gi = i ∧ p ≤ ci ∧ w.heap[gi]? = some (.cells cu 5 (0, 0)) ∧ ∀ j, j < p → cu[j]? = some (.int .u8 ((A i j).toNat : Int)) := by
    intro i hi
    have hz : (mxL n p A).zipIdx[i]? = some (rowL p (A i), i) := Kd.zip_at (mxL_get n p A i hi)
    obtain ⟨v1, hv1, hok, hown⟩ := hr.2 i _ hz
    rw [Nat.mul_one] at hv1
    have hcur : cur[i]? = some v1 := by
      have e1 : inner[i]? = some v1 := by
        have := congrArg (fun l => l[0]?) hv1
        simp only [List.getElem?_take, List.getElem?_drop, List.getElem?_cons_zero] at this
        simpa using this
      rw [← htk, List.getElem?_take, if_pos hi] at e1
      simpa using e1
    have hs := Kd.own_of_R (enc := Value.int .u8) (h1 := fun _ => rfl) (xs := rowL p (A i)) ⟨hok, hown⟩
    obtain ⟨hl2, ho2⟩ := hs
    rw [rowL_length] at hl2 ho2
    rcases ho2 with ⟨_, e⟩ | ⟨gi, ci, cu, rfl, hgi, hhi, hlei, hmaxi, hszi, htki⟩
    · omega
    have hk := hok gi rfl
    refine ⟨gi, ci, cu, hcur, hgi, ?_, hk.2, hlei, hhi, ?_⟩
    · intro e
      exact hk.1.2 (by rw [e]; rfl)
    · intro j hj
      rw [Nat.mul_one] at htki
      have e2 : (cu.toList.take p)[j]? = (encs (Value.int .u8) (rowL p (A i)))[j]? := by rw [htki]
      rw [List.getElem?_take, if_pos hj] at e2
      simp [encs, rowL, hj] at e2
      simpa using e2
  obtain ⟨g, c, hgc⟩ : ∃ g c : Nat → Nat, ∀ i, i < n → ∃ cu : Array Value, cur[i]? = some (.slice (some ⟨g i, 0, none⟩) p (c i)) ∧ B ≤ g i ∧ g i ≠ gm ∧ f (g i) = i ∧ p ≤ c i ∧ w.heap[g i]? = some (.cells cu 5 (0, 0)) ∧ ∀ j, j < p → cu[j]? = some (.int .u8 ((A i j).toNat : Int)) := by
    refine ⟨fun i => if hi : i < n then (key i hi).choose else 0, fun i => if hi : i < n then (key i hi).choose_spec.choose else 0, fun i hi => ?_⟩
    simp only [dif_pos hi]
    exact (key i hi).choose_spec.choose_spec
  refine ⟨gm, cap, g, c, rfl, ⟨⟨cur, hh, hsz, fun i hi => ?_⟩, fun i hi => ?_, fun i hi k hk hne he => ?_, fun i hi => ?_, fun i hi => ?_, fun i hi => ?_, hg⟩, hle, hmax⟩
  · obtain ⟨cu, h1, _⟩ := hgc i hi; exact h1
  · obtain ⟨cu, _, _, _, _, _, h6, h7⟩ := hgc i hi; exact ⟨cu, h6, fun j hj => by rw [Nat.zero_add]; exact h7 j hj⟩
  · obtain ⟨_, _, _, _, h4, _⟩ := hgc i hi
    obtain ⟨_, _, _, _, h4', _⟩ := hgc k hk
    exact absurd (by rw [← h4, ← h4', he]) hne
  · obtain ⟨_, _, _, h3, _⟩ := hgc i hi; exact h3
  · obtain ⟨_, _, _, _, _, h5, _⟩ := hgc i hi; exact h5
  · obtain ⟨_, _, h2, _⟩ := hgc i hi; exact h2
/-- Two matrices of n rows and columns whose blocks are all apart; each row begins at its block's head. -/
structure Two (B : Nat) (w : World) (ga ma gb mb n : Nat) (g h c d : Nat → Nat) (L R : GfM.Mx) : Prop where
  ml : Mat B w ga ma n n g (fun _ => 0) c L
  mr : Mat B w gb mb n n h (fun _ => 0) d R
  ab : ga ≠ gb
  ah : ∀ i, i < n → ga ≠ h i
  bg : ∀ i, i < n → gb ≠ g i
  gh : ∀ i, i < n → ∀ k, k < n → g i ≠ h k
namespace Two
variable {B ga ma gb mb n : Nat} {w w1 : World} {g h c d : Nat → Nat} {L R L' R' : GfM.Mx}
theorem congr (t : Two B w ga ma gb mb n g h c d L R) (hl : ∀ i, i < n → ∀ j, j < n → L i j = L' i j) (hr : ∀ i, i < n → ∀ j, j < n → R i j = R' i j) : Two B w ga ma gb mb n g h c d L' R' := ⟨t.ml.congr hl, t.mr.congr hr, t.ab, t.ah, t.bg, t.gh⟩
theorem below (t : Two B w ga ma gb mb n g h c d L R) (hb : Below w.heap.size w w1) : Two B w1 ga ma gb mb n g h c d L R := ⟨t.ml.below hb, t.mr.below hb, t.ab, t.ah, t.bg, t.gh⟩
theorem drewN (t : Two B w ga ma gb mb n g h c d L R) (m : Nat) : Two B (w.drewN m) ga ma gb mb n g h c d L R := ⟨t.ml.drewN m, t.mr.drewN m, t.ab, t.ah, t.bg, t.gh⟩
theorem drew (t : Two B w ga ma gb mb n g h c d L R) : Two B w.drew ga ma gb mb n g h c d L R := ⟨t.ml.drew, t.mr.drew, t.ab, t.ah, t.bg, t.gh⟩
theorem turn (t : Two B w ga ma gb mb n g h c d L R) : Two B w gb mb ga ma n h g d c R L := ⟨t.mr, t.ml, fun e => t.ab e.symm, t.bg, t.ah, fun i hi k hk e => t.gh k hk i hi e.symm⟩
theorem setL (t : Two B w ga ma gb mb n g h c d L R) {i j : Nat} (hi : i < n) (hj : j < n) (x : GfM.F) :
    Two B (w.setCell ⟨g i, j, none⟩ (.int .u8 (x.toNat : Int))) ga ma gb mb n g h c d (fun r k => if r = i ∧ k = j then x else L r k) R := by
  have h1 := t.ml.setCell hi hj x
  simp only [Nat.zero_add] at h1
  exact ⟨h1, t.mr.far (a := ⟨g i, j, none⟩) (t.bg i hi) (fun k hk e => t.gh i hi k hk e.symm) _, t.ab, t.ah, t.bg, t.gh⟩
theorem setR (t : Two B w ga ma gb mb n g h c d L R) {i j : Nat} (hi : i < n) (hj : j < n) (x : GfM.F) :
    Two B (w.setCell ⟨h i, j, none⟩ (.int .u8 (x.toNat : Int))) ga ma gb mb n g h c d L (fun r k => if r = i ∧ k = j then x else R r k) := (t.turn.setL hi hj x).turn
def sw (i j : Nat) (f : Nat → Nat) : Nat → Nat := fun r => f (if r = i then j else if r = j then i else r)
theorem sw_lt {i j r : Nat} (hi : i < n) (hj : j < n) (hr : r < n) : (if r = i then j else if r = j then i else r) < n := by
  repeat' split
  all_goals assumption
theorem swapL (t : Two B w ga ma gb mb n g h c d L R) {i j : Nat} (hi : i < n) (hj : j < n) :
    Two B ((w.setCell ⟨ga, i, none⟩ (.slice (some ⟨g j, 0, none⟩) n (c j))).setCell ⟨ga, j, none⟩ (.slice (some ⟨g i, 0, none⟩) n (c i))) ga ma gb mb n (sw i j g) h (sw i j c) d (GfM.swapX i j L) R :=
  ⟨t.ml.swap hi hj, (t.mr.far (a := ⟨ga, i, none⟩) (fun e => t.ab e.symm) (fun k hk e => t.ah k hk e.symm) _).far (a := ⟨ga, j, none⟩) (fun e => t.ab e.symm) (fun k hk e => t.ah k hk e.symm) _, t.ab, t.ah, fun r hr => t.bg _ (sw_lt hi hj hr), fun r hr k hk => t.gh _ (sw_lt hi hj hr) k hk⟩
theorem swapR (t : Two B w ga ma gb mb n g h c d L R) {i j : Nat} (hi : i < n) (hj : j < n) :
    Two B ((w.setCell ⟨gb, i, none⟩ (.slice (some ⟨h j, 0, none⟩) n (d j))).setCell ⟨gb, j, none⟩ (.slice (some ⟨h i, 0, none⟩) n (d i))) ga ma gb mb n g (sw i j h) c (sw i j d) L (GfM.swapX i j R) := (t.turn.swapL hi hj).turn
theorem loadL (t : Two B w ga ma gb mb n g h c d L R) {i : Nat} (hi : i < n) : w.cell? ⟨ga, i, none⟩ = some (.slice (some ⟨g i, 0, none⟩) n (c i)) := t.ml.load hi
theorem loadR (t : Two B w ga ma gb mb n g h c d L R) {i : Nat} (hi : i < n) : w.cell? ⟨gb, i, none⟩ = some (.slice (some ⟨h i, 0, none⟩) n (d i)) := t.mr.load hi
theorem cellL (t : Two B w ga ma gb mb n g h c d L R) {i j : Nat} (hi : i < n) (hj : j < n) : w.cell? ⟨g i, j, none⟩ = some (.int .u8 ((L i j).toNat : Int)) := by have := t.ml.cell hi hj; rwa [Nat.zero_add] at this
theorem cellR (t : Two B w ga ma gb mb n g h c d L R) {i j : Nat} (hi : i < n) (hj : j < n) : w.cell? ⟨h i, j, none⟩ = some (.int .u8 ((R i j).toNat : Int)) := by have := t.mr.cell hi hj; rwa [Nat.zero_add] at this
theorem frozL (t : Two B w ga ma gb mb n g h c d L R) (i : Nat) : w.frozen? ⟨ga, i, none⟩ = false := t.ml.froz i
theorem frozR (t : Two B w ga ma gb mb n g h c d L R) (i : Nat) : w.frozen? ⟨gb, i, none⟩ = false := t.mr.froz i
theorem frozenL (t : Two B w ga ma gb mb n g h c d L R) {i : Nat} (hi : i < n) (j : Nat) : w.frozen? ⟨g i, j, none⟩ = false := t.ml.frozen hi j
theorem frozenR (t : Two B w ga ma gb mb n g h c d L R) {i : Nat} (hi : i < n) (j : Nat) : w.frozen? ⟨h i, j, none⟩ = false := t.mr.frozen hi j
end Two
/-- Out of two of the kit's rows of rows: the second one was made behind the first. -/
theorem two_of {B B2 n : Nat} {w : World} {ga ma gb mb : Nat} {g h c d : Nat → Nat} {L R : GfM.Mx} (hl : Mat B w ga ma n n g (fun _ => 0) c L) (hr : Mat B2 w gb mb n n h (fun _ => 0) d R) (hga : ga < B2) (hg : ∀ i, i < n → g i < B2) (hB : B ≤ B2) :
    Two B w ga ma gb mb n g h c d L R := ⟨hl, hr.lower hB, fun e => by have := hr.lowm; omega, fun i hi e => by have := hr.low i hi; omega, fun i hi e => by have := hr.lowm; have := hg i hi; omega, fun i hi k hk e => by have := hr.low k hk; have := hg i hi; omega⟩
end Go.Proofs.YteiiaonpdamkhaaDoor.G
