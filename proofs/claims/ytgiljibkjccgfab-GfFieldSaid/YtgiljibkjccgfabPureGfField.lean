/- GfField: the pure statement: numbers and lists alone. Conditions: those of the statement itself. -/
import Derived.Test.YtgiljibkjccgfabGx4
import Derived.OpenShut
namespace Go.Proofs.Ytgiljibkjccgfab.Pure
open Go.RowKit Go.Proofs.Ytgiljibkjccgfab.G Go.Proofs.YtgiljibkjccgfabW.PrintWords Go.Proofs.YtgiljibkjccgfabW.PrintLast Go.Proofs.YtgiljibkjccgfabW.PrintMore Go.OpenShut
set_option linter.unusedVariables false
set_option linter.unusedSimpArgs false
theorem lives02 : caulklaw02_lives.f = some true := by decide +kernel
theorem isB_of {a : Int} (h : (Lit.int .u8 a).wf = true) : isB a := by have := bounds_u8 h; unfold isB; omega
theorem mulI_isB (a b : Int) : isB (mulI a b) := el_range _
theorem gfmul {a b : Int} (ha : isB a) (hb : isB b) : gf_Mul.f a b = some (mulI a b) := if_pos ⟨ha, hb⟩
theorem refmul {a b : Int} (ha : isB a) (hb : isB b) : caulkref02_Mul.f a b = some (mulI a b) := if_pos ⟨ha, hb⟩
theorem el_mulI (a b : Int) : el (mulI a b) = GfM.mul (el a) (el b) := el_nat _
theorem mulI_nat (a b : BitVec 8) : mulI (a.toNat : Int) (b.toNat : Int) = ((GfM.mul a b).toNat : Int) := by unfold mulI; rw [el_nat, el_nat]
theorem asel {a : Int} (h : isB a) : ∃ x : BitVec 8, a = (x.toNat : Int) := ⟨el a, (el_back h.1 h.2).symm⟩
theorem isB_nat (x : BitVec 8) : isB (x.toNat : Int) := el_range x
theorem el_ne {x : BitVec 8} (h : (x.toNat : Int) ≠ 0) : x ≠ 0#8 := by intro e; apply h; rw [e]; rfl
theorem ne_el {x : BitVec 8} (h : x ≠ 0#8) : (x.toNat : Int) ≠ 0 := by intro e; apply h; apply BitVec.eq_of_toNat_eq; simp; omega
/-- The inverse. -/
def invI (a : Int) : Int := ((GfM.inv (el a)).toNat : Int)
theorem invI_isB (a : Int) : isB (invI a) := el_range _
theorem inv_eq {a : Int} (h : isB a) : gf_Inv.f a = some (if a = 0 then (0, 13) else (invI a, 0)) := by
  unfold gf_Inv.f
  by_cases h0 : a = 0
  · rw [if_pos h0, if_pos h0]
  · rw [if_neg h0, if_neg h0]
    unfold gf_power.f
    rw [if_pos ⟨h, by decide, by decide⟩]
    simp only [Option.bind_some]
    have : powI a 254 = invI a := by
      unfold powI invI GfM.inv
      rw [show (254 : Int).toNat = 254 from rfl]
      rw [show (64 : Nat) = 8 + 56 from rfl, pwk_more 8 _ _ _ 56 (by decide)]
    rw [this]
theorem refinv_l0 (x : BitVec 8) (hx : x ≠ 0#8) : ∀ (d i : Nat), i + d = (GfM.inv x).toNat → 1 ≤ i → ∀ k, d < k → caulkref02_Inv.l0 k (x.toNat : Int) (i : Int) = some (((GfM.inv x).toNat : Int), 0)
  | 0, i, hi, h1, k, hk => by
    obtain ⟨k, rfl⟩ : ∃ m, k = m + 1 := ⟨k - 1, by omega⟩
    have hlt := (GfM.inv x).isLt
    obtain rfl : i = (GfM.inv x).toNat := by omega
    simp only [caulkref02_Inv.l0]
    rw [if_pos (by omega), Int.emod_eq_of_lt (by omega) (by omega), refmul (isB_nat _) (isB_nat _), mulI_nat, GfM.mul_inv x hx]
    rfl
  | d + 1, i, hi, h1, k, hk => by
    obtain ⟨k, rfl⟩ : ∃ m, k = m + 1 := ⟨k - 1, by omega⟩
    have hlt := (GfM.inv x).isLt
    simp only [caulkref02_Inv.l0]
    have hi8 : i < 256 := by omega
    have ei : (i : Int) = ((BitVec.ofNat 8 i).toNat : Int) := by rw [BitVec.toNat_ofNat]; omega
    have hne : mulI (x.toNat : Int) (i : Int) ≠ 1 := by
      rw [ei, mulI_nat]
      intro e
      have e1 : GfM.mul x (BitVec.ofNat 8 i) = 1#8 := BitVec.eq_of_toNat_eq (by show _ = 1; omega)
      have e2 := GfM.mul_cancel hx (e1.trans (GfM.mul_inv x hx).symm)
      have := congrArg BitVec.toNat e2
      rw [BitVec.toNat_ofNat] at this
      omega
    rw [if_pos (by omega), Int.emod_eq_of_lt (by omega) (by omega), refmul (isB_nat _) ⟨by omega, by omega⟩]
    simp only [Option.bind_some]
    rw [if_neg hne, show wrap64 ((i : Int) + 1) = ((i + 1 : Nat) : Int) from by unfold wrap64; omega]
    exact refinv_l0 x hx d (i + 1) (by omega) (by omega) k (by omega)
theorem refinv_zero : ∀ (d i : Nat), i + d = 256 → ∀ k, d < k → caulkref02_Inv.l0 k 0 (i : Int) = some (0, 13)
  | 0, i, hi, k, hk => by
    obtain ⟨k, rfl⟩ : ∃ m, k = m + 1 := ⟨k - 1, by omega⟩
    simp only [caulkref02_Inv.l0]
    rw [if_neg (by omega)]
  | d + 1, i, hi, k, hk => by
    obtain ⟨k, rfl⟩ : ∃ m, k = m + 1 := ⟨k - 1, by omega⟩
    simp only [caulkref02_Inv.l0]
    have hz : mulI 0 (i : Int) = 0 := by
      unfold mulI; rw [show el 0 = 0#8 from rfl, GfM.zero_mul]; rfl
    rw [if_pos (by omega), Int.emod_eq_of_lt (by omega) (by omega), refmul ⟨by decide, by decide⟩ ⟨by omega, by omega⟩, hz]
    simp only [Option.bind_some]
    rw [if_neg (by decide), show wrap64 ((i : Int) + 1) = ((i + 1 : Nat) : Int) from by unfold wrap64; omega]
    exact refinv_zero d (i + 1) (by omega) k (by omega)
theorem refinv_eq {a : Int} (h : isB a) (k : Nat) (hk : 300 ≤ k) : caulkref02_Inv.f k a = some (if a = 0 then (0, 13) else (invI a, 0)) := by
  unfold caulkref02_Inv.f
  by_cases h0 : a = 0
  · subst h0
    rw [if_pos rfl]
    exact refinv_zero 255 1 rfl k (by omega)
  · rw [if_neg h0]
    obtain ⟨x, rfl⟩ := asel h
    have hi := GfM.mul_inv x (el_ne h0)
    have h1 : 1 ≤ (GfM.inv x).toNat := by
      by_cases e : (GfM.inv x).toNat = 0
      · have : GfM.inv x = 0#8 := BitVec.eq_of_toNat_eq (by simpa using e)
        rw [this, GfM.mul_zero] at hi
        exact absurd hi (by decide)
      · omega
    have hlt := (GfM.inv x).isLt
    unfold invI
    rw [el_nat]
    exact refinv_l0 x (el_ne h0) ((GfM.inv x).toNat - 1) 1 (by omega) (by omega) k (by omega)
theorem div_eq {a b : Int} (ha : isB a) (hb : isB b) : gf_Div.f a b = some (if b = 0 then (0, 13) else (mulI a (invI b), 0)) := by
  unfold gf_Div.f
  rw [inv_eq hb]
  by_cases h0 : b = 0
  · rw [if_pos h0, if_pos h0]; rfl
  · rw [if_neg h0, if_neg h0]
    simp only [Option.bind_some, if_true]
    rw [gfmul ha (invI_isB b)]; rfl
theorem refdiv_eq {a b : Int} (ha : isB a) (hb : isB b) (k : Nat) (hk : 300 ≤ k) : caulkref02_Div.f k a b = some (if b = 0 then (0, 13) else (mulI a (invI b), 0)) := by
  unfold caulkref02_Div.f
  rw [refinv_eq hb k hk]
  by_cases h0 : b = 0
  · rw [if_pos h0, if_pos h0]; rfl
  · rw [if_neg h0, if_neg h0]
    simp only [Option.bind_some, if_true]
    rw [refmul ha (invI_isB b)]; rfl
theorem GfField : caulklaw02_GfField.Pure := by
  intro a b c wa wb wc
  obtain ⟨x, rfl⟩ := asel (isB_of wa)
  obtain ⟨y, rfl⟩ := asel (isB_of wb)
  obtain ⟨z, rfl⟩ := asel (isB_of wc)
  have m : ∀ p q : BitVec 8, gf_Mul.f (p.toNat : Int) (q.toNat : Int) = some ((GfM.mul p q).toNat : Int) := fun p q => by rw [gfmul (isB_nat p) (isB_nat q), mulI_nat]
  refine ⟨2, ?_⟩
  have main : caulklaw02_GfField.j0 2 (x.toNat : Int) (y.toNat : Int) (z.toNat : Int) false = some true := by
    simp only [caulklaw02_GfField.j0, Bool.false_eq_true, if_false]
    rw [g_xor8, show (1 : Int) = ((1#8 : BitVec 8).toNat : Int) from rfl]
    simp only [m, Option.bind_some]
    rw [if_pos (by rw [GfM.mul_comm]), if_pos (by rw [GfM.mul_assoc]), if_pos (by rw [g_xor8, GfM.mul_xor_right]), if_pos (by rw [GfM.one_mul])]
    by_cases hx : x = 0#8
    · subst hx
      rw [if_pos (by rfl), GfM.zero_mul]; rfl
    · rw [if_neg (ne_el hx)]
      by_cases hy : y = 0#8
      · subst hy; rw [GfM.mul_zero]; rfl
      · have h1 := ne_el hy
        have h2 : ((GfM.mul x y).toNat : Int) ≠ 0 := ne_el (fun e => (GfM.mul_eq_zero e).elim hx hy)
        rw [beq_eq_false_iff_ne.mpr h1, beq_eq_false_iff_ne.mpr h2]; rfl
  unfold caulklaw02_GfField.f
  rw [lives02, inv_eq (isB_nat x)]
  simp only [Option.bind_some, if_true]
  by_cases hx : x = 0#8
  · subst hx
    rw [show (((0#8 : BitVec 8).toNat : Nat) : Int) = 0 from rfl] at main ⊢
    simp only [if_true]
    rw [if_neg (by decide), if_neg (by decide)]
    exact main
  · rw [if_neg (ne_el hx)]
    rw [if_neg (by rw [show ((x.toNat : Int) != 0) = true from bne_iff_ne.mpr (ne_el hx)]; simp), if_pos (by rfl)]
    unfold invI
    rw [el_nat, m, GfM.mul_inv x hx]
    exact main
end Go.Proofs.Ytgiljibkjccgfab.Pure
