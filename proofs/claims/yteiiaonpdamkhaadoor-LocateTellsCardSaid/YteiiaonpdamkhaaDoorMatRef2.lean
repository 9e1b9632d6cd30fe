/- caulkref03.Invert's walk over this seat's program. Conditions: each lemma's own. -/
import Derived.Test.YteiiaonpdamkhaaDoorMatCheck
import Derived.Test.YteiiaonpdamkhaaDoorGx8
import Derived.Test.YteiiaonpdamkhaaDoorMatRef
import Derived.Test.YteiiaonpdamkhaaDoorGx9
import Derived.Test.YteiiaonpdamkhaaDoorGx7
namespace Go.Proofs.YteiiaonpdamkhaaDoor.G
open Go.RowKit Go.Proofs.YteiiaonpdamkhaaDoorW.PrintWords Go.Proofs.YteiiaonpdamkhaaDoorW.PrintLast Go.Proofs.YteiiaonpdamkhaaDoorW.PrintMore
set_option linter.unusedVariables false
set_option linter.unusedSimpArgs false
theorem refcheck_j0 (k : Nat) (l : List (List Int)) (b : Bool) : caulkref03_Check.j0 (k + 1) l b = if b = true then some 2 else caulkref03_Check.l0 k l l (l.length : Int) 0 := rfl
theorem okM_drop {l : List (List Int)} {i : Nat} (hi : i < l.length) : (∀ r ∈ l.drop i, r.length = colsM l) ↔ (l.getD i []).length = colsM l ∧ ∀ r ∈ l.drop (i + 1), r.length = colsM l := by
  rw [List.drop_eq_getElem_cons hi, List.forall_mem_cons, List.getD_eq_getElem?_getD, List.getElem?_eq_getElem hi]
  rfl
theorem refcheck_l0 (l : List (List Int)) (hl : l.length ≤ 255) (hl1 : 1 ≤ l.length) : ∀ (d i k : Nat), i + d = l.length → d < k → caulkref03_Check.l0 k l l (l.length : Int) (i : Int) = some (if ∀ r ∈ l.drop i, r.length = colsM l then 0 else 2)
  | 0, i, k + 1, h, hk => by
    unfold caulkref03_Check.l0
    rw [if_neg (by omega), List.drop_of_length_le (by omega)]
    simp
  | d + 1, i, k + 1, h, hk => by
    have hi : i < l.length := by omega
    have hw : wrap64 ((i : Int) + 1) = ((i + 1 : Nat) : Int) := by unfold wrap64; omega
    unfold caulkref03_Check.l0
    rw [if_pos (by omega), if_pos (by omega), if_pos (by omega), if_pos (by omega), hw, refcheck_l0 l hl hl1 d (i + 1) k (by omega) (by omega), rd_L2_nat, rd_L2_zero]
    have e := okM_drop hi
    by_cases h1 : (l.getD i []).length = colsM l
    · have h1' : ((l.getD i []).length : Int) = ((l.getD 0 []).length : Int) := by unfold colsM at h1; omega
      rw [if_pos h1']
      simp only [e, h1, true_and]
    · have h1' : ¬ ((l.getD i []).length : Int) = ((l.getD 0 []).length : Int) := by unfold colsM at h1; omega
      rw [if_neg h1', if_neg (fun hh => h1 (e.1 hh).1)]
theorem refcheck_eq (l : List (List Int)) (k : Nat) (hk : 300 ≤ k) : caulkref03_Check.f k l = some (if OkM l then 0 else 2) := by
  obtain ⟨k, rfl⟩ : ∃ q, k = q + 1 := ⟨k - 1, by omega⟩
  unfold caulkref03_Check.f
  by_cases h1 : 1 ≤ l.length ∧ l.length ≤ 255
  · rw [if_neg (by omega), if_neg (by omega), if_pos (by omega), rd_L2_zero]
    simp only [refcheck_j0]
    by_cases h2 : 1 ≤ colsM l ∧ colsM l ≤ 255
    · have h2' : ¬ ((l.getD 0 []).length : Int) < 1 ∧ ¬ ((l.getD 0 []).length : Int) > 255 := by unfold colsM at h2; omega
      rw [if_neg h2'.1, decide_eq_false h2'.2, if_neg (by decide)]
      have := refcheck_l0 l h1.2 h1.1 l.length 0 k (by omega) (by omega)
      rw [List.drop_zero] at this
      refine Eq.trans this ?_
      congr 1
      unfold OkM
      simp only [h1.1, h1.2, h2.1, h2.2, true_and]
    · have hn : ¬ OkM l := fun hh => h2 ⟨hh.2.2.1, hh.2.2.2.1⟩
      by_cases h3 : ((l.getD 0 []).length : Int) < 1
      · rw [if_pos h3, if_pos trivial, if_neg hn]
      · have h4 : ((l.getD 0 []).length : Int) > 255 := by unfold colsM at h2; omega
        rw [if_neg h3, decide_eq_true h4, if_pos rfl, if_neg hn]
  · have hn : ¬ OkM l := fun hh => h1 ⟨hh.1, hh.2.1⟩
    simp only [refcheck_j0]
    by_cases h3 : (l.length : Int) < 1
    · rw [if_pos h3, if_pos trivial, if_neg hn]
    · rw [if_neg h3, if_pos (by omega), if_pos trivial, if_neg hn]
end Go.Proofs.YteiiaonpdamkhaaDoor.G
namespace Go.Proofs.YteiiaonpdamkhaaDoor.G
open Go.RowKit Go.Proofs.YteiiaonpdamkhaaDoorW.PrintWords Go.Proofs.YteiiaonpdamkhaaDoorW.PrintLast Go.Proofs.YteiiaonpdamkhaaDoorW.PrintMore
set_option linter.unusedVariables false
set_option linter.unusedSimpArgs false
set_option maxRecDepth 100000 in
set_option maxHeartbeats 4000000 in
theorem refunit_calls (k n : Nat) (w : World) (hU : caulkref03_Unit.f k (n : Int) = some (mxL n n GfM.idm, 0)) : Calls Tryd.prog 77 #[.int .i64 n] w fun e w' => ∃ v0_ : Value, e = .returned v0_ ∧ Kd.S (Kd.slice 5 (Kd.int .u8)) 76 w' w.heap.size (fun _ => True) v0_ (mxL n n GfM.idm) ∧ Below w.heap.size w w' := by
 have hc := Aside0.mk (caulkref03_Unit.calls k n _ _ w hU)
 clear hU
 go_enter Tryd.func77, Tryd.ntmps77
 go_wp2_with (go_at_call 57; (with_reducible refine hc.out.mono ?_); rintro e w1 ⟨v0, rfl, hS, hB⟩; have HS := Aside0.mk hS; have HB := Aside0.mk hB; clear hS hB)
 go_ret
 exact ⟨_, rfl, HS.out, HB.out⟩
/-- Row i is multiplied as far as column j. -/
def scX (i j : Nat) (x : GfM.F) (A : GfM.Mx) : GfM.Mx := fun r c => if r = i ∧ c < j then GfM.mul (A r c) x else A r c
theorem scX_step (i j : Nat) (x : GfM.F) (A : GfM.Mx) (r c : Nat) : (if r = i ∧ c = j then GfM.mul (scX i j x A i j) x else scX i j x A r c) = scX i (j + 1) x A r c := by
 unfold scX
 by_cases e : r = i ∧ c = j
 ·obtain ⟨rfl, rfl⟩ := e
  rw [if_pos ⟨rfl, rfl⟩, if_neg (by omega), if_pos ⟨rfl, by omega⟩]
 ·rw [if_neg e]
  by_cases e2 : r = i ∧ c < j
  ·rw [if_pos e2, if_pos ⟨e2.1, by omega⟩]
  ·rw [if_neg e2, if_neg (by omega)]
theorem scX_all {n : Nat} (i : Nat) (x : GfM.F) (A : GfM.Mx) (r c : Nat) (hc : c < n) : scX i n x A r c = GfM.scaleX i x A r c := by
 unfold scX GfM.scaleX
 by_cases e : r = i
 ·rw [if_pos ⟨e, hc⟩, if_pos e, GfM.mul_comm]
 ·rw [if_neg (fun h => e h.1), if_neg e]
/-- What clearing has made as far as row k, and of row k as far as column q. -/
def clY (i k q : Nat) (L A : GfM.Mx) : GfM.Mx := fun r c => if (r < k ∨ (r = k ∧ c < q)) ∧ r ≠ i then A r c ^^^ GfM.mul (L r i) (A i c) else A r c
theorem clY_step {i k q : Nat} (hk : k ≠ i) (L A : GfM.Mx) (r c : Nat) : (if r = k ∧ c = q then A k q ^^^ GfM.mul (L k i) (A i q) else clY i k q L A r c) = clY i k (q + 1) L A r c := by
 unfold clY
 by_cases e : r = k ∧ c = q
 ·obtain ⟨rfl, rfl⟩ := e
  rw [if_pos ⟨rfl, rfl⟩, if_pos ⟨.inr ⟨rfl, by omega⟩, hk⟩]
 ·rw [if_neg e]
  by_cases e2 : (r < k ∨ (r = k ∧ c < q)) ∧ r ≠ i
  ·rw [if_pos e2, if_pos ⟨by omega, e2.2⟩]
  ·rw [if_neg e2, if_neg (by omega)]
theorem clY_next {i k n : Nat} (L A : GfM.Mx) (r c : Nat) (hc : c < n) : clY i k n L A r c = clY i (k + 1) 0 L A r c := by
 unfold clY
 by_cases e : (r < k ∨ (r = k ∧ c < n)) ∧ r ≠ i
 ·rw [if_pos e, if_pos ⟨by omega, e.2⟩]
 ·rw [if_neg e, if_neg (by omega)]
theorem clY_self {i q : Nat} (L A : GfM.Mx) (r c : Nat) : clY i i q L A r c = clY i (i + 1) 0 L A r c := by
 unfold clY
 by_cases e : (r < i ∨ (r = i ∧ c < q)) ∧ r ≠ i
 ·rw [if_pos e, if_pos ⟨by omega, e.2⟩]
 ·rw [if_neg e, if_neg (by omega)]
theorem clY_zero (i : Nat) (L A : GfM.Mx) (r c : Nat) : A r c = clY i 0 0 L A r c := by unfold clY; rw [if_neg (by omega)]
theorem clY_at {i k q : Nat} (L A : GfM.Mx) (c : Nat) (hc : q ≤ c) : clY i k q L A k c = A k c := by unfold clY; rw [if_neg (by omega)]
theorem clY_top {i k q : Nat} (L A : GfM.Mx) (c : Nat) : clY i k q L A i c = A i c := by unfold clY; rw [if_neg (fun h => h.2 rfl)]
theorem clY_all {n : Nat} (i : Nat) (L A : GfM.Mx) (r c : Nat) (hr : r < n) : clY i n 0 L A r c = GfM.clearX i L A r c := by
 unfold clY GfM.clearX
 by_cases e : r = i
 ·rw [if_neg (fun h => h.2 e), if_pos e]
 ·rw [if_pos ⟨.inl hr, e⟩, if_neg e]
theorem refmul_nat (a b : GfM.F) : caulkref02_Mul.f (a.toNat : Int) (b.toNat : Int) = some ((GfM.mul a b).toNat : Int) := by
 unfold caulkref02_Mul.f
 rw [if_pos ⟨el_range a, el_range b⟩]
 unfold mulI
 rw [el_nat, el_nat]
set_option maxRecDepth 100000 in
set_option maxHeartbeats 16000000 in
theorem refInvert_walk (A0 : Option Addr) (c0 : Nat) (l0 : List (List Int)) (n kU kM kI : Nat) (M : GfM.Mx) (r1 : List (List Int)) (r2 : Int) (w : World) (hr0 : Kd.C (Kd.slice 5 (Kd.int .u8)) w A0 l0.length l0) (hc0 : l0.length ≤ c0) (hb : BytesM l0) (o1 : OkM l0) (hsq : colsM l0 = l0.length) (hn : n = l0.length)
  (hU : caulkref03_Unit.f kU (n : Int) = some (mxL n n GfM.idm, 0)) (hMl : caulkref03_Mul.f kM l0 (mxL n n GfM.idm) = some (mxL n n M, 0)) (hI : ∀ x : GfM.F, x ≠ 0#8 → caulkref02_Inv.f kI (x.toNat : Int) = some (((GfM.inv x).toNat : Int), 0))
  (h : r1 = (match GfM.invX n M with | some X => (mxL n n X, (0 : Int)) | none => ([], 13)).1 ∧ r2 = (match GfM.invX n M with | some X => (mxL n n X, (0 : Int)) | none => ([], 13)).2) :
  Calls Tryd.prog 59 #[.slice A0 l0.length c0] w fun e w' => ∃ v0_ : Value, e = .returned (.tuple #[v0_, .int .i64 r2]) ∧ Kd.N (Kd.slice 5 (Kd.int .u8)) 76 w' w.heap.size (fun k_ => (w.heap.size ≤ k_)) v0_ r1 ∧ Below w.heap.size w w' := by
 have HR0 := Aside0.mk hr0
 have HC0 := Aside0.mk hc0
 have HH := Aside0.mk h
 have K0 := Aside0.mk (show caulkref03_Check.f 300 l0 = some 0 from by rw [refcheck_eq l0 300 (Nat.le_refl _), if_pos o1])
 have HI := Aside0.mk hI
 have HML := Aside0.mk hMl
 have HU1 := Aside0.mk (fun W => refunit_calls kU n W hU)
 have HU2 := HU1
 have HCC0 := Aside0.mk (caulkref03_Check.calls 300 _ _ _ _ w HR0.out HC0.out K0.out)
 obtain ⟨ad0, hA0⟩ : ∃ ad, A0 = some ad := (HR0.out.2.2 (by have := o1.1; omega)).imp fun _ hh => hh.1
 subst hA0
 obtain ⟨b0, d0, hd0, hz0⟩ := lent_row HR0.out hb o1 (i := 0) (by have := o1.1; omega)
 have x1 := (hz0 w (Below.refl _ _)).1
 rw [Addr.add_zero'] at x1
 obtain ⟨q1, q2, q3, q4, q5⟩ := o1
 rw [hsq, ← hn] at x1
 have hmc : ∀ (W : World) (A1 : Option Addr) (c1 : Nat), Below w.heap.size w W → n ≤ c1 → Kd.C (Kd.slice 5 (Kd.int .u8)) W A1 n (mxL n n GfM.idm) → Calls Tryd.prog 76 #[.slice (some ad0) l0.length c0, .slice A1 n c1] W fun e w' => ∃ v0_ : Value, e = .returned (.tuple #[v0_, .int .i64 0]) ∧ Kd.S (Kd.slice 5 (Kd.int .u8)) 76 w' W.heap.size (fun _ => True) v0_ (mxL n n M) ∧ Below W.heap.size W w' := by
  intro W A1 c1 hbw hc1 hC
  have := caulkref03_Mul.calls kM (some ad0) c0 l0 A1 c1 (mxL n n GfM.idm) (mxL n n M) 0 W (Kd.C_below HR0.out hbw) HC0.out (by rw [mxL_length]; exact hC) (by rw [mxL_length]; exact hc1) HML.out
  rwa [mxL_length] at this
 rw [← hn] at q1 q2 HCC0 hmc
 rw [← hn]
 have HMC := Aside0.mk hmc
 clear q3 q4 q5 hz0 hb K0 hr0 hc0 h hI hMl hU hsq hd0 hn hmc HML
 go_enter Tryd.func59, Tryd.ntmps59
 go_wp2_with (first
  | (go_at_call 75; (with_reducible refine HCC0.out.mono ?_); rintro e w1 ⟨rfl, ⟨nd, rfl⟩⟩)
  | (go_at_call 77; (with_reducible refine (HU1.out _).mono ?_); rintro e w2 ⟨v2, rfl, hS2, hB2⟩; obtain ⟨A2, c2, rfl, hle2, hC2⟩ := Kd.S_reads hS2; rw [mxL_length] at hle2 hC2; rw [mxL_length]; have HC2 := Aside0.mk hC2; have HLE2 := Aside0.mk hle2; have HB2 := Aside0.mk ((pw_below_drewN (Below.refl w.heap.size w) nd).trans hB2); clear hS2 hB2 hle2 hC2 HU1)
  | (go_at_call 76; (with_reducible refine (HMC.out _ _ _ ?hbw ?hc1 ?hC).mono ?_); (case hbw => exact HB2.out); (case hc1 => exact HLE2.out); (case hC => exact HC2.out); rintro e w3 ⟨v3, rfl, hS3, hB3⟩; obtain ⟨ga, ma, g, c, rfl, hM3, hma, hma2⟩ := mat_of_S hS3 q1 q1; have HM3 := Aside0.mk hM3; have HB3 := Aside0.mk (HB2.out.trans (hB3.mono HB2.out.size)); have HW3 := Aside0.mk HB2.out.size; have HMA := Aside0.mk hma; clear hS3 hB3 hM3 hma hma2 HC2 HLE2 HMC)
  | (go_at_call 77; (with_reducible refine (HU2.out _).mono ?_); rintro e w4 ⟨v4, rfl, hS4, hB4⟩; obtain ⟨gb, mb, h, d, rfl, hM4, hmb, hmb2⟩ := mat_of_S hS4 q1 q1; have HT4 := Aside0.mk (two_of ((HM3.out.lower HW3.out).below hB4) hM4 HM3.out.ltm (fun i hi => HM3.out.lt hi) HB3.out.size); have HB4 := Aside0.mk (HB3.out.trans (hB4.mono HB3.out.size)); have HMB := Aside0.mk (show n ≤ mb ∧ mb ≤ 9223372036854775807 from ⟨hmb, hmb2⟩); clear hS4 hB4 hM4 hmb hmb2 HM3 HB3 HW3 HB2 HMA HU2 HCC0))
 go_loopw [8] (fun v wr => ∃ (i : Nat) (g h c d : Nat → Nat) (L R : GfM.Mx), i ≤ n ∧ v = .int .i64 i ∧ Aside0 (Two w.heap.size wr ga ma gb mb n g h c d L R) ∧ Aside0 (GfM.elimX n (n - i) i L R = GfM.invX n M) ∧ Aside0 (Below w.heap.size w wr)) (fun v _ => n - (intOf v).toNat)
 case atStart => exact ⟨0, g, h, c, d, M, GfM.idm, Nat.zero_le _, by simp, HT4, ⟨rfl⟩, HB4⟩
 case round =>
  obtain ⟨i, g, h, c, d, L, R, hi, rfl, HT, HE, HB⟩ := hrel
  clear HT4 HB4 x1
  by_cases hlt : i < n
  ·have w0 : wrap64 ((i : Int) + 1) = (i : Int) + 1 := by unfold wrap64; omega
   go_wp2
   go_loop [9] (fun v => ∃ r : Nat, i ≤ r ∧ r ≤ n ∧ v = .int .i64 r ∧ Aside0 (GfM.pivotX L i (n - i) i = GfM.pivotX L i (n - r) r)) (fun v => n - (intOf v).toNat)
   case atStart => exact ⟨i, Nat.le_refl _, by omega, by simp, ⟨rfl⟩⟩
   case round =>
    obtain ⟨r, hr1, hr2, rfl, HP⟩ := hrel
    by_cases hrn : r < n
    ·have w1 : wrap64 ((r : Int) + 1) = (r : Int) + 1 := by unfold wrap64; omega
     have y1 := HT.out.loadL hrn
     have y2 := HT.out.cellL hrn hlt
     obtain ⟨k, hk⟩ : ∃ k, n - r = k + 1 := ⟨n - r - 1, by omega⟩
     by_cases hz : L r i = 0#8
     ·rw [hz] at y2
      have HP2 : Aside0 (GfM.pivotX L i (n - i) i = GfM.pivotX L i (n - (r + 1)) (r + 1)) := ⟨by
       rw [HP.out, hk, GfM.pivotX, if_neg (by simp [hz]), show n - (r + 1) = k from by omega]⟩
      simp only [BitVec.toNat_ofNat] at y2
      go_wp2
      go_round
      case rel => exact ⟨r + 1, by omega, by omega, by go_num, HP2⟩
      case measure => simp [intOf]; omega
     ·have hv : ¬ ((L r i).toNat : Int) = 0 := fun e => hz (BitVec.eq_of_toNat_eq (by simpa using e))
      have HPV : Aside0 (GfM.pivotX L i (n - i) i = some r) := ⟨by rw [HP.out, hk, GfM.pivotX, if_pos hz]⟩
      obtain ⟨v, hv'⟩ : ∃ v : Int, v = ((L r i).toNat : Int) := ⟨_, rfl⟩
      rw [← hv'] at y2 hv
      have b1 : (v == 0) = false := by simpa using hv
      have HV := Aside0.mk hv'
      have HZ := Aside0.mk hz
      have b2 : ((r : Int) == (n : Int)) = false := by simp; omega
      clear hv' hv hz HP hk
      go_upto_region 16 with (fail)
      clear y1 y2 b1
      have l1 := HT.out.loadL hlt
      have l2 := HT.out.loadL hrn
      have f1 := HT.out.frozL i
      have f2 := HT.out.frozL r
      have T1 := (HT.out.swapL hlt hrn).drew
      have B1 := ((HB.out.setCell (p := ⟨ga, i, none⟩) HT.out.ml.lowm (.slice (some ⟨g r, 0, none⟩) n (c r))).setCell (p := ⟨ga, r, none⟩) HT.out.ml.lowm (.slice (some ⟨g i, 0, none⟩) n (c i))).drew
      obtain ⟨a1, ha1⟩ : ∃ a, a = g i := ⟨_, rfl⟩
      obtain ⟨a2, ha2⟩ : ∃ a, a = g r := ⟨_, rfl⟩
      obtain ⟨a3, ha3⟩ : ∃ a, a = c i := ⟨_, rfl⟩
      obtain ⟨a4, ha4⟩ : ∃ a, a = c r := ⟨_, rfl⟩
      rw [← ha1, ← ha3] at l1
      rw [← ha2, ← ha4] at l2
      rw [← ha1, ← ha2, ← ha3, ← ha4] at T1 B1
      have HT1 := Aside0.mk T1
      have HB1 := Aside0.mk B1
      have HA := Aside0.mk (And.intro ha1 (And.intro ha2 (And.intro ha3 ha4)))
      clear T1 B1 ha1 ha2 ha3 ha4
      go_cut [] (fun wc => Aside0 (Two w.heap.size wc ga ma gb mb n (Two.sw i r g) h (Two.sw i r c) d (GfM.swapX i r L) R) ∧ Aside0 (Below w.heap.size w wc))
      case first =>
       as_aux_lemma =>
        by_cases e : i = r
        ·subst e
         have e2 : a2 = a1 := HA.out.2.1.trans HA.out.1.symm
         have e4 : a4 = a3 := HA.out.2.2.2.trans HA.out.2.2.1.symm
         subst e2 e4
         clear l2 f2 HA HB HT HE HPV HV HZ
         go_wp2
         go_region
         all_goals (clear l1 f1)
         all_goals go_wp2
         all_goals go_meet
         all_goals exact ⟨HT1, HB1⟩
        ·have e' : r ≠ i := fun h => e h.symm
         clear HA HB HT HE HPV HV HZ
         go_wp2
         go_region
         all_goals (clear l1 f1 l2 f2)
         all_goals go_wp2
         all_goals go_meet
         all_goals exact ⟨HT1, HB1⟩
      case rest =>
       obtain ⟨HT2, HB2⟩ := hcut
       clear l1 l2 f1 f2 HT1 HB1 HA a1 a2 a3 a4 HT HB
       have l1 := HT2.out.loadR hlt
       have l2 := HT2.out.loadR hrn
       have f1 := HT2.out.frozR i
       have f2 := HT2.out.frozR r
       have T1 := (HT2.out.swapR hlt hrn).drew
       have B1 := ((HB2.out.setCell (p := ⟨gb, i, none⟩) HT2.out.mr.lowm (.slice (some ⟨h r, 0, none⟩) n (d r))).setCell (p := ⟨gb, r, none⟩) HT2.out.mr.lowm (.slice (some ⟨h i, 0, none⟩) n (d i))).drew
       obtain ⟨a1, ha1⟩ : ∃ a, a = h i := ⟨_, rfl⟩
       obtain ⟨a2, ha2⟩ : ∃ a, a = h r := ⟨_, rfl⟩
       obtain ⟨a3, ha3⟩ : ∃ a, a = d i := ⟨_, rfl⟩
       obtain ⟨a4, ha4⟩ : ∃ a, a = d r := ⟨_, rfl⟩
       rw [← ha1, ← ha3] at l1
       rw [← ha2, ← ha4] at l2
       rw [← ha1, ← ha2, ← ha3, ← ha4] at T1 B1
       have HT1 := Aside0.mk T1
       have HB1 := Aside0.mk B1
       have HA := Aside0.mk (And.intro ha1 (And.intro ha2 (And.intro ha3 ha4)))
       clear T1 B1 ha1 ha2 ha3 ha4
       go_upto_region 17 with (fail)
       go_cut [] (fun wc => ∃ (g h c d : Nat → Nat), Aside0 (Two w.heap.size wc ga ma gb mb n g h c d (GfM.swapX i r L) (GfM.swapX i r R)) ∧ Aside0 (Below w.heap.size w wc))
       case first =>
        as_aux_lemma =>
         by_cases e : i = r
         ·subst e
          have e2 : a2 = a1 := HA.out.2.1.trans HA.out.1.symm
          have e4 : a4 = a3 := HA.out.2.2.2.trans HA.out.2.2.1.symm
          subst e2 e4
          clear l2 f2 HA HT2 HB2 HE HPV HV HZ
          go_wp2
          go_region
          all_goals (clear l1 f1)
          all_goals go_wp2
          all_goals go_meet
          all_goals exact ⟨_, _, _, _, HT1, HB1⟩
         ·have e' : r ≠ i := fun h => e h.symm
          clear HA HT2 HB2 HE HPV HV HZ
          go_wp2
          go_region
          all_goals (clear l1 f1 l2 f2)
          all_goals go_wp2
          all_goals go_meet
          all_goals exact ⟨_, _, _, _, HT1, HB1⟩
       case rest =>
        clear l1 l2 f1 f2 HT1 HB1 HA a1 a2 a3 a4 HT2 HB2
        clear g h c d
        obtain ⟨g, h, c, d, HT, HB⟩ := hcut
        have hx : GfM.swapX i r L i i ≠ 0#8 := by have := HZ.out; unfold GfM.swapX; rwa [if_pos rfl]
        obtain ⟨xp, hxp⟩ : ∃ x, x = GfM.swapX i r L i i := ⟨_, rfl⟩
        rw [← hxp] at hx
        have HEI := Aside0.mk (HI.out xp hx)
        have l1 := HT.out.loadL hlt
        have l2 := HT.out.cellL hlt hlt
        rw [← hxp] at l2
        obtain ⟨xv, hxv⟩ : ∃ xv : Int, xv = (xp.toNat : Int) := ⟨_, rfl⟩
        obtain ⟨iv, hiv⟩ : ∃ iv : Int, iv = ((GfM.inv xp).toNat : Int) := ⟨_, rfl⟩
        rw [← hxv] at l2
        have HEI2 := Aside0.mk (show caulkref02_Inv.f kI xv = some (iv, 0) from by rw [hxv, hiv]; exact HEI.out)
        have HXP := Aside0.mk hxp
        have HXV := Aside0.mk hxv
        have HIV := Aside0.mk hiv
        clear hx hxp hxv hiv HEI
        go_upto_region 18 with (fail)
        go_cut [10] (fun x wc => x = .int .u8 iv ∧ Aside0 (Two w.heap.size wc ga ma gb mb n g h c d (GfM.swapX i r L) (GfM.swapX i r R)) ∧ Aside0 (Below w.heap.size w wc))
        case first =>
         as_aux_lemma =>
          go_wp2_with (go_at_call 53; (with_reducible refine (caulkref02_Inv.calls kI _ _ _ _ HEI2.out).mono ?_); rintro e w7 ⟨rfl, ⟨nd7, rfl⟩⟩; have HT7 := Aside0.mk (HT.out.drewN nd7); have HB7 := Aside0.mk (pw_below_drewN HB.out nd7))
          go_meet
          exact ⟨rfl, HT7, HB7⟩
        case rest =>
         clear l1 l2 HEI2 HT HB
         obtain ⟨rfl, HT, HB⟩ := hcut
         obtain ⟨L1, hL1⟩ : ∃ L1, L1 = GfM.swapX i r L := ⟨_, rfl⟩
         obtain ⟨R1, hR1⟩ : ∃ R1, R1 = GfM.swapX i r R := ⟨_, rfl⟩
         rw [← hL1, ← hR1] at HT
         have HL1 := Aside0.mk hL1
         have HR1 := Aside0.mk hR1
         clear hL1 hR1
         go_upto_region 19 with (fail)
         go_wp2
         go_loopw [12] (fun v wr => ∃ (j : Nat), j ≤ n ∧ v = .int .i64 j ∧ Aside0 (Two w.heap.size wr ga ma gb mb n g h c d (scX i j (GfM.inv xp) L1) (scX i j (GfM.inv xp) R1)) ∧ Aside0 (Below w.heap.size w wr)) (fun v _ => n - (intOf v).toNat)
         case atStart => exact ⟨0, Nat.zero_le _, by simp, ⟨HT.out.congr (fun r _ c _ => by unfold scX; rw [if_neg (by omega)]) (fun r _ c _ => by unfold scX; rw [if_neg (by omega)])⟩, HB⟩
         case round =>
          clear HT HB
          obtain ⟨j, hj, rfl, HT, HB⟩ := hrel
          by_cases hjn : j < n
          ·have w2 : wrap64 ((j : Int) + 1) = (j : Int) + 1 := by unfold wrap64; omega
           go_upto_region 22 with (fail)
           have l1 := HT.out.loadL hlt
           have l2 := HT.out.cellL hlt hjn
           have f1 := HT.out.frozenL hlt j
           obtain ⟨a1, ha1⟩ : ∃ a, a = g i := ⟨_, rfl⟩
           obtain ⟨a3, ha3⟩ : ∃ a, a = c i := ⟨_, rfl⟩
           obtain ⟨av, hav⟩ : ∃ av : Int, av = ((scX i j (GfM.inv xp) L1 i j).toNat : Int) := ⟨_, rfl⟩
           obtain ⟨mv, hmv⟩ : ∃ mv : Int, mv = ((GfM.mul (scX i j (GfM.inv xp) L1 i j) (GfM.inv xp)).toNat : Int) := ⟨_, rfl⟩
           have HM := Aside0.mk (show caulkref02_Mul.f av iv = some mv from by rw [hav, HIV.out, hmv]; exact refmul_nat _ _)
           rw [← ha1, ← ha3] at l1
           rw [← ha1, ← hav] at l2
           rw [← ha1] at f1
           have HA := Aside0.mk (And.intro ha1 (And.intro ha3 (And.intro hav hmv)))
           clear ha1 ha3 hav hmv
           go_cut [] (fun wc => Aside0 (Two w.heap.size wc ga ma gb mb n g h c d (scX i (j + 1) (GfM.inv xp) L1) (scX i j (GfM.inv xp) R1)) ∧ Aside0 (Below w.heap.size w wc))
           case first =>
            clear HE HPV HV HZ HXP HXV HIV HL1 HR1
            go_region_law (first | (refine goes_ Tryd.func54 (by kernel_rfl) rfl #[.int .u8 av, .int .u8 iv] (by rfl) rfl rfl (by simp only [List.map_toArray, List.map_cons, List.map_nil]; rfl) ?_; (with_reducible refine (caulkref02_Mul.calls _ _ _ _ HM.out).mono ?_); rintro e w7 ⟨rfl, ⟨nd7, rfl⟩⟩; refine ⟨_, rfl, ?_⟩))
            all_goals go_wp2
            all_goals go_meet
            all_goals obtain ⟨ha1, ha3, hav, hmv⟩ := HA.out
            all_goals rw [ha1, hmv]
            all_goals exact ⟨⟨((HT.out.drewN _).setL hlt hjn _).congr (fun r _ c _ => scX_step i j _ _ r c) (fun _ _ _ _ => rfl)⟩, ⟨(pw_below_drewN HB.out _).setCell (p := ⟨g i, j, none⟩) (HT.out.ml.low i hlt) _⟩⟩
           case rest =>
            clear l1 l2 f1 HA HM a1 a3 av mv HT HB
            obtain ⟨HT, HB⟩ := hcut
            go_upto_region 23 with (fail)
            have l1 := HT.out.loadR hlt
            have l2 := HT.out.cellR hlt hjn
            have f1 := HT.out.frozenR hlt j
            obtain ⟨a1, ha1⟩ : ∃ a, a = h i := ⟨_, rfl⟩
            obtain ⟨a3, ha3⟩ : ∃ a, a = d i := ⟨_, rfl⟩
            obtain ⟨av, hav⟩ : ∃ av : Int, av = ((scX i j (GfM.inv xp) R1 i j).toNat : Int) := ⟨_, rfl⟩
            obtain ⟨mv, hmv⟩ : ∃ mv : Int, mv = ((GfM.mul (scX i j (GfM.inv xp) R1 i j) (GfM.inv xp)).toNat : Int) := ⟨_, rfl⟩
            have HM := Aside0.mk (show caulkref02_Mul.f av iv = some mv from by rw [hav, HIV.out, hmv]; exact refmul_nat _ _)
            rw [← ha1, ← ha3] at l1
            rw [← ha1, ← hav] at l2
            rw [← ha1] at f1
            have HA := Aside0.mk (And.intro ha1 (And.intro ha3 (And.intro hav hmv)))
            clear ha1 ha3 hav hmv
            clear HE HPV HV HZ HXP HXV HIV HL1 HR1
            go_region_law (first | (refine goes_ Tryd.func54 (by kernel_rfl) rfl #[.int .u8 av, .int .u8 iv] (by rfl) rfl rfl (by simp only [List.map_toArray, List.map_cons, List.map_nil]; rfl) ?_; (with_reducible refine (caulkref02_Mul.calls _ _ _ _ HM.out).mono ?_); rintro e w7 ⟨rfl, ⟨nd7, rfl⟩⟩; refine ⟨_, rfl, ?_⟩))
            all_goals
             clear l1 l2 f1 HM
             go_wp2
             go_roundw
             case rel =>
              obtain ⟨ha1, ha3, hav, hmv⟩ := HA.out
              rw [ha1, hmv]
              exact ⟨j + 1, by omega, by go_num, ⟨((HT.out.drewN _).setR hlt hjn _).congr (fun _ _ _ _ => rfl) (fun r _ c _ => scX_step i j _ _ r c)⟩, ⟨(pw_below_drewN HB.out _).setCell (p := ⟨h i, j, none⟩) (HT.out.mr.low i hlt) _⟩⟩
             case measure => simp [intOf]; omega
          ·have hjn' : n = j := by omega
           subst hjn'
           obtain ⟨L2, hL2⟩ : ∃ A, A = GfM.scaleX i (GfM.inv xp) L1 := ⟨_, rfl⟩
           obtain ⟨R2, hR2⟩ : ∃ A, A = GfM.scaleX i (GfM.inv xp) R1 := ⟨_, rfl⟩
           have HT2 := Aside0.mk (HT.out.congr (L' := L2) (R' := R2) (fun r _ c hc => by rw [hL2]; exact scX_all i (GfM.inv xp) L1 r c hc) (fun r _ c hc => by rw [hR2]; exact scX_all i (GfM.inv xp) R1 r c hc))
           have HL2 := Aside0.mk hL2
           have HR2 := Aside0.mk hR2
           clear HT hL2 hR2
           go_upto_region 24 with (fail)
           go_wp2
           go_loopw [13] (fun v wr => ∃ (k : Nat), k ≤ n ∧ v = .int .i64 k ∧ Aside0 (Two w.heap.size wr ga ma gb mb n g h c d (clY i k 0 L2 L2) (clY i k 0 L2 R2)) ∧ Aside0 (Below w.heap.size w wr)) (fun v _ => n - (intOf v).toNat)
           case atStart => exact ⟨0, Nat.zero_le _, by simp, ⟨HT2.out.congr (fun r _ c _ => clY_zero i L2 L2 r c) (fun r _ c _ => clY_zero i L2 R2 r c)⟩, HB⟩
           case round =>
            clear HT2 HB
            obtain ⟨k, hk, rfl, HT, HB⟩ := hrel
            by_cases hkn : k < n
            ·have w2 : wrap64 ((k : Int) + 1) = (k : Int) + 1 := by unfold wrap64; omega
             have l1 := HT.out.loadL hkn
             have l2 := HT.out.cellL hkn hlt
             rw [clY_at L2 L2 i (Nat.zero_le _)] at l2
             obtain ⟨fv, hfv⟩ : ∃ fv : Int, fv = ((L2 k i).toNat : Int) := ⟨_, rfl⟩
             rw [← hfv] at l2
             have HFV := Aside0.mk hfv
             clear hfv
             go_wp2
             clear l1 l2
             go_loopw [15] (fun v wr => ∃ (q : Nat), q ≤ n ∧ v = .int .i64 q ∧ Aside0 (Two w.heap.size wr ga ma gb mb n g h c d (clY i k q L2 L2) (clY i k q L2 R2)) ∧ Aside0 (Below w.heap.size w wr)) (fun v _ => n - (intOf v).toNat)
             case atStart => exact ⟨0, Nat.zero_le _, by simp, HT, HB⟩
             case round =>
              clear HT HB
              obtain ⟨q, hq, rfl, HT, HB⟩ := hrel
              by_cases hqn : q < n
              ·have w3 : wrap64 ((q : Int) + 1) = (q : Int) + 1 := by unfold wrap64; omega
               by_cases hki : k = i
               ·have b3 : ((k : Int) != (i : Int)) = false := by simp [hki]
                have HT3 := Aside0.mk (HT.out.congr (L' := clY i (k + 1) 0 L2 L2) (R' := clY i (k + 1) 0 L2 R2) (fun r _ c _ => by rw [hki]; exact clY_self L2 L2 r c) (fun r _ c _ => by rw [hki]; exact clY_self L2 R2 r c))
                clear HT
                go_wp2
                go_roundw
                case rel => exact ⟨k + 1, by omega, by go_num, HT3, HB⟩
                case measure => simp [intOf]; omega
               ·have b3 : ((k : Int) != (i : Int)) = true := by simp; omega
                go_upto_region 31 with (fail)
                have l1 := HT.out.loadL hkn
                have l2 := HT.out.loadL hlt
                have l3 := HT.out.cellL hkn hqn
                have l4 := HT.out.cellL hlt hqn
                rw [clY_at L2 L2 q (Nat.le_refl _)] at l3
                rw [clY_top L2 L2 q] at l4
                have f1 := HT.out.frozenL hkn q
                obtain ⟨a1, ha1⟩ : ∃ a, a = g k := ⟨_, rfl⟩
                obtain ⟨a2, ha2⟩ : ∃ a, a = g i := ⟨_, rfl⟩
                obtain ⟨a3, ha3⟩ : ∃ a, a = c k := ⟨_, rfl⟩
                obtain ⟨a4, ha4⟩ : ∃ a, a = c i := ⟨_, rfl⟩
                obtain ⟨pv, hpv⟩ : ∃ pv : Int, pv = ((L2 k q).toNat : Int) := ⟨_, rfl⟩
                obtain ⟨sv, hsv⟩ : ∃ sv : Int, sv = ((L2 i q).toNat : Int) := ⟨_, rfl⟩
                obtain ⟨mv, hmv⟩ : ∃ mv : Int, mv = ((GfM.mul (L2 k i) (L2 i q)).toNat : Int) := ⟨_, rfl⟩
                have HM := Aside0.mk (show caulkref02_Mul.f fv sv = some mv from by rw [HFV.out, hsv, hmv]; exact refmul_nat _ _)
                rw [← ha1, ← ha3] at l1
                rw [← ha2, ← ha4] at l2
                rw [← ha1, ← hpv] at l3
                rw [← ha2, ← hsv] at l4
                rw [← ha1] at f1
                have HA := Aside0.mk (And.intro ha1 (And.intro hpv hmv))
                clear ha1 ha2 ha3 ha4 hpv hsv hmv
                go_cut [] (fun wc => Aside0 (Two w.heap.size wc ga ma gb mb n g h c d (clY i k (q + 1) L2 L2) (clY i k q L2 R2)) ∧ Aside0 (Below w.heap.size w wc))
                case first =>
                 clear HE HPV HV HZ HXP HXV HIV HL1 HR1 HL2 HR2 b3
                 go_region_law (first | (refine goes_ Tryd.func54 (by kernel_rfl) rfl #[.int .u8 fv, .int .u8 sv] (by rfl) rfl rfl (by simp only [List.map_toArray, List.map_cons, List.map_nil]; rfl) ?_; (with_reducible refine (caulkref02_Mul.calls _ _ _ _ HM.out).mono ?_); rintro e w7 ⟨rfl, ⟨nd7, rfl⟩⟩; refine ⟨_, rfl, ?_⟩))
                 all_goals go_wp2
                 all_goals go_meet
                 all_goals obtain ⟨ha1, hpv, hmv⟩ := HA.out
                 all_goals rw [ha1, hpv, hmv, g_xor8]
                 all_goals exact ⟨⟨((HT.out.drewN _).setL hkn hqn _).congr (fun r _ c _ => clY_step hki L2 L2 r c) (fun _ _ _ _ => rfl)⟩, ⟨(pw_below_drewN HB.out _).setCell (p := ⟨g k, q, none⟩) (HT.out.ml.low k hkn) _⟩⟩
                case rest =>
                 clear l1 l2 l3 l4 f1 HA HM a1 a2 a3 a4 pv sv mv HT HB
                 obtain ⟨HT, HB⟩ := hcut
                 go_upto_region 32 with (fail)
                 have l1 := HT.out.loadR hkn
                 have l2 := HT.out.loadR hlt
                 have l3 := HT.out.cellR hkn hqn
                 have l4 := HT.out.cellR hlt hqn
                 rw [clY_at L2 R2 q (Nat.le_refl _)] at l3
                 rw [clY_top L2 R2 q] at l4
                 have f1 := HT.out.frozenR hkn q
                 obtain ⟨a1, ha1⟩ : ∃ a, a = h k := ⟨_, rfl⟩
                 obtain ⟨a2, ha2⟩ : ∃ a, a = h i := ⟨_, rfl⟩
                 obtain ⟨a3, ha3⟩ : ∃ a, a = d k := ⟨_, rfl⟩
                 obtain ⟨a4, ha4⟩ : ∃ a, a = d i := ⟨_, rfl⟩
                 obtain ⟨pv, hpv⟩ : ∃ pv : Int, pv = ((R2 k q).toNat : Int) := ⟨_, rfl⟩
                 obtain ⟨sv, hsv⟩ : ∃ sv : Int, sv = ((R2 i q).toNat : Int) := ⟨_, rfl⟩
                 obtain ⟨mv, hmv⟩ : ∃ mv : Int, mv = ((GfM.mul (L2 k i) (R2 i q)).toNat : Int) := ⟨_, rfl⟩
                 have HM := Aside0.mk (show caulkref02_Mul.f fv sv = some mv from by rw [HFV.out, hsv, hmv]; exact refmul_nat _ _)
                 rw [← ha1, ← ha3] at l1
                 rw [← ha2, ← ha4] at l2
                 rw [← ha1, ← hpv] at l3
                 rw [← ha2, ← hsv] at l4
                 rw [← ha1] at f1
                 have HA := Aside0.mk (And.intro ha1 (And.intro hpv hmv))
                 clear ha1 ha2 ha3 ha4 hpv hsv hmv
                 clear HE HPV HV HZ HXP HXV HIV HL1 HR1 HL2 HR2 b3
                 go_region_law (first | (refine goes_ Tryd.func54 (by kernel_rfl) rfl #[.int .u8 fv, .int .u8 sv] (by rfl) rfl rfl (by simp only [List.map_toArray, List.map_cons, List.map_nil]; rfl) ?_; (with_reducible refine (caulkref02_Mul.calls _ _ _ _ HM.out).mono ?_); rintro e w7 ⟨rfl, ⟨nd7, rfl⟩⟩; refine ⟨_, rfl, ?_⟩))
                 all_goals
                  clear l1 l2 l3 l4 f1 HM
                  go_wp2
                  go_roundw
                  case rel =>
                   obtain ⟨ha1, hpv, hmv⟩ := HA.out
                   rw [ha1, hpv, hmv, g_xor8]
                   exact ⟨q + 1, by omega, by go_num, ⟨((HT.out.drewN _).setR hkn hqn _).congr (fun _ _ _ _ => rfl) (fun r _ c _ => clY_step hki L2 R2 r c)⟩, ⟨(pw_below_drewN HB.out _).setCell (p := ⟨h k, q, none⟩) (HT.out.mr.low k hkn) _⟩⟩
                  case measure => simp [intOf]; omega
              ·have hqn' : n = q := by omega
               subst hqn'
               have HT3 := Aside0.mk (HT.out.congr (L' := clY i (k + 1) 0 L2 L2) (R' := clY i (k + 1) 0 L2 R2) (fun r _ c hc => clY_next L2 L2 r c hc) (fun r _ c hc => clY_next L2 R2 r c hc))
               clear HT
               go_wp2
               go_roundw
               case rel => exact ⟨k + 1, by omega, by go_num, HT3, HB⟩
               case measure => simp [intOf]; omega
            ·have hkn' : n = k := by omega
             subst hkn'
             have HT3 := Aside0.mk (HT.out.congr (L' := GfM.turnX i r L L) (R' := GfM.turnX i r L R) (fun r' hr' c _ => by unfold GfM.turnX; rw [clY_all i L2 L2 r' c hr', HL2.out, HXP.out, HL1.out]) (fun r' hr' c _ => by unfold GfM.turnX; rw [clY_all i L2 R2 r' c hr', HL2.out, HR2.out, HXP.out, HL1.out, HR1.out]))
             obtain ⟨k, hk⟩ : ∃ k, n - i = k + 1 := ⟨n - i - 1, by omega⟩
             have HE2 := Aside0.mk (show GfM.elimX n (n - (i + 1)) (i + 1) (GfM.turnX i r L L) (GfM.turnX i r L R) = GfM.invX n M from by
              have hE := HE.out
              have hp := HPV.out
              rw [hk, GfM.elimX, hp] at hE
              rw [show n - (i + 1) = k from by omega]
              exact hE)
             clear HT hk
             go_wp2
             go_roundw
             case rel => exact ⟨i + 1, g, h, c, d, _, _, by omega, by go_num, HT3, HE2, HB⟩
             case measure => simp [intOf]; omega
    ·have hrn' : r = n := by omega
     subst hrn'
     have HPV : Aside0 (GfM.pivotX L i (r - i) i = none) := ⟨by rw [HP.out, Nat.sub_self, GfM.pivotX]⟩
     have hE := HE.out
     obtain ⟨k, hk⟩ : ∃ k, r - i = k + 1 := ⟨r - i - 1, by omega⟩
     rw [hk, GfM.elimX, HPV.out] at hE
     have hh := HH.out
     rw [← hE] at hh
     obtain ⟨rfl, rfl⟩ := hh
     clear hE HE HPV HP HH hk
     go_wp2
     go_ret2
     exact ⟨_, rfl, N_nil _ _, HB.out⟩
  ·have hin : i = n := by omega
   subst hin
   have hE := HE.out
   rw [Nat.sub_self, GfM.elimX] at hE
   have hh := HH.out
   rw [← hE] at hh
   obtain ⟨rfl, rfl⟩ := hh
   clear hE HH HE
   go_wp2
   go_ret2
   exact ⟨_, rfl, HT.out.mr.N HMB.out.1 HMB.out.2 (by omega), HB.out⟩
end Go.Proofs.YteiiaonpdamkhaaDoor.G
