-- Written by a program of this session over the print of the translation (its own patch, foreign contracts, cut ways): not trusted: Lean checks it.
import Derived.Test.YteiiaonpdamkhaaDoorGx0
import Derived.Test.YteiiaonpdamkhaaDoorGx4
import Derived.Test.YteiiaonpdamkhaaDoorGx8
import Derived.Test.YteiiaonpdamkhaaDoorGfRef
namespace Go.Proofs.YteiiaonpdamkhaaDoor.G
open Go.RowKit Go.Proofs.YteiiaonpdamkhaaDoorW.PrintWords Go.Proofs.YteiiaonpdamkhaaDoorW.PrintLast Go.Proofs.YteiiaonpdamkhaaDoorW.PrintMore
attribute [local go_sem] max2_int min2_int max_two min_two max_three min_three max_four min_four   -- for this text's walks alone
set_option linter.unusedVariables false
set_option linter.unusedSimpArgs false

/-! ### caulkref03_Mul: function 76 -/
mutual
def caulkref03_Mul.j0 : Nat → List (List Int) → List (List Int) → Bool → Option ((List (List Int)) × Int)
  | 0, _, _, _ => none
  | k + 1, x0, x1, x17 => if x17 = true then (some (([] : List (List Int)), 2)) else (if 0 < (x0.length : Int) then (if (x1.length : Int) = ((rd_L2 x0 0).length : Int) then (if 0 < (x1.length : Int) then ((caulkref03_zero.f k (x0.length : Int) ((rd_L2 x1 0).length : Int)).bind fun t286 => (caulkref03_Mul.l0 k x0 x1 t286 (t286.length : Int) 0)) else (none)) else (some (([] : List (List Int)), 1))) else (none))
def caulkref03_Mul.l0 : Nat → List (List Int) → List (List Int) → List (List Int) → Int → Int → Option ((List (List Int)) × Int)
  | 0, _, _, _, _, _ => none
  | k + 1, x0, x1, x6, x33, x34 => if x34 < x33 then (if 0 ≤ x34 then (if x34 < (x6.length : Int) then (caulkref03_Mul.l1 k x0 x1 x6 x34 x33 x34 ((rd_L2 x6 x34).length : Int) 0) else (none)) else (none)) else (some (x6, 0))
def caulkref03_Mul.l1 : Nat → List (List Int) → List (List Int) → List (List Int) → Int → Int → Int → Int → Int → Option ((List (List Int)) × Int)
  | 0, _, _, _, _, _, _, _, _ => none
  | k + 1, x0, x1, x6, x7, x33, x34, x41, x42 => if x42 < x41 then (caulkref03_Mul.l2 k x0 x1 x6 x7 x42 x33 x34 x41 x42 (x1.length : Int) 0) else (caulkref03_Mul.l0 k x0 x1 x6 x33 (wrap64 (x34 + 1)))
def caulkref03_Mul.l2 : Nat → List (List Int) → List (List Int) → List (List Int) → Int → Int → Int → Int → Int → Int → Int → Int → Option ((List (List Int)) × Int)
  | 0, _, _, _, _, _, _, _, _, _, _, _ => none
  | k + 1, x0, x1, x6, x7, x8, x33, x34, x41, x42, x46, x47 => if x47 < x46 then (if 0 ≤ x7 then (if x7 < (x6.length : Int) then (if 0 ≤ x8 then (if x8 < ((rd_L2 x6 x7).length : Int) then (if x7 < (x0.length : Int) then (if 0 ≤ x47 then (if x47 < ((rd_L2 x0 x7).length : Int) then (if x47 < (x1.length : Int) then (if x8 < ((rd_L2 x1 x47).length : Int) then ((caulkref02_Mul.f (rd (rd_L2 x0 x7) x47) (rd (rd_L2 x1 x47) x8)).bind fun t296 => (caulkref03_Mul.l2 k x0 x1 (x6.set (x7 : Int).toNat ((rd_L2 x6 x7).set (x8 : Int).toNat (Go.bits .xor .u8 (rd (rd_L2 x6 x7) x8) t296))) x7 x8 x33 x34 x41 x42 x46 (wrap64 (x47 + 1)))) else (none)) else (none)) else (none)) else (none)) else (none)) else (none)) else (none)) else (none)) else (none)) else (caulkref03_Mul.l1 k x0 x1 x6 x7 x33 x34 x41 (wrap64 (x42 + 1)))
end
def caulkref03_Mul.f (k : Nat) (l0 : List (List Int)) (l1 : List (List Int)) : Option ((List (List Int)) × Int) := (caulkref03_Check.f k l0).bind fun t282 => (if t282 = 0 then ((caulkref03_Check.f k l1).bind fun t283 => (caulkref03_Mul.j0 k l0 l1 (t283 != 0))) else (caulkref03_Mul.j0 k l0 l1 true))
def caulkref03_Mul.T15 : Bool × List (List Nat × List Nat) := (true, [([], []), ([], []), ([0, 1], [0, 1]), ([2], [2]), ([], []), ([3, 4], [3, 4]), ([5], [5]), ([], []), ([], []), ([7, 8], [7, 8]), ([9], [9]), ([], []), ([10, 11], [10, 11]), ([12], [12]), ([], []), ([], []), ([14, 15], [14, 15]), ([16], [16]), ([], []), ([17, 18], [17, 18]), ([19], [19]), ([13, 20], [13, 20]), ([6, 21], [6, 21]), ([3, 4, 0, 1, 2, 3, 4, 5, 6, 7, 8, 9, 10, 11, 12, 13, 14, 15, 16, 17, 18, 19, 20, 21, 22], [3, 4]), ([23, 22, 21, 0, 1, 2, 3, 4, 5, 6, 7, 8, 9, 10, 11, 12, 13, 14, 15, 16, 17, 18, 19, 20, 21, 22], [22, 23])])
def caulkref03_Mul.B15 : List Nat := [0, 0, 3, 7, 0, 31, 63, 0, 0, 384, 896, 0, 3968, 8064, 0, 0, 49152, 114688, 0, 507904, 1032192, 2097024, 4194303, 8388607, 16777215]
theorem caulkref03_Mul.tab15 : rtab .any (opsOf Tryd.f76 15) = caulkref03_Mul.T15 := by kernel_rfl
theorem caulkref03_Mul.bits15 : waitsOk caulkref03_Mul.T15.2 caulkref03_Mul.B15 = true := by kernel_rfl
set_option maxHeartbeats 8000000 in
set_option maxRecDepth 100000 in
theorem caulkref03_Mul.calls (k : Nat) (A0 : Option Addr) (c0 : Nat) (l0 : List (List Int)) (A1 : Option Addr) (c1 : Nat) (l1 : List (List Int)) (r1 : List (List Int)) (r2 : Int) (w : World) (hr0 : Kd.C (Kd.slice 5 (Kd.int .u8)) w A0 l0.length l0) (hc0 : l0.length ≤ c0) (hr1 : Kd.C (Kd.slice 5 (Kd.int .u8)) w A1 l1.length l1) (hc1 : l1.length ≤ c1) (h : caulkref03_Mul.f k l0 l1 = some (r1, r2)) :
    Calls Tryd.prog 76 #[.slice A0 l0.length c0, .slice A1 l1.length c1] w fun e w' => ∃ v0_ : Value, e = .returned (.tuple #[v0_, .int .i64 r2]) ∧ Kd.S (Kd.slice 5 (Kd.int .u8)) 76 w' w.heap.size (fun _ => True) v0_ r1 ∧ Below w.heap.size w w' := by
  have HR0 := Aside0.mk hr0
  have HC0 := Aside0.mk hc0
  clear hr0 hc0
  have HR1 := Aside0.mk hr1
  have HC1 := Aside0.mk hc1
  clear hr1 hc1
  have HB := Aside0.mk (Below.refl w.heap.size w)
  have H : ((caulkref03_Check.f k l0).bind fun t282 => (if t282 = 0 then ((caulkref03_Check.f k l1).bind fun t283 => (caulkref03_Mul.j0 k l0 l1 (t283 != 0))) else (caulkref03_Mul.j0 k l0 l1 true))) = some (r1, r2) := h
  clear h
  have HC3 := Aside0.mk H
  clear H
  go_enter Tryd.func76, Tryd.ntmps76
  go_upto_region 1 with (fail)
  go_cut [17] (fun v17 wc => ∃ (kq : Nat) (x17_2 : Bool), v17 = .bool x17_2 ∧ Aside0 (caulkref03_Mul.j0 kq l0 l1 x17_2 = some (r1, r2)) ∧ Aside0 (kq ≤ k) ∧ Aside0 (Below w.heap.size w wc))
  case first =>
    have H := HC3.out
    clear HC3
    replace H := Option.bind_eq_some_iff.mp H
    obtain ⟨t282, A40, H⟩ := H
    replace H : (if t282 = 0 then ((caulkref03_Check.f k l1).bind fun t283 => (caulkref03_Mul.j0 k l0 l1 (t283 != 0))) else (caulkref03_Mul.j0 k l0 l1 true)) = some (r1, r2) := H
    have A4 := Aside0.mk A40
    clear A40
    by_cases c5 : t282 = 0
    · rw [if_pos c5] at H
      have c5b0 : (t282 == 0) = true := beq_iff_eq.mpr c5
      have c5b1 : (t282 != 0) = false := bne_eq_false_iff_eq.mpr c5
      clear c5
      (first | rw [c5b0] | (simp only [i64_w, i32_w]; rw [c5b0]) | skip)
      replace H := Option.bind_eq_some_iff.mp H
      obtain ⟨t283, A60, H⟩ := H
      replace H : (caulkref03_Mul.j0 k l0 l1 (t283 != 0)) = some (r1, r2) := H
      have A6 := Aside0.mk A60
      clear A60
      have H' := Aside0.mk H
      clear H
      go_wp2_with (first | ((with_reducible refine gate_callee (f := 75) rfl ?_); refine goesL_ (some 11) rfl rfl Tryd.func75 (by kernel_rfl) rfl #[.slice A0 l0.length c0] rfl (by (try simp only [List.map_toArray, List.map_cons, List.map_nil]); first | done | rfl | (simp only [List.length_drop, List.length_take]; rfl)) ?_; (with_reducible refine (caulkref03_Check.calls k _ _ l0 t282 _ ?side1 ?side2 A4.out).mono ?_); (case side1 => repeat (first | exact (Kd.C_below HR0.out HB.out) | (with_reducible refine Kd.C_alloc ?_ _) | (with_reducible refine Kd.C_drewN ?_ _) | (with_reducible refine Kd.C_drew ?_))); (case side2 => exact HC0.out); rintro e w' ⟨rfl, ⟨nd, rfl⟩⟩; refine ⟨_, rfl, ?_⟩) | (go_at_call 75; (with_reducible refine (caulkref03_Check.calls k _ _ l1 t283 _ ?side1 ?side2 A6.out).mono ?_); (case side1 => repeat (first | exact (Kd.C_below HR1.out (by repeat (first | (with_reducible first | exact HB.out | apply below_alloc | apply pw_below_drewN | apply below_drew1) | exact HB.out))) | (with_reducible refine Kd.C_alloc ?_ _) | (with_reducible refine Kd.C_drewN ?_ _) | (with_reducible refine Kd.C_drew ?_))); (case side2 => exact HC1.out); rintro e w' ⟨rfl, ⟨nd, rfl⟩⟩))
      go_meet
      case rel => exact ⟨_, ((t283 != 0)), (by first | rfl | (simp; done) | (simp [*]; done)), H', ⟨by first | omega | exact Nat.le_refl _⟩, ⟨by repeat (first | (with_reducible first | exact HB.out | apply below_alloc | apply pw_below_drewN | apply below_drew1) | exact HB.out)⟩⟩
    · rw [if_neg c5] at H
      have c5b0 : (t282 == 0) = false := beq_eq_false_iff_ne.mpr c5
      have c5b1 : (t282 != 0) = true := bne_iff_ne.mpr c5
      (first | rw [c5b0] | (simp only [i64_w, i32_w]; rw [c5b0]) | skip)
      have H' := Aside0.mk H
      clear H
      go_wp2_with (first | ((with_reducible refine gate_callee (f := 75) rfl ?_); refine goesL_ (some 11) rfl rfl Tryd.func75 (by kernel_rfl) rfl #[.slice A0 l0.length c0] rfl (by (try simp only [List.map_toArray, List.map_cons, List.map_nil]); first | done | rfl | (simp only [List.length_drop, List.length_take]; rfl)) ?_; (with_reducible refine (caulkref03_Check.calls k _ _ l0 t282 _ ?side1 ?side2 A4.out).mono ?_); (case side1 => repeat (first | exact (Kd.C_below HR0.out HB.out) | (with_reducible refine Kd.C_alloc ?_ _) | (with_reducible refine Kd.C_drewN ?_ _) | (with_reducible refine Kd.C_drew ?_))); (case side2 => exact HC0.out); rintro e w' ⟨rfl, ⟨nd, rfl⟩⟩; refine ⟨_, rfl, ?_⟩))
      go_meet
      case rel => exact ⟨_, (true), (by first | rfl | (simp; done) | (simp [*]; done)), H', ⟨by first | omega | exact Nat.le_refl _⟩, ⟨by repeat (first | (with_reducible first | exact HB.out | apply below_alloc | apply pw_below_drewN | apply below_drew1) | exact HB.out)⟩⟩
  case rest =>
    clear HC3
    try clear c1
    try clear p2
    try clear c5
    try clear c5b0
    try clear c5b1
    obtain ⟨kq, x17_2, rfl, HA, HJ2, HB⟩ := hcut
    cases kq with
    | zero => exact absurd HA.out (by simp [caulkref03_Mul.j0])
    | succ kj2 =>
      have H := HA.out
      clear HA
      simp only [caulkref03_Mul.j0] at H
      by_cases c7 : x17_2 = true
      · subst c7
        have H1 : (some (([] : List (List Int)), 2)) = some (r1, r2) := by rw [if_pos rfl] at H; exact H
        clear H
        have H := H1
        clear H1
        simp only [Option.some.injEq, Prod.mk.injEq] at H
        obtain ⟨rfl, rfl⟩ := H
        go_wp2
        go_ret2
        exact ⟨_, by first | rfl | (simp [errW_none, errW_some] <;> rfl) | (simp [*, errW_none, errW_some] <;> rfl), by first | exact Kd.S_nil _ _ _ _ _ | exact Kd.N_nil _ _ _ _ _ | exact Kd.V_nil _ _ _ _ _ | exact Kd.Q_nil _ _ _ _ _ | exact Kd.R_nil _ _ _ _ _, by repeat (first | (with_reducible first | exact HB.out | apply below_alloc | apply pw_below_drewN | apply below_drew1) | exact HB.out)⟩
      · replace c7 := Bool.eq_false_iff.mpr c7
        subst c7
        have H1 : (if 0 < (l0.length : Int) then (if (l1.length : Int) = ((rd_L2 l0 0).length : Int) then (if 0 < (l1.length : Int) then ((caulkref03_zero.f kj2 (l0.length : Int) ((rd_L2 l1 0).length : Int)).bind fun t286 => (caulkref03_Mul.l0 kj2 l0 l1 t286 (t286.length : Int) 0)) else (none)) else (some (([] : List (List Int)), 1))) else (none)) = some (r1, r2) := by rw [if_neg (show ¬ (false = true) by decide)] at H; exact H
        clear H
        have H := H1
        clear H1
        by_cases c8 : 0 < (l0.length : Int)
        · rw [if_pos c8] at H
          have c8b0 : decide (0 < (l0.length : Int)) = true := decide_eq_true c8
          have c8b1 : decide (0 < l0.length) = true := decide_eq_true (by omega)
          clear c8
          by_cases c9 : (l1.length : Int) = ((rd_L2 l0 0).length : Int)
          · rw [if_pos c9] at H
            have c9b0 : ((l1.length : Int) == ((rd_L2 l0 0).length : Int)) = true := beq_iff_eq.mpr c9
            have c9b1 : ((l1.length : Int) != ((rd_L2 l0 0).length : Int)) = false := bne_eq_false_iff_eq.mpr c9
            have c9b2 : (l1.length == (rd_L2 l0 0).length) = true := by first | simpa using c9 | (simp at c9 ⊢; omega)
            clear c9
            by_cases c10 : 0 < (l1.length : Int)
            · rw [if_pos c10] at H
              have c10b0 : decide (0 < (l1.length : Int)) = true := decide_eq_true c10
              have c10b1 : decide (0 < l1.length) = true := decide_eq_true (by omega)
              clear c10
              replace H := Option.bind_eq_some_iff.mp H
              obtain ⟨t286, A110, H⟩ := H
              replace H : (caulkref03_Mul.l0 kj2 l0 l1 t286 (t286.length : Int) 0) = some (r1, r2) := H
              have A11 := Aside0.mk A110
              clear A110
              have H' := Aside0.mk H
              clear H
              have p284 : 0 ≤ (0 : Int) := (by omega)
              have q284 : 0 < (l0.length : Int) := of_decide_eq_true (by first | (with_reducible assumption) | assumption)
              obtain ⟨ad284, A284_0, c284_0, e284, hx284_0, hl284_0, hi284_0⟩ := at_L2 HR0.out 0 p284 q284
              cases e284
              have qi284 : (0 < l0.length) = True := eq_true (by omega)
              (try rw [show ((0 : Int)).toNat = 0 from rfl] at hx284_0)
              (try rw [Addr.add_zero'] at hx284_0)
              replace hx284_0 := (HB.out.cell (World.block_lt_of_cell? w _ hx284_0)).trans hx284_0
              have HR284_0 := Aside0.mk hi284_0
              have HC284_0 := Aside0.mk hl284_0
              clear hi284_0 hl284_0
              replace p284 := eq_true p284
              replace q284 := eq_true q284
              have p285 : 0 ≤ (0 : Int) := (by omega)
              have q285 : 0 < (l1.length : Int) := of_decide_eq_true (by first | (with_reducible assumption) | assumption)
              obtain ⟨ad285, A285_0, c285_0, e285, hx285_0, hl285_0, hi285_0⟩ := at_L2 HR1.out 0 p285 q285
              cases e285
              have qi285 : (0 < l1.length) = True := eq_true (by omega)
              (try rw [show ((0 : Int)).toNat = 0 from rfl] at hx285_0)
              (try rw [Addr.add_zero'] at hx285_0)
              replace hx285_0 := (HB.out.cell (World.block_lt_of_cell? w _ hx285_0)).trans hx285_0
              have HR285_0 := Aside0.mk hi285_0
              have HC285_0 := Aside0.mk hl285_0
              clear hi285_0 hl285_0
              replace p285 := eq_true p285
              replace q285 := eq_true q285
              go_wp2_with (first | ((with_reducible refine gate_callee (f := 52) rfl ?_); refine goesL_ (some 31) rfl rfl Tryd.func52 (by kernel_rfl) rfl #[.int .i64 (l0.length : Int), .int .i64 ((rd_L2 l1 0).length : Int)] rfl (by (try simp only [List.map_toArray, List.map_cons, List.map_nil]); first | done | rfl | (simp only [List.length_drop, List.length_take]; rfl)) ?_; (with_reducible refine (caulkref03_zero.calls kj2 (l0.length : Int) ((rd_L2 l1 0).length : Int) t286 _ A11.out).mono ?_); rintro e w12 ⟨v287, rfl, ho0, hb⟩; refine ⟨_, rfl, ?_⟩; have n0_ := Aside0.mk (Kd.S_lower ho0 (below_size (by repeat (first | (with_reducible first | exact HB.out | apply below_alloc | apply pw_below_drewN | apply below_drew1) | exact HB.out)))); have n1_ := Aside0.mk (below_step (by repeat (first | (with_reducible first | exact HB.out | apply below_alloc | apply pw_below_drewN | apply below_drew1) | exact HB.out)) hb); clear HB; have HO288 := n0_; have HB := n1_; clear n0_ n1_; (try clear hb); (try clear hb2); (try clear hk); (try clear hi); (try clear ho0); obtain ⟨Ao13, co13, eo13⟩ := Kd.S_slice HO288.out; subst eo13))
              go_loopg [34] kj2 (fun kq v34 w' => ∃ (x6_2 : List (List Int)) (x34_2 : Int), v34 = .int .i64 x34_2 ∧ Aside0 (caulkref03_Mul.l0 kq l0 l1 x6_2 (t286.length : Int) x34_2 = some (r1, r2)) ∧ Aside0 (kq ≤ kj2) ∧ Aside0 (Kd.S (Kd.slice 5 (Kd.int .u8)) 76 w' w.heap.size (fun _ => True) (.slice Ao13 t286.length co13) x6_2) ∧ Aside0 (Below w.heap.size w w'))
              case atStart => exact ⟨(t286), (0), (by first | rfl | (simp; done) | (simp [*]; done)), H', ⟨Nat.le_refl _⟩, ⟨by (with_reducible repeat (first | apply Kd.S_alloc | apply Kd.S_drewN | apply Kd.S_drew)); exact HO288.out⟩, ⟨by repeat (first | (with_reducible first | exact HB.out | apply below_alloc | apply pw_below_drewN | apply below_drew1) | exact HB.out)⟩⟩
              case round =>
                clear H'
                try clear c1
                try clear c2
                try clear p2
                try clear q2
                try clear hx2
                try clear qi2
                try clear c5
                try clear c5b0
                try clear c5b1
                try clear c7
                try clear c8
                try clear c8b0
                try clear c8b1
                try clear c9
                try clear c9b0
                try clear c9b1
                try clear c9b2
                try clear c10
                try clear c10b0
                try clear c10b1
                try clear hx284_0
                try clear hx285_0
                try clear p2
                try clear p284
                try clear p285
                try clear q284
                try clear q285
                obtain ⟨x6_2, x34_2, rfl, HA, HK2, HO_6, HB⟩ := hrel
                have hl6_2 := (Kd.S_reads' HO_6.out).1
                rw [hl6_2] at HO_6
                (try simp only [hl6_2])
                cases gk with
                | zero => exact absurd HA.out (by simp [caulkref03_Mul.l0])
                | succ k2 =>
                  have H := HA.out
                  clear HA
                  simp only [caulkref03_Mul.l0] at H
                  by_cases c14 : x34_2 < (t286.length : Int)
                  · rw [if_pos c14] at H
                    have c14b0 : decide (x34_2 < (t286.length : Int)) = true := decide_eq_true c14
                    clear c14
                    by_cases c15 : 0 ≤ x34_2
                    · rw [if_pos c15] at H
                      have c15b0 : decide (0 ≤ x34_2) = true := decide_eq_true c15
                      clear c15
                      by_cases c16 : x34_2 < (x6_2.length : Int)
                      · rw [if_pos c16] at H
                        have c16b0 : decide (x34_2 < (x6_2.length : Int)) = true := decide_eq_true c16
                        clear c16
                        have H' := Aside0.mk H
                        clear H
                        have p289 : 0 ≤ (x34_2 : Int) := of_decide_eq_true (by first | (with_reducible assumption) | assumption)
                        have q289 : x34_2 < (x6_2.length : Int) := of_decide_eq_true (by first | (with_reducible assumption) | assumption)
                        obtain ⟨ad289, A289_0, c289_0, e289, hx289_0, hl289_0, hi289_0⟩ := at_L2 (Kd.S_reads' HO_6.out).2.2 x34_2 p289 q289
                        cases e289
                        obtain ⟨ce289, hce289, hMe289, hcc289⟩ := Kd.S_get HO_6.out [] x34_2 p289 (by first | exact q289 | exact of_decide_eq_true (by first | (with_reducible assumption) | assumption) | (have e_ := (Kd.S_reads' HO_6.out).1; omega))
                        obtain ⟨ve289_0, rfl, ge289_0⟩ := hMe289
                        have hv289_0 := hcc289 0 _ rfl
                        rw [Nat.add_zero, show ((Kd.slice 5 (Kd.int .u8))).sz = 1 from rfl, Nat.mul_one] at hv289_0
                        replace hv289_0 := Option.some.inj (hv289_0.symm.trans hx289_0)
                        rw [hv289_0] at ge289_0
                        have HL289_0 := Aside0.mk (show Kd.R (Kd.int .u8) 5 _ _ _ _ (rd_L2 x6_2 x34_2) from ge289_0)
                        clear hv289_0 ge289_0
                        have HX289_0 := Aside0.mk hx289_0
                        clear hcc289 hce289
                        have HR289_0 := Aside0.mk hi289_0
                        have HC289_0 := Aside0.mk hl289_0
                        clear hi289_0 hl289_0
                        replace p289 := eq_true p289
                        replace q289 := eq_true q289
                        go_wp2
                        go_loopg [42] k2 (fun kq v42 w' => ∃ (x6_3 : List (List Int)) (x42_3 : Int), v42 = .int .i64 x42_3 ∧ Aside0 (caulkref03_Mul.l1 kq l0 l1 x6_3 x34_2 (t286.length : Int) x34_2 ((rd_L2 x6_2 x34_2).length : Int) x42_3 = some (r1, r2)) ∧ Aside0 (kq ≤ k2) ∧ Aside0 (Kd.S (Kd.slice 5 (Kd.int .u8)) 76 w' w.heap.size (fun _ => True) (.slice (some ad289) x6_2.length co13) x6_3) ∧ Aside0 (Below w.heap.size w w'))
                        case atStart => exact ⟨(x6_2), (0), (by first | rfl | (simp; done) | (simp [*]; done)), H', ⟨Nat.le_refl _⟩, ⟨by (try simp only [hl6_2]); (with_reducible repeat (first | apply Kd.S_alloc | apply Kd.S_drewN | apply Kd.S_drew)); exact HO_6.out⟩, ⟨by repeat (first | (with_reducible first | exact HB.out | apply below_alloc | apply pw_below_drewN | apply below_drew1) | exact HB.out)⟩⟩
                        case round =>
                          clear H'
                          try clear c1
                          try clear c2
                          try clear p2
                          try clear q2
                          try clear hx2
                          try clear qi2
                          try clear c5
                          try clear c5b0
                          try clear c5b1
                          try clear c7
                          try clear c8
                          try clear c8b0
                          try clear c8b1
                          try clear c9
                          try clear c9b0
                          try clear c9b1
                          try clear c9b2
                          try clear c10
                          try clear c10b0
                          try clear c10b1
                          try clear c14
                          try clear c14b0
                          try clear c15
                          try clear c15b0
                          try clear c16
                          try clear c16b0
                          try clear hx284_0
                          try clear hx285_0
                          try clear hx289_0
                          try clear p2
                          try clear p284
                          try clear p285
                          try clear p289
                          try clear q2
                          try clear q284
                          try clear q285
                          try clear q289
                          obtain ⟨x6_3, x42_3, rfl, HA, HK3, HO_6, HB⟩ := hrel
                          have hl6_3 := (Kd.S_reads' HO_6.out).1
                          rw [hl6_3] at HO_6
                          (try simp only [hl6_3])
                          cases gk with
                          | zero => exact absurd HA.out (by simp [caulkref03_Mul.l1])
                          | succ k3 =>
                            have H := HA.out
                            clear HA
                            simp only [caulkref03_Mul.l1] at H
                            by_cases c17 : x42_3 < ((rd_L2 x6_2 x34_2).length : Int)
                            · rw [if_pos c17] at H
                              have c17b0 : decide (x42_3 < ((rd_L2 x6_2 x34_2).length : Int)) = true := decide_eq_true c17
                              clear c17
                              have H' := Aside0.mk H
                              clear H
                              go_wp2
                              go_loopg [47] k3 (fun kq v47 w' => ∃ (x6_4 : List (List Int)) (x47_4 : Int), v47 = .int .i64 x47_4 ∧ Aside0 (caulkref03_Mul.l2 kq l0 l1 x6_4 x34_2 x42_3 (t286.length : Int) x34_2 ((rd_L2 x6_2 x34_2).length : Int) x42_3 (l1.length : Int) x47_4 = some (r1, r2)) ∧ Aside0 (kq ≤ k3) ∧ Aside0 (Kd.S (Kd.slice 5 (Kd.int .u8)) 76 w' w.heap.size (fun _ => True) (.slice (some ad289) x6_3.length co13) x6_4) ∧ Aside0 (Below w.heap.size w w'))
                              case atStart => exact ⟨(x6_3), (0), (by first | rfl | (simp; done) | (simp [*]; done)), H', ⟨Nat.le_refl _⟩, ⟨by (try simp only [hl6_2]); (try simp only [hl6_3]); (with_reducible repeat (first | apply Kd.S_alloc | apply Kd.S_drewN | apply Kd.S_drew)); exact HO_6.out⟩, ⟨by repeat (first | (with_reducible first | exact HB.out | apply below_alloc | apply pw_below_drewN | apply below_drew1) | exact HB.out)⟩⟩
                              case round =>
                                clear H'
                                try clear c1
                                try clear c2
                                try clear p2
                                try clear q2
                                try clear hx2
                                try clear qi2
                                try clear c5
                                try clear c5b0
                                try clear c5b1
                                try clear c7
                                try clear c8
                                try clear c8b0
                                try clear c8b1
                                try clear c9
                                try clear c9b0
                                try clear c9b1
                                try clear c9b2
                                try clear c10
                                try clear c10b0
                                try clear c10b1
                                try clear c14
                                try clear c14b0
                                try clear c15
                                try clear c15b0
                                try clear c16
                                try clear c16b0
                                try clear c17
                                try clear c17b0
                                try clear hx284_0
                                try clear hx285_0
                                try clear hx289_0
                                try clear p2
                                try clear p284
                                try clear p285
                                try clear p289
                                try clear q2
                                try clear q284
                                try clear q285
                                try clear q289
                                obtain ⟨x6_4, x47_4, rfl, HA, HK4, HO_6, HB⟩ := hrel
                                have hl6_4 := (Kd.S_reads' HO_6.out).1
                                rw [hl6_4] at HO_6
                                (try simp only [hl6_4])
                                cases gk with
                                | zero => exact absurd HA.out (by simp [caulkref03_Mul.l2])
                                | succ k4 =>
                                  have H := HA.out
                                  clear HA
                                  simp only [caulkref03_Mul.l2] at H
                                  by_cases c18 : x47_4 < (l1.length : Int)
                                  · rw [if_pos c18] at H
                                    have c18b0 : decide (x47_4 < (l1.length : Int)) = true := decide_eq_true c18
                                    clear c18
                                    by_cases c19 : 0 ≤ x34_2
                                    · rw [if_pos c19] at H
                                      have c19b0 : decide (0 ≤ x34_2) = true := decide_eq_true c19
                                      clear c19
                                      by_cases c20 : x34_2 < (x6_4.length : Int)
                                      · rw [if_pos c20] at H
                                        have c20b0 : decide (x34_2 < (x6_4.length : Int)) = true := decide_eq_true c20
                                        clear c20
                                        by_cases c21 : 0 ≤ x42_3
                                        · rw [if_pos c21] at H
                                          have c21b0 : decide (0 ≤ x42_3) = true := decide_eq_true c21
                                          clear c21
                                          by_cases c22 : x42_3 < ((rd_L2 x6_4 x34_2).length : Int)
                                          · rw [if_pos c22] at H
                                            have c22b0 : decide (x42_3 < ((rd_L2 x6_4 x34_2).length : Int)) = true := decide_eq_true c22
                                            clear c22
                                            by_cases c23 : x34_2 < (l0.length : Int)
                                            · rw [if_pos c23] at H
                                              have c23b0 : decide (x34_2 < (l0.length : Int)) = true := decide_eq_true c23
                                              clear c23
                                              by_cases c24 : 0 ≤ x47_4
                                              · rw [if_pos c24] at H
                                                have c24b0 : decide (0 ≤ x47_4) = true := decide_eq_true c24
                                                clear c24
                                                by_cases c25 : x47_4 < ((rd_L2 l0 x34_2).length : Int)
                                                · rw [if_pos c25] at H
                                                  have c25b0 : decide (x47_4 < ((rd_L2 l0 x34_2).length : Int)) = true := decide_eq_true c25
                                                  clear c25
                                                  by_cases c26 : x47_4 < (l1.length : Int)
                                                  · rw [if_pos c26] at H
                                                    have c26b0 : decide (x47_4 < (l1.length : Int)) = true := decide_eq_true c26
                                                    clear c26
                                                    by_cases c27 : x42_3 < ((rd_L2 l1 x47_4).length : Int)
                                                    · rw [if_pos c27] at H
                                                      have c27b0 : decide (x42_3 < ((rd_L2 l1 x47_4).length : Int)) = true := decide_eq_true c27
                                                      clear c27
                                                      replace H := Option.bind_eq_some_iff.mp H
                                                      obtain ⟨t296, A280, H⟩ := H
                                                      replace H : (caulkref03_Mul.l2 k4 l0 l1 (x6_4.set (x34_2 : Int).toNat ((rd_L2 x6_4 x34_2).set (x42_3 : Int).toNat (Go.bits .xor .u8 (rd (rd_L2 x6_4 x34_2) x42_3) t296))) x34_2 x42_3 (t286.length : Int) x34_2 ((rd_L2 x6_2 x34_2).length : Int) x42_3 (l1.length : Int) (wrap64 (x47_4 + 1))) = some (r1, r2) := H
                                                      have A28 := Aside0.mk A280
                                                      clear A280
                                                      obtain ⟨y297, hy297⟩ : ∃ y_ : List Int, y_ = ((rd_L2 x6_4 x34_2).set (x42_3 : Int).toNat (Go.bits .xor .u8 (rd (rd_L2 x6_4 x34_2) x42_3) t296)) := ⟨_, rfl⟩
                                                      replace H : (caulkref03_Mul.l2 k4 l0 l1 (x6_4.set (x34_2 : Int).toNat y297) x34_2 x42_3 (t286.length : Int) x34_2 ((rd_L2 x6_2 x34_2).length : Int) x42_3 (l1.length : Int) (wrap64 (x47_4 + 1))) = some (r1, r2) := by first | (rw [hy297]; with_reducible exact H) | (have H2_ := (Option.bind_some _ _).symm.trans H; rw [hy297]; with_reducible exact H2_) | (have H2_ := (Option.bind_some _ _).symm.trans H; with_reducible exact H2_) | with_reducible exact H | (rw [hy297]; exact H) | exact H
                                                      have Ny297 := Aside0.mk hy297
                                                      clear hy297
                                                      obtain ⟨y299, hy299⟩ : ∃ y_ : List (List Int), y_ = (x6_4.set (x34_2 : Int).toNat y297) := ⟨_, rfl⟩
                                                      replace H : (caulkref03_Mul.l2 k4 l0 l1 y299 x34_2 x42_3 (t286.length : Int) x34_2 ((rd_L2 x6_2 x34_2).length : Int) x42_3 (l1.length : Int) (wrap64 (x47_4 + 1))) = some (r1, r2) := by first | (rw [hy299]; with_reducible exact H) | (have H2_ := (Option.bind_some _ _).symm.trans H; rw [hy299]; with_reducible exact H2_) | (have H2_ := (Option.bind_some _ _).symm.trans H; with_reducible exact H2_) | with_reducible exact H | (rw [hy299]; exact H) | exact H
                                                      have Ny299 := Aside0.mk hy299
                                                      clear hy299
                                                      have H' := Aside0.mk H
                                                      clear H
                                                      try go_wp2
                                                      have n0_ := Aside0.mk (Kd.S_drew HO_6.out)
                                                      have n1_ := Aside0.mk (below_drew1 HB.out)
                                                      clear HO_6
                                                      clear HB
                                                      have HO_6 := n0_
                                                      have HB := n1_
                                                      clear n0_ n1_
                                                      have p290 : 0 ≤ (x34_2 : Int) := of_decide_eq_true (by first | (with_reducible assumption) | assumption)
                                                      have q290 : x34_2 < (x6_4.length : Int) := of_decide_eq_true (by first | (with_reducible assumption) | assumption)
                                                      obtain ⟨ad290, A290_0, c290_0, e290, hx290_0, hl290_0, hi290_0⟩ := at_L2 (Kd.S_reads' HO_6.out).2.2 x34_2 p290 q290
                                                      obtain rfl : ad289 = ad290 := (by injection e290)
                                                      obtain ⟨ce290, hce290, hMe290, hcc290⟩ := Kd.S_get HO_6.out [] x34_2 p290 (by first | exact q290 | exact of_decide_eq_true (by first | (with_reducible assumption) | assumption) | (have e_ := (Kd.S_reads' HO_6.out).1; omega))
                                                      obtain ⟨ve290_0, rfl, ge290_0⟩ := hMe290
                                                      have hv290_0 := hcc290 0 _ rfl
                                                      rw [Nat.add_zero, show ((Kd.slice 5 (Kd.int .u8))).sz = 1 from rfl, Nat.mul_one] at hv290_0
                                                      replace hv290_0 := Option.some.inj (hv290_0.symm.trans hx290_0)
                                                      rw [hv290_0] at ge290_0
                                                      have HL290_0 := Aside0.mk (show Kd.R (Kd.int .u8) 5 _ _ _ _ (rd_L2 x6_4 x34_2) from ge290_0)
                                                      clear hv290_0 ge290_0
                                                      have HX290_0 := Aside0.mk hx290_0
                                                      clear hcc290 hce290
                                                      have HR290_0 := Aside0.mk hi290_0
                                                      have HC290_0 := Aside0.mk hl290_0
                                                      clear hi290_0 hl290_0
                                                      replace p290 := eq_true p290
                                                      replace q290 := eq_true q290
                                                      have p291 : 0 ≤ (x42_3 : Int) := of_decide_eq_true (by first | (with_reducible assumption) | assumption)
                                                      have q291 : x42_3 < ((rd_L2 x6_4 x34_2).length : Int) := of_decide_eq_true (by first | (with_reducible assumption) | assumption)
                                                      obtain ⟨ad291, e291, hx291_0⟩ := Kd.at_int (by repeat (first | (with_reducible exact HR290_0.out) | (with_reducible refine Kd.C_alloc ?_ _) | (with_reducible refine Kd.C_drewN ?_ _) | (with_reducible refine Kd.C_drew ?_) | exact HR290_0.out)) x42_3 p291 q291
                                                      cases e291
                                                      replace p291 := eq_true p291
                                                      replace q291 := eq_true q291
                                                      have p292 : 0 ≤ (x34_2 : Int) := of_decide_eq_true (by first | (with_reducible assumption) | assumption)
                                                      have q292 : x34_2 < (l0.length : Int) := of_decide_eq_true (by first | (with_reducible assumption) | assumption)
                                                      obtain ⟨ad292, A292_0, c292_0, e292, hx292_0, hl292_0, hi292_0⟩ := at_L2 HR0.out x34_2 p292 q292
                                                      have hw292_0 := hx292_0
                                                      obtain rfl : ad284 = ad292 := (by injection e292)
                                                      replace hx292_0 := (HB.out.cell (World.block_lt_of_cell? w _ hx292_0)).trans hx292_0
                                                      have HR292_0 := Aside0.mk hi292_0
                                                      have HC292_0 := Aside0.mk hl292_0
                                                      clear hi292_0 hl292_0
                                                      replace p292 := eq_true p292
                                                      replace q292 := eq_true q292
                                                      have p293 : 0 ≤ (x47_4 : Int) := of_decide_eq_true (by first | (with_reducible assumption) | assumption)
                                                      have q293 : x47_4 < ((rd_L2 l0 x34_2).length : Int) := of_decide_eq_true (by first | (with_reducible assumption) | assumption)
                                                      obtain ⟨ad293, e293, hx293_0⟩ := Kd.at_int HR292_0.out x47_4 p293 q293
                                                      have hw293_0 := hx293_0
                                                      cases e293
                                                      replace hx293_0 := (HB.out.cell (World.block_lt_of_cell? w _ hx293_0)).trans hx293_0
                                                      replace p293 := eq_true p293
                                                      replace q293 := eq_true q293
                                                      have p294 : 0 ≤ (x47_4 : Int) := of_decide_eq_true (by first | (with_reducible assumption) | assumption)
                                                      have q294 : x47_4 < (l1.length : Int) := of_decide_eq_true (by first | (with_reducible assumption) | assumption)
                                                      obtain ⟨ad294, A294_0, c294_0, e294, hx294_0, hl294_0, hi294_0⟩ := at_L2 HR1.out x47_4 p294 q294
                                                      have hw294_0 := hx294_0
                                                      obtain rfl : ad285 = ad294 := (by injection e294)
                                                      replace hx294_0 := (HB.out.cell (World.block_lt_of_cell? w _ hx294_0)).trans hx294_0
                                                      have HR294_0 := Aside0.mk hi294_0
                                                      have HC294_0 := Aside0.mk hl294_0
                                                      clear hi294_0 hl294_0
                                                      replace p294 := eq_true p294
                                                      replace q294 := eq_true q294
                                                      have p295 : 0 ≤ (x42_3 : Int) := of_decide_eq_true (by first | (with_reducible assumption) | assumption)
                                                      have q295 : x42_3 < ((rd_L2 l1 x47_4).length : Int) := of_decide_eq_true (by first | (with_reducible assumption) | assumption)
                                                      obtain ⟨ad295, e295, hx295_0⟩ := Kd.at_int HR294_0.out x42_3 p295 q295
                                                      have hw295_0 := hx295_0
                                                      cases e295
                                                      replace hx295_0 := (HB.out.cell (World.block_lt_of_cell? w _ hx295_0)).trans hx295_0
                                                      replace p295 := eq_true p295
                                                      replace q295 := eq_true q295
                                                      refine start_ (n := 25) (S := fun w' => w'.cell? (ad289.add (x34_2).toNat) = some (.slice (some ad291) (rd_L2 x6_4 x34_2).length c290_0) ∧ w'.cell? (ad291.add (x42_3).toNat) = some (.int .u8 (rd (rd_L2 x6_4 x34_2) x42_3)) ∧ w'.cell? (ad284.add (x34_2).toNat) = some (.slice (some ad293) (rd_L2 l0 x34_2).length c292_0) ∧ w'.cell? (ad293.add (x47_4).toNat) = some (.int .u8 (rd (rd_L2 l0 x34_2) x47_4)) ∧ w'.cell? (ad285.add (x47_4).toNat) = some (.slice (some ad295) (rd_L2 l1 x47_4).length c294_0) ∧ w'.cell? (ad295.add (x42_3).toNat) = some (.int .u8 (rd (rd_L2 l1 x47_4) x42_3))) (ds := [24]) #[false, false, false, false, false, false, false, false, false, false, false, false, false, false, false, false, false, false, false, false, false, false, false, false, false] (by kernel_rfl) rfl rfl ⟨hx290_0, hx291_0, ((HB.out.cell (World.block_lt_of_cell? w _ hw292_0)).trans hw292_0), ((HB.out.cell (World.block_lt_of_cell? w _ hw293_0)).trans hw293_0), ((HB.out.cell (World.block_lt_of_cell? w _ hw294_0)).trans hw294_0), ((HB.out.cell (World.block_lt_of_cell? w _ hw295_0)).trans hw295_0)⟩ (fun hHeld => ?_); refine with_tabW caulkref03_Mul.tab15 caulkref03_Mul.bits15 (fun HT_ HW_ => ?_)
                                                      generalize wr.drew = w30 at HO_6 HB HL290_0 HR290_0 HR292_0 HR294_0 HX290_0 hx290_0 hx291_0 hx292_0 hx293_0 hx294_0 hx295_0 hHeld ⊢
                                                      refine pure_ (i := 0) (N := some 50) (v := ?_) (a' := ?_) #[true, false, false, false, false, false, false, false, false, false, false, false, false, false, false, false, false, false, false, false, false, false, false, false, false] rfl rfl (any_of HT_.out (by kernel_rfl)) (fun _ _ _ h => h) (Or.inl ⟨by rfl, ?_⟩) ?_ ?_
                                                      rotate_left
                                                      · intro w'
                                                        go_simp
                                                        with_reducible rfl
                                                      rotate_left
                                                      · simp only [Act.put, List.setIfInBounds_toArray, List.set_cons_zero, List.set_cons_succ, i64_w, i32_w]
                                                        rfl
                                                      refine pure_ (i := 1) (N := some 51) (v := ?_) (a' := ?_) #[true, true, false, false, false, false, false, false, false, false, false, false, false, false, false, false, false, false, false, false, false, false, false, false, false] rfl rfl (any_of HT_.out (by kernel_rfl)) (fun _ _ _ h => h) (Or.inl ⟨by rfl, ?_⟩) ?_ ?_
                                                      rotate_left
                                                      · intro w'
                                                        go_simp
                                                        with_reducible rfl
                                                      rotate_left
                                                      · simp only [Act.put, List.setIfInBounds_toArray, List.set_cons_zero, List.set_cons_succ, i64_w, i32_w]
                                                        rfl
                                                      refine pure_ (i := 2) (N := some 52) (v := ?_) (a' := ?_) #[true, true, true, false, false, false, false, false, false, false, false, false, false, false, false, false, false, false, false, false, false, false, false, false, false] rfl rfl (any_of HT_.out (by kernel_rfl)) (fun _ _ _ h => h) (Or.inl ⟨by rfl, ?_⟩) ?_ ?_
                                                      rotate_left
                                                      · intro w'
                                                        go_simp
                                                        with_reducible rfl
                                                      rotate_left
                                                      · simp only [Act.put, List.setIfInBounds_toArray, List.set_cons_zero, List.set_cons_succ, i64_w, i32_w]
                                                        rfl
                                                      refine pure_ (i := 4) (N := some 54) (v := ?_) (a' := ?_) #[true, true, true, false, true, false, false, false, false, false, false, false, false, false, false, false, false, false, false, false, false, false, false, false, false] rfl rfl (any_of HT_.out (by kernel_rfl)) (fun _ _ _ h => h) (Or.inl ⟨by rfl, ?_⟩) ?_ ?_
                                                      rotate_left
                                                      · intro w'
                                                        go_simp
                                                        with_reducible rfl
                                                      rotate_left
                                                      · simp only [Act.put, List.setIfInBounds_toArray, List.set_cons_zero, List.set_cons_succ, i64_w, i32_w]
                                                        rfl
                                                      refine pure_ (i := 7) (N := some 57) (v := ?_) (a' := ?_) #[true, true, true, false, true, false, false, true, false, false, false, false, false, false, false, false, false, false, false, false, false, false, false, false, false] rfl rfl (any_of HT_.out (by kernel_rfl)) (fun _ _ _ h => h) (Or.inl ⟨by rfl, ?_⟩) ?_ ?_
                                                      rotate_left
                                                      · intro w'
                                                        go_simp
                                                        with_reducible rfl
                                                      rotate_left
                                                      · simp only [Act.put, List.setIfInBounds_toArray, List.set_cons_zero, List.set_cons_succ, i64_w, i32_w]
                                                        rfl
                                                      refine pure_ (i := 8) (N := some 58) (v := ?_) (a' := ?_) #[true, true, true, false, true, false, false, true, true, false, false, false, false, false, false, false, false, false, false, false, false, false, false, false, false] rfl rfl (any_of HT_.out (by kernel_rfl)) (fun _ _ _ h => h) (Or.inl ⟨by rfl, ?_⟩) ?_ ?_
                                                      rotate_left
                                                      · intro w'
                                                        go_simp
                                                        with_reducible rfl
                                                      rotate_left
                                                      · simp only [Act.put, List.setIfInBounds_toArray, List.set_cons_zero, List.set_cons_succ, i64_w, i32_w]
                                                        rfl
                                                      refine pure_ (i := 9) (N := some 59) (v := ?_) (a' := ?_) #[true, true, true, false, true, false, false, true, true, true, false, false, false, false, false, false, false, false, false, false, false, false, false, false, false] rfl rfl (any_of HT_.out (by kernel_rfl)) (fun _ _ _ h => h) (Or.inl ⟨by rfl, ?_⟩) ?_ ?_
                                                      rotate_left
                                                      · intro w'
                                                        go_simp
                                                        with_reducible rfl
                                                      rotate_left
                                                      · simp only [Act.put, List.setIfInBounds_toArray, List.set_cons_zero, List.set_cons_succ, i64_w, i32_w]
                                                        rfl
                                                      refine pure_ (i := 11) (N := some 61) (v := ?_) (a' := ?_) #[true, true, true, false, true, false, false, true, true, true, false, true, false, false, false, false, false, false, false, false, false, false, false, false, false] rfl rfl (any_of HT_.out (by kernel_rfl)) (fun _ _ _ h => h) (Or.inl ⟨by rfl, ?_⟩) ?_ ?_
                                                      rotate_left
                                                      · intro w'
                                                        go_simp
                                                        with_reducible rfl
                                                      rotate_left
                                                      · simp only [Act.put, List.setIfInBounds_toArray, List.set_cons_zero, List.set_cons_succ, i64_w, i32_w]
                                                        rfl
                                                      refine pure_ (i := 14) (N := some 64) (v := ?_) (a' := ?_) #[true, true, true, false, true, false, false, true, true, true, false, true, false, false, true, false, false, false, false, false, false, false, false, false, false] rfl rfl (any_of HT_.out (by kernel_rfl)) (fun _ _ _ h => h) (Or.inl ⟨by rfl, ?_⟩) ?_ ?_
                                                      rotate_left
                                                      · intro w'
                                                        go_simp
                                                        with_reducible rfl
                                                      rotate_left
                                                      · simp only [Act.put, List.setIfInBounds_toArray, List.set_cons_zero, List.set_cons_succ, i64_w, i32_w]
                                                        rfl
                                                      refine pure_ (i := 15) (N := some 65) (v := ?_) (a' := ?_) #[true, true, true, false, true, false, false, true, true, true, false, true, false, false, true, true, false, false, false, false, false, false, false, false, false] rfl rfl (any_of HT_.out (by kernel_rfl)) (fun _ _ _ h => h) (Or.inl ⟨by rfl, ?_⟩) ?_ ?_
                                                      rotate_left
                                                      · intro w'
                                                        go_simp
                                                        with_reducible rfl
                                                      rotate_left
                                                      · simp only [Act.put, List.setIfInBounds_toArray, List.set_cons_zero, List.set_cons_succ, i64_w, i32_w]
                                                        rfl
                                                      refine pure_ (i := 16) (N := some 66) (v := ?_) (a' := ?_) #[true, true, true, false, true, false, false, true, true, true, false, true, false, false, true, true, true, false, false, false, false, false, false, false, false] rfl rfl (any_of HT_.out (by kernel_rfl)) (fun _ _ _ h => h) (Or.inl ⟨by rfl, ?_⟩) ?_ ?_
                                                      rotate_left
                                                      · intro w'
                                                        go_simp
                                                        with_reducible rfl
                                                      rotate_left
                                                      · simp only [Act.put, List.setIfInBounds_toArray, List.set_cons_zero, List.set_cons_succ, i64_w, i32_w]
                                                        rfl
                                                      refine pure_ (i := 18) (N := some 68) (v := ?_) (a' := ?_) #[true, true, true, false, true, false, false, true, true, true, false, true, false, false, true, true, true, false, true, false, false, false, false, false, false] rfl rfl (any_of HT_.out (by kernel_rfl)) (fun _ _ _ h => h) (Or.inl ⟨by rfl, ?_⟩) ?_ ?_
                                                      rotate_left
                                                      · intro w'
                                                        go_simp
                                                        with_reducible rfl
                                                      rotate_left
                                                      · simp only [Act.put, List.setIfInBounds_toArray, List.set_cons_zero, List.set_cons_succ, i64_w, i32_w]
                                                        rfl
                                                      refine take_ (i := 3) (N := some 53) (v := ?_) (a' := ?_) #[true, true, true, true, true, false, false, true, true, true, false, true, false, false, true, true, true, false, true, false, false, false, false, false, false] rfl rfl (take_ofW HT_.out HW_.out (by kernel_rfl)) (fun _ _ _ h => h) (Or.inl ⟨by rfl, ?_⟩) hHeld ?_ ?_
                                                      rotate_left
                                                      · rintro w' ⟨s0, s1, s2, s3, s4, s5⟩
                                                        go_simp
                                                        with_reducible rfl
                                                      rotate_left
                                                      · simp only [Act.put, List.setIfInBounds_toArray, List.set_cons_zero, List.set_cons_succ, i64_w, i32_w]
                                                        rfl
                                                      refine pure_ (i := 5) (N := some 55) (v := ?_) (a' := ?_) #[true, true, true, true, true, true, false, true, true, true, false, true, false, false, true, true, true, false, true, false, false, false, false, false, false] rfl rfl (any_of HT_.out (by kernel_rfl)) (fun _ _ _ h => h) (Or.inl ⟨by rfl, ?_⟩) ?_ ?_
                                                      rotate_left
                                                      · intro w'
                                                        go_simp
                                                        with_reducible rfl
                                                      rotate_left
                                                      · simp only [Act.put, List.setIfInBounds_toArray, List.set_cons_zero, List.set_cons_succ, i64_w, i32_w]
                                                        rfl
                                                      refine take_ (i := 6) (N := some 56) (v := ?_) (a' := ?_) #[true, true, true, true, true, true, true, true, true, true, false, true, false, false, true, true, true, false, true, false, false, false, false, false, false] rfl rfl (take_ofW HT_.out HW_.out (by kernel_rfl)) (fun _ _ _ h => h) (Or.inl ⟨by rfl, ?_⟩) hHeld ?_ ?_
                                                      rotate_left
                                                      · rintro w' ⟨s0, s1, s2, s3, s4, s5⟩
                                                        go_simp
                                                        with_reducible rfl
                                                      rotate_left
                                                      · simp only [Act.put, List.setIfInBounds_toArray, List.set_cons_zero, List.set_cons_succ, i64_w, i32_w]
                                                        rfl
                                                      refine take_ (i := 10) (N := some 60) (v := ?_) (a' := ?_) #[true, true, true, true, true, true, true, true, true, true, true, true, false, false, true, true, true, false, true, false, false, false, false, false, false] rfl rfl (take_ofW HT_.out HW_.out (by kernel_rfl)) (fun _ _ _ h => h) (Or.inl ⟨by rfl, ?_⟩) hHeld ?_ ?_
                                                      rotate_left
                                                      · rintro w' ⟨s0, s1, s2, s3, s4, s5⟩
                                                        go_simp
                                                        with_reducible rfl
                                                      rotate_left
                                                      · simp only [Act.put, List.setIfInBounds_toArray, List.set_cons_zero, List.set_cons_succ, i64_w, i32_w]
                                                        rfl
                                                      refine pure_ (i := 12) (N := some 62) (v := ?_) (a' := ?_) #[true, true, true, true, true, true, true, true, true, true, true, true, true, false, true, true, true, false, true, false, false, false, false, false, false] rfl rfl (any_of HT_.out (by kernel_rfl)) (fun _ _ _ h => h) (Or.inl ⟨by rfl, ?_⟩) ?_ ?_
                                                      rotate_left
                                                      · intro w'
                                                        go_simp
                                                        with_reducible rfl
                                                      rotate_left
                                                      · simp only [Act.put, List.setIfInBounds_toArray, List.set_cons_zero, List.set_cons_succ, i64_w, i32_w]
                                                        rfl
                                                      refine take_ (i := 13) (N := some 63) (v := ?_) (a' := ?_) #[true, true, true, true, true, true, true, true, true, true, true, true, true, true, true, true, true, false, true, false, false, false, false, false, false] rfl rfl (take_ofW HT_.out HW_.out (by kernel_rfl)) (fun _ _ _ h => h) (Or.inl ⟨by rfl, ?_⟩) hHeld ?_ ?_
                                                      rotate_left
                                                      · rintro w' ⟨s0, s1, s2, s3, s4, s5⟩
                                                        go_simp
                                                        with_reducible rfl
                                                      rotate_left
                                                      · simp only [Act.put, List.setIfInBounds_toArray, List.set_cons_zero, List.set_cons_succ, i64_w, i32_w]
                                                        rfl
                                                      refine take_ (i := 17) (N := some 67) (v := ?_) (a' := ?_) #[true, true, true, true, true, true, true, true, true, true, true, true, true, true, true, true, true, true, true, false, false, false, false, false, false] rfl rfl (take_ofW HT_.out HW_.out (by kernel_rfl)) (fun _ _ _ h => h) (Or.inl ⟨by rfl, ?_⟩) hHeld ?_ ?_
                                                      rotate_left
                                                      · rintro w' ⟨s0, s1, s2, s3, s4, s5⟩
                                                        go_simp
                                                        with_reducible rfl
                                                      rotate_left
                                                      · simp only [Act.put, List.setIfInBounds_toArray, List.set_cons_zero, List.set_cons_succ, i64_w, i32_w]
                                                        rfl
                                                      refine pure_ (i := 19) (N := some 69) (v := ?_) (a' := ?_) #[true, true, true, true, true, true, true, true, true, true, true, true, true, true, true, true, true, true, true, true, false, false, false, false, false] rfl rfl (any_of HT_.out (by kernel_rfl)) (fun _ _ _ h => h) (Or.inl ⟨by rfl, ?_⟩) ?_ ?_
                                                      rotate_left
                                                      · intro w'
                                                        go_simp
                                                        with_reducible rfl
                                                      rotate_left
                                                      · simp only [Act.put, List.setIfInBounds_toArray, List.set_cons_zero, List.set_cons_succ, i64_w, i32_w]
                                                        rfl
                                                      refine take_ (i := 20) (N := some 70) (v := ?_) (a' := ?_) #[true, true, true, true, true, true, true, true, true, true, true, true, true, true, true, true, true, true, true, true, true, false, false, false, false] rfl rfl (take_ofW HT_.out HW_.out (by kernel_rfl)) (fun _ _ _ h => h) (Or.inl ⟨by rfl, ?_⟩) hHeld ?_ ?_
                                                      rotate_left
                                                      · rintro w' ⟨s0, s1, s2, s3, s4, s5⟩
                                                        go_simp
                                                        with_reducible rfl
                                                      rotate_left
                                                      · simp only [Act.put, List.setIfInBounds_toArray, List.set_cons_zero, List.set_cons_succ, i64_w, i32_w]
                                                        rfl
                                                      refine one_ (i := 21) (N := some 71) #[true, true, true, true, true, true, true, true, true, true, true, true, true, true, true, true, true, true, true, true, true, true, false, false, false] rfl rfl (one_of HT_.out (by kernel_rfl)) (by decide) (fun K hK => ?_)
                                                      refine goes_ Tryd.func54 (by kernel_rfl) rfl #[.int .u8 (rd (rd_L2 l0 x34_2) x47_4), .int .u8 (rd (rd_L2 l1 x47_4) x42_3)] (by rfl) rfl rfl (by (try simp only [List.map_toArray, List.map_cons, List.map_nil]); first | done | rfl | (simp only [List.length_drop, List.length_take]; rfl)) ?_
                                                      with_reducible refine (caulkref02_Mul.calls (rd (rd_L2 l0 x34_2) x47_4) (rd (rd_L2 l1 x47_4) x42_3) t296 _ A28.out).mono ?_
                                                      rintro e w' ⟨rfl, ⟨nd, rfl⟩⟩
                                                      refine ⟨_, rfl, ?_⟩
                                                      have p29 : 0 ≤ (x42_3 : Int) := of_decide_eq_true (by first | (with_reducible assumption) | assumption)
                                                      have q29 : (x42_3 : Int) < (((rd_L2 x6_4 x34_2).length : Int) : Int) := of_decide_eq_true (by first | (with_reducible assumption) | assumption)
                                                      obtain ⟨go29, co29, eo29, gb29, gl29, cl29, HG29⟩ := Kd.R_form HL290_0.out (by omega)
                                                      (first | cases eo29 | (injection eo29 with ea_ en_ ec_; (first | subst ea_ | (injection ea_ with ea_; subst ea_)); subst ec_; clear en_))
                                                      have GB29 := Aside0.mk gb29
                                                      have GG29 := Aside0.mk HG29
                                                      clear gb29 gl29 HG29
                                                      (first | simp only [add_plain] at hx291_0 | skip)
                                                      obtain ⟨hx29_0, hf29_0⟩ := Kd.R_celln 0 HL290_0.out (x42_3 : Int) p29 q29
                                                      replace p29 := eq_true p29
                                                      replace q29 := eq_true q29
                                                      have hq31 : (x34_2 : Int) < (x6_4.length : Int) := (by have h_ : (x34_2 : Int) < ((x6_4.length : Int) : Int) := of_decide_eq_true (by first | (with_reducible assumption) | assumption); first | exact h_ | (have e_ := (Kd.S_reads' HO_6.out).1; omega) | simpa only [List.length_set, List.length_set] using h_)
                                                      obtain ⟨oki31, ce31, hcl31, hM31, hcc31, hok31, hbk31⟩ := Kd.S_borrow HO_6.out [] (x34_2 : Int) (of_decide_eq_true (by first | (with_reducible assumption) | assumption)) hq31
                                                      obtain ⟨ve31_0, rfl, ge31_0⟩ := hM31
                                                      have hv31 := hcc31 0 _ rfl
                                                      rw [Nat.add_zero, show ((Kd.slice 5 (Kd.int .u8))).sz = 1 from rfl, Nat.mul_one] at hv31
                                                      replace hv31 := Option.some.inj (hv31.symm.trans HX290_0.out)
                                                      subst hv31
                                                      clear hcc31 hcl31
                                                      replace ge31_0 := (show Kd.R (Kd.int .u8) 5 _ _ _ _ (rd_L2 x6_4 x34_2) from ge31_0)
                                                      have HP31 := Kd.R_putg ge31_0 (x42_3 : Int) (Go.bits .xor .u8 (rd (rd_L2 x6_4 x34_2) x42_3) t296)
                                                      rw [← Ny297.out] at HP31
                                                      have HS31 := hbk31 HP31.2 (fun k_ e_ => by injection e_ with e_; subst e_; exact ge31_0.1 _ rfl) (x' := y297) (Kd.M_row HP31.1)
                                                      rw [← Ny299.out] at HS31
                                                      have HQ31 := Aside0.mk HS31
                                                      clear HP31 HS31 hbk31 hok31
                                                      refine hK.out _ _ ⟨hHeld.1, hHeld.2.1, ((HB.out.cell (World.block_lt_of_cell? w _ hw292_0)).trans hw292_0), ((HB.out.cell (World.block_lt_of_cell? w _ hw293_0)).trans hw293_0), ((HB.out.cell (World.block_lt_of_cell? w _ hw294_0)).trans hw294_0), ((HB.out.cell (World.block_lt_of_cell? w _ hw295_0)).trans hw295_0)⟩ (fun hHeld => ?_)
                                                      clear hK K
                                                      refine norm_ (a' := ?_) ?_ ?_
                                                      rotate_left
                                                      · show Act.put _ (some 71) _ = _
                                                        simp only [Act.put, List.setIfInBounds_toArray, List.set_cons_zero, List.set_cons_succ, i64_w, i32_w]
                                                        rfl
                                                      refine pure_ (i := 22) (N := some 72) (v := ?_) (a' := ?_) #[true, true, true, true, true, true, true, true, true, true, true, true, true, true, true, true, true, true, true, true, true, true, true, false, false] rfl rfl (any_of HT_.out (by kernel_rfl)) (fun _ _ _ h => h) (Or.inl ⟨by rfl, ?_⟩) ?_ ?_
                                                      rotate_left
                                                      · intro w'
                                                        go_simp
                                                        with_reducible rfl
                                                      rotate_left
                                                      · simp only [Act.put, List.setIfInBounds_toArray, List.set_cons_zero, List.set_cons_succ, i64_w, i32_w]
                                                        rfl
                                                      refine pure_ (i := 23) (N := some 73) (v := ?_) (a' := ?_) #[true, true, true, true, true, true, true, true, true, true, true, true, true, true, true, true, true, true, true, true, true, true, true, true, false] rfl rfl (any_of HT_.out (by kernel_rfl)) (fun _ _ _ h => h) (Or.inl ⟨by rfl, ?_⟩) ?_ ?_
                                                      rotate_left
                                                      · intro w'
                                                        go_simp
                                                        with_reducible rfl
                                                      rotate_left
                                                      · simp only [Act.put, List.setIfInBounds_toArray, List.set_cons_zero, List.set_cons_succ, i64_w, i32_w]
                                                        rfl
                                                      refine last_ (i := 24) (N := none) #[true, true, true, true, true, true, true, true, true, true, true, true, true, true, true, true, true, true, true, true, true, true, true, true, true] rfl rfl (one_of HT_.out (by kernel_rfl)) (by decide) (fun K hK => ?_)
                                                      refine skip_ (w1 := ?_) (by rfl) rfl ?_ ?_
                                                      rotate_left
                                                      · go_simp
                                                        rfl
                                                      refine hK.out _ _ ?_
                                                      clear hK K
                                                      refine done_ (done_of HT_.out (by kernel_rfl)) ?_
                                                      try go_wp2
                                                      (try simp only [← hl6_4])
                                                      go_roundg k4
                                                      case measure => have := HJ2.out; have := HK2.out; have := HK3.out; have := HK4.out; omega
                                                      case rel => exact ⟨(y299), (wrap64 (x47_4 + 1)), (by first | rfl | (simp; done) | (simp [*]; done)), H', ⟨by have := HJ2.out; have := HK2.out; have := HK3.out; have := HK4.out; omega⟩, ⟨by (try simp only [hl6_2]); (try simp only [hl6_3]); (try simp only [hl6_4]); (with_reducible repeat (first | apply Kd.S_alloc | apply Kd.S_drewN | apply Kd.S_drew)); exact HQ31.out⟩, ⟨by repeat (first | (with_reducible first | exact HB.out | apply below_alloc | apply pw_below_drewN | apply below_drew1 | refine below_set ?_ GB29.out) | exact HB.out)⟩⟩
                                                    · rw [if_neg c27] at H
                                                      exact absurd H (by simp)
                                                  · rw [if_neg c26] at H
                                                    exact absurd H (by simp)
                                                · rw [if_neg c25] at H
                                                  exact absurd H (by simp)
                                              · rw [if_neg c24] at H
                                                exact absurd H (by simp)
                                            · rw [if_neg c23] at H
                                              exact absurd H (by simp)
                                          · rw [if_neg c22] at H
                                            exact absurd H (by simp)
                                        · rw [if_neg c21] at H
                                          exact absurd H (by simp)
                                      · rw [if_neg c20] at H
                                        exact absurd H (by simp)
                                    · rw [if_neg c19] at H
                                      exact absurd H (by simp)
                                  · rw [if_neg c18] at H
                                    have c18b0 : decide (x47_4 < (l1.length : Int)) = false := decide_eq_false c18
                                    clear c18
                                    have H' := Aside0.mk H
                                    clear H
                                    (try rw [hl6_3] at c18b0)
                                    (try rw [hl6_4] at c18b0)
                                    go_wp2
                                    (try simp only [← hl6_3, ← hl6_4])
                                    go_roundg k4
                                    case measure => have := HJ2.out; have := HK2.out; have := HK3.out; have := HK4.out; omega
                                    case rel => exact ⟨(x6_4), (wrap64 (x42_3 + 1)), (by first | rfl | (simp; done) | (simp [*]; done)), H', ⟨by have := HJ2.out; have := HK2.out; have := HK3.out; have := HK4.out; omega⟩, ⟨by (try simp only [hl6_2]); (try simp only [hl6_3]); (try simp only [hl6_4]); (with_reducible repeat (first | apply Kd.S_alloc | apply Kd.S_drewN | apply Kd.S_drew)); exact HO_6.out⟩, ⟨by repeat (first | (with_reducible first | exact HB.out | apply below_alloc | apply pw_below_drewN | apply below_drew1) | exact HB.out)⟩⟩
                            · rw [if_neg c17] at H
                              have c17b0 : decide (x42_3 < ((rd_L2 x6_2 x34_2).length : Int)) = false := decide_eq_false c17
                              clear c17
                              have H' := Aside0.mk H
                              clear H
                              go_wp2
                              (try simp only [← hl6_2, ← hl6_3])
                              go_roundg k3
                              case measure => have := HJ2.out; have := HK2.out; have := HK3.out; omega
                              case rel => exact ⟨(x6_3), (wrap64 (x34_2 + 1)), (by first | rfl | (simp; done) | (simp [*]; done)), H', ⟨by have := HJ2.out; have := HK2.out; have := HK3.out; omega⟩, ⟨by (try simp only [hl6_2]); (try simp only [hl6_3]); (with_reducible repeat (first | apply Kd.S_alloc | apply Kd.S_drewN | apply Kd.S_drew)); exact HO_6.out⟩, ⟨by repeat (first | (with_reducible first | exact HB.out | apply below_alloc | apply pw_below_drewN | apply below_drew1) | exact HB.out)⟩⟩
                      · rw [if_neg c16] at H
                        exact absurd H (by simp)
                    · rw [if_neg c15] at H
                      exact absurd H (by simp)
                  · rw [if_neg c14] at H
                    have c14b0 : decide (x34_2 < (t286.length : Int)) = false := decide_eq_false c14
                    clear c14
                    simp only [Option.some.injEq, Prod.mk.injEq] at H
                    obtain ⟨rfl, rfl⟩ := H
                    (try rw [hl6_2] at c14b0)
                    go_wp2
                    go_ret2
                    exact ⟨_, by first | rfl | (simp [errW_none, errW_some] <;> rfl) | (simp [*, errW_none, errW_some] <;> rfl), by (with_reducible repeat (first | apply Kd.S_alloc | apply Kd.S_drewN | apply Kd.S_drew)); exact HO_6.out, by repeat (first | (with_reducible first | exact HB.out | apply below_alloc | apply pw_below_drewN | apply below_drew1) | exact HB.out)⟩
            · rw [if_neg c10] at H
              exact absurd H (by simp)
          · rw [if_neg c9] at H
            have c9b0 : ((l1.length : Int) == ((rd_L2 l0 0).length : Int)) = false := beq_eq_false_iff_ne.mpr c9
            have c9b1 : ((l1.length : Int) != ((rd_L2 l0 0).length : Int)) = true := bne_iff_ne.mpr c9
            have c9b2 : (l1.length == (rd_L2 l0 0).length) = false := by first | simpa using c9 | (simp at c9 ⊢; omega)
            simp only [Option.some.injEq, Prod.mk.injEq] at H
            obtain ⟨rfl, rfl⟩ := H
            have p284 : 0 ≤ (0 : Int) := (by omega)
            have q284 : 0 < (l0.length : Int) := of_decide_eq_true (by first | (with_reducible assumption) | assumption)
            obtain ⟨ad284, A284_0, c284_0, e284, hx284_0, hl284_0, hi284_0⟩ := at_L2 HR0.out 0 p284 q284
            cases e284
            have qi284 : (0 < l0.length) = True := eq_true (by omega)
            (try rw [show ((0 : Int)).toNat = 0 from rfl] at hx284_0)
            (try rw [Addr.add_zero'] at hx284_0)
            replace hx284_0 := (HB.out.cell (World.block_lt_of_cell? w _ hx284_0)).trans hx284_0
            have HR284_0 := Aside0.mk hi284_0
            have HC284_0 := Aside0.mk hl284_0
            clear hi284_0 hl284_0
            replace p284 := eq_true p284
            replace q284 := eq_true q284
            go_wp2
            go_ret2
            exact ⟨_, by first | rfl | (simp [errW_none, errW_some] <;> rfl) | (simp [*, errW_none, errW_some] <;> rfl), by first | exact Kd.S_nil _ _ _ _ _ | exact Kd.N_nil _ _ _ _ _ | exact Kd.V_nil _ _ _ _ _ | exact Kd.Q_nil _ _ _ _ _ | exact Kd.R_nil _ _ _ _ _, by repeat (first | (with_reducible first | exact HB.out | apply below_alloc | apply pw_below_drewN | apply below_drew1) | exact HB.out)⟩
        · rw [if_neg c8] at H
          exact absurd H (by simp)

end Go.Proofs.YteiiaonpdamkhaaDoor.G
