-- Written by a program of this session over the print of the translation (its own patch, foreign contracts, cut ways): not trusted: Lean checks it.
import Derived.Test.YtlobaomleocpjaaGx0
import Derived.Test.YtlobaomleocpjaaGx9
import Derived.Test.YtlobaomleocpjaaGx10
import Derived.Test.YtlobaomleocpjaaClone
import Derived.Test.YtlobaomleocpjaaMatInv
import Derived.Test.YtlobaomleocpjaaMatRows
namespace Go.Proofs.Ytlobaomleocpjaa.G
open Go.RowKit Go.Proofs.YtlobaomleocpjaaW.PrintWords Go.Proofs.YtlobaomleocpjaaW.PrintLast Go.Proofs.YtlobaomleocpjaaW.PrintMore
attribute [local go_sem] max2_int min2_int max_two min_two max_three min_three max_four min_four   -- for this text's walks alone
set_option linter.unusedVariables false
set_option linter.unusedSimpArgs false

/-! ### rs_data: function 58 -/
def rs_data.f (k : Nat) (a0 : Int) (a1 : Int) (l2 : List ByteArray) (l3 : List Int) : Option (List ByteArray) := if 0 ≤ (wrap64 (a0 - 1)) then (if (wrap64 (a0 - 1)) < (l3.length : Int) then (if (rd l3 (wrap64 (a0 - 1))) = (wrap64 (a0 - 1)) then (if 0 ≤ a0 then (if a0 ≤ (l2.length : Int) then ((slices_Clone_string_string.f (l2.take (a0 : Int).toNat)).bind fun t481 => (some t481)) else (none)) else (none)) else ((rs_whole.f a0 a1).bind fun t484 => (if 0 ≤ a0 then (if a0 ≤ (l3.length : Int) then ((matrix_Rows.f t484 (l3.take (a0 : Int).toNat)).bind fun bt488 => ((matrix_Invert.f bt488.1).bind fun bt492 => (if a0 ≤ (l2.length : Int) then ((rs_times.f k bt492.1 (l2.take (a0 : Int).toNat)).bind fun t497 => (some t497)) else (none)))) else (none)) else (none)))) else (none)) else (none)
theorem rs_data.mono : ∀ a0 a1 a2 a3 k, LeO (rs_data.f k a0 a1 a2 a3) (rs_data.f (k + 1) a0 a1 a2 a3) := by
  intro a0 a1 a2 a3 k
  unfold rs_data.f
  repeat' first
      | (with_reducible exact rs_times.mono _ _ _)
      | (with_reducible exact LeO.refl _)
      | (with_reducible exact LeO.none _)
      | (with_reducible refine LeO.ite ?_ ?_)
      | (with_reducible refine LeO.bind ?_ (fun _ => ?_))
      | exact rs_times.mono _ _ _
      | exact LeO.none _
      | refine LeO.ite ?_ ?_
      | refine LeO.bind ?_ (fun _ => ?_)
def rs_data.T3 : Bool × List (List Nat × List Nat) := (true, [([], []), ([], []), ([0, 1], [0, 1]), ([], []), ([], []), ([3, 4], [3, 4]), ([2, 5, 2], [2, 5]), ([6], [6]), ([7], [7]), ([7], [7]), ([8, 6, 0, 1, 2, 3, 4, 5, 6, 7, 8], [8]), ([9, 10, 0, 1, 2, 3, 4, 5, 6, 7, 8, 9, 10], [9])])
def rs_data.B3 : List Nat := [0, 0, 3, 0, 0, 24, 63, 127, 255, 255, 511, 2047]
theorem rs_data.tab3 : rtab .any (opsOf Try.f58 3) = rs_data.T3 := by kernel_rfl
theorem rs_data.bits3 : waitsOk rs_data.T3.2 rs_data.B3 = true := by kernel_rfl
set_option maxHeartbeats 8000000 in
set_option maxRecDepth 100000 in
theorem rs_data.calls (k : Nat) (a0 : Int) (a1 : Int) (A2 : Option Addr) (c2 : Nat) (l2 : List ByteArray) (A3 : Option Addr) (c3 : Nat) (l3 : List Int) (r : List ByteArray) (w : World) (hr2 : Kd.C Kd.string w A2 l2.length l2) (hc2 : l2.length ≤ c2) (hr3 : Kd.C (Kd.int .i64) w A3 l3.length l3) (hc3 : l3.length ≤ c3) (h : rs_data.f k a0 a1 l2 l3 = some r) :
    Calls Try.prog 58 #[.int .i64 a0, .int .i64 a1, .slice A2 l2.length c2, .slice A3 l3.length c3] w fun e w' => ∃ v0_ : Value, e = .returned (v0_) ∧ Kd.R Kd.string 9 w' w.heap.size (fun _ => True) v0_ r ∧ Below w.heap.size w w' := by
  have HR2 := Aside0.mk hr2
  have HC2 := Aside0.mk hc2
  clear hr2 hc2
  have HR3 := Aside0.mk hr3
  have HC3 := Aside0.mk hc3
  clear hr3 hc3
  have HB := Aside0.mk (Below.refl w.heap.size w)
  have H : (if 0 ≤ (wrap64 (a0 - 1)) then (if (wrap64 (a0 - 1)) < (l3.length : Int) then (if (rd l3 (wrap64 (a0 - 1))) = (wrap64 (a0 - 1)) then (if 0 ≤ a0 then (if a0 ≤ (l2.length : Int) then ((slices_Clone_string_string.f (l2.take (a0 : Int).toNat)).bind fun t481 => (some t481)) else (none)) else (none)) else ((rs_whole.f a0 a1).bind fun t484 => (if 0 ≤ a0 then (if a0 ≤ (l3.length : Int) then ((matrix_Rows.f t484 (l3.take (a0 : Int).toNat)).bind fun bt488 => ((matrix_Invert.f bt488.1).bind fun bt492 => (if a0 ≤ (l2.length : Int) then ((rs_times.f k bt492.1 (l2.take (a0 : Int).toNat)).bind fun t497 => (some t497)) else (none)))) else (none)) else (none)))) else (none)) else (none)) = some r := h
  clear h
  obtain ⟨ji5, hji5⟩ : ∃ j_ : Int, (wrap64 (a0 - 1)) = j_ := ⟨_, rfl⟩
  replace H : (if 0 ≤ (ji5) then (if (ji5) < (l3.length : Int) then (if (rd l3 (ji5)) = (ji5) then (if 0 ≤ a0 then (if a0 ≤ (l2.length : Int) then ((slices_Clone_string_string.f (l2.take (a0 : Int).toNat)).bind fun t481 => (some t481)) else (none)) else (none)) else ((rs_whole.f a0 a1).bind fun t484 => (if 0 ≤ a0 then (if a0 ≤ (l3.length : Int) then ((matrix_Rows.f t484 (l3.take (a0 : Int).toNat)).bind fun bt488 => ((matrix_Invert.f bt488.1).bind fun bt492 => (if a0 ≤ (l2.length : Int) then ((rs_times.f k bt492.1 (l2.take (a0 : Int).toNat)).bind fun t497 => (some t497)) else (none)))) else (none)) else (none)))) else (none)) else (none)) = some r := by first | (rw [hji5] at H; exact H) | (simp only [hji5] at H ⊢; exact H)
  have hji5w : (IntKind.i64.wrap (a0 - 1)) = ji5 := (i64_w _).trans hji5
  by_cases c6 : 0 ≤ (ji5)
  · rw [if_pos c6] at H
    have c6b0 : decide (0 ≤ (ji5)) = true := decide_eq_true c6
    clear c6
    by_cases c7 : (ji5) < (l3.length : Int)
    · rw [if_pos c7] at H
      have c7b0 : decide ((ji5) < (l3.length : Int)) = true := decide_eq_true c7
      clear c7
      by_cases c8 : (rd l3 (ji5)) = (ji5)
      · rw [if_pos c8] at H
        have c8b0 : ((rd l3 (ji5)) == (ji5)) = true := beq_iff_eq.mpr c8
        have c8b1 : ((rd l3 (ji5)) != (ji5)) = false := bne_eq_false_iff_eq.mpr c8
        clear c8
        by_cases c9 : 0 ≤ a0
        · rw [if_pos c9] at H
          have c9b0 := eq_true c9
          have c9b1 : decide (0 ≤ a0) = true := decide_eq_true c9
          clear c9
          by_cases c10 : a0 ≤ (l2.length : Int)
          · rw [if_pos c10] at H
            have c10b0 := eq_true c10
            have c10b1 : decide (a0 ≤ (l2.length : Int)) = true := decide_eq_true c10
            clear c10
            replace H := Option.bind_eq_some_iff.mp H
            obtain ⟨t481, A110, H⟩ := H
            replace H : (some t481) = some r := H
            have A11 := Aside0.mk A110
            clear A110
            obtain rfl := Option.some.inj H
            have p479 : 0 ≤ ((ji5) : Int) := of_decide_eq_true (by first | (with_reducible assumption) | assumption)
            have q479 : (ji5) < (l3.length : Int) := of_decide_eq_true (by first | (with_reducible assumption) | assumption)
            obtain ⟨ad479, e479, hx479_0⟩ := Kd.at_int HR3.out (ji5) p479 q479
            cases e479
            replace p479 := eq_true p479
            replace q479 := eq_true q479
            obtain ⟨i012, hi012, _, hsz12, _⟩ := info_parts info9
            obtain ⟨hcut12, hA12, hC12⟩ := print_take_of (P := Try.prog) Value.string (⟨#[]⟩ : ByteArray) 39 9 .i64 Try.underlying39 hi012 hsz12 A2 c2 l2 a0 (of_decide_eq_true (by first | (with_reducible assumption) | assumption)) (of_decide_eq_true (by first | (with_reducible assumption) | assumption)) HC2.out
            have HR480 := Aside0.mk (Kd.C_of_reads (h1 := fun _ => rfl) (hA12 _ (Kd.reads_of_C HR2.out)))
            have HC480 := Aside0.mk hC12
            clear hA12 hC12 hi012 hsz12
            go_enter Try.func58, Try.ntmps58
            go_wp2_with (first | ((with_reducible refine gate_callee (f := 64) rfl ?_); refine goesL_ (some 24) rfl rfl Try.func64 (by kernel_rfl) rfl #[.slice A2 (l2.take (a0 : Int).toNat).length c2] rfl (by (try simp only [List.map_toArray, List.map_cons, List.map_nil]); first | done | (rw [show (l2.take (a0 : Int).toNat).length = a0.toNat from (by rw [List.length_take]; have h_ : (a0 : Int) ≤ (l2.length : Int) := of_decide_eq_true (by first | (with_reducible assumption) | assumption); omega)] <;> rfl) | rfl | (simp only [List.length_drop, List.length_take]; rfl)) ?_; (with_reducible refine (slices_Clone_string_string.calls _ _ (l2.take (a0 : Int).toNat) t481 _ ?side1 ?side2 A11.out).mono ?_); (case side1 => repeat (first | exact HR480.out | (with_reducible refine Kd.C_alloc ?_ _) | (with_reducible refine Kd.C_drewN ?_ _) | (with_reducible refine Kd.C_drew ?_))); (case side2 => exact HC480.out); rintro e w13 ⟨v482, rfl, ho0, hb⟩; refine ⟨_, rfl, ?_⟩; have n0_ := Aside0.mk (Kd.R_lower ho0 (below_size (by repeat (first | (with_reducible first | exact HB.out | apply below_alloc | apply pw_below_drewN | apply below_drew1) | exact HB.out)))); have n1_ := Aside0.mk (below_step (by repeat (first | (with_reducible first | exact HB.out | apply below_alloc | apply pw_below_drewN | apply below_drew1) | exact HB.out)) hb); clear HB; have HO483 := n0_; have HB := n1_; clear n0_ n1_; (try clear hb); (try clear hb2); (try clear hk); (try clear hi); (try clear ho0)))
            go_ret
            exact ⟨_, by first | rfl | (simp [errW_none, errW_some] <;> rfl) | (simp only [← hji5]; first | rfl | (simp [errW_none, errW_some] <;> rfl)) | (simp [*, errW_none, errW_some] <;> rfl), by (with_reducible repeat (first | apply Kd.R_alloc | apply Kd.R_drewN | apply Kd.R_drew)); exact HO483.out, by repeat (first | (with_reducible first | exact HB.out | apply below_alloc | apply pw_below_drewN | apply below_drew1) | exact HB.out)⟩
          · rw [if_neg c10] at H
            exact absurd H (by simp)
        · rw [if_neg c9] at H
          exact absurd H (by simp)
      · rw [if_neg c8] at H
        have c8b0 : ((rd l3 (ji5)) == (ji5)) = false := beq_eq_false_iff_ne.mpr c8
        have c8b1 : ((rd l3 (ji5)) != (ji5)) = true := bne_iff_ne.mpr c8
        replace H := Option.bind_eq_some_iff.mp H
        obtain ⟨t484, A140, H⟩ := H
        replace H : (if 0 ≤ a0 then (if a0 ≤ (l3.length : Int) then ((matrix_Rows.f t484 (l3.take (a0 : Int).toNat)).bind fun bt488 => ((matrix_Invert.f bt488.1).bind fun bt492 => (if a0 ≤ (l2.length : Int) then ((rs_times.f k bt492.1 (l2.take (a0 : Int).toNat)).bind fun t497 => (some t497)) else (none)))) else (none)) else (none)) = some r := H
        have A14 := Aside0.mk A140
        clear A140
        by_cases c15 : 0 ≤ a0
        · rw [if_pos c15] at H
          have c15b0 := eq_true c15
          have c15b1 : decide (0 ≤ a0) = true := decide_eq_true c15
          clear c15
          by_cases c16 : a0 ≤ (l3.length : Int)
          · rw [if_pos c16] at H
            have c16b0 := eq_true c16
            have c16b1 : decide (a0 ≤ (l3.length : Int)) = true := decide_eq_true c16
            clear c16
            replace H := Option.bind_eq_some_iff.mp H
            obtain ⟨⟨t488, t491⟩, A170, H⟩ := H
            replace H : ((matrix_Invert.f t488).bind fun bt492 => (if a0 ≤ (l2.length : Int) then ((rs_times.f k bt492.1 (l2.take (a0 : Int).toNat)).bind fun t497 => (some t497)) else (none))) = some r := H
            have A17 := Aside0.mk A170
            clear A170
            replace H := Option.bind_eq_some_iff.mp H
            obtain ⟨⟨t492, t495⟩, A180, H⟩ := H
            replace H : (if a0 ≤ (l2.length : Int) then ((rs_times.f k t492 (l2.take (a0 : Int).toNat)).bind fun t497 => (some t497)) else (none)) = some r := H
            have A18 := Aside0.mk A180
            clear A180
            have c19b0 := eq_true (of_decide_eq_true (by first | (with_reducible assumption) | assumption) : 0 ≤ a0)
            by_cases c20 : a0 ≤ (l2.length : Int)
            · rw [if_pos c20] at H
              have c20b0 := eq_true c20
              have c20b1 : decide (a0 ≤ (l2.length : Int)) = true := decide_eq_true c20
              clear c20
              replace H := Option.bind_eq_some_iff.mp H
              obtain ⟨t497, A210, H⟩ := H
              replace H : (some t497) = some r := H
              have A21 := Aside0.mk A210
              clear A210
              obtain rfl := Option.some.inj H
              have p479 : 0 ≤ ((ji5) : Int) := of_decide_eq_true (by first | (with_reducible assumption) | assumption)
              have q479 : (ji5) < (l3.length : Int) := of_decide_eq_true (by first | (with_reducible assumption) | assumption)
              obtain ⟨ad479, e479, hx479_0⟩ := Kd.at_int HR3.out (ji5) p479 q479
              cases e479
              replace p479 := eq_true p479
              replace q479 := eq_true q479
              go_enter Try.func58, Try.ntmps58
              try go_wp2
              have n0_ := Aside0.mk (below_drew1 HB.out)
              clear HB
              have HB := n0_
              clear n0_
              obtain ⟨i023, hi023, _, hsz23, _⟩ := info_parts info3
              obtain ⟨hcut23, hA23, hC23⟩ := print_take_of (P := Try.prog) (Value.int .i64) 0 24 3 .i64 Try.underlying24 hi023 hsz23 (some ad479) c3 l3 a0 (of_decide_eq_true (by first | (with_reducible assumption) | assumption)) (of_decide_eq_true (by first | (with_reducible assumption) | assumption)) HC3.out
              have HR487 := Aside0.mk (Kd.C_of_reads (h1 := fun _ => rfl) (hA23 _ (Kd.reads_of_C HR3.out)))
              have HC487 := Aside0.mk hC23
              clear hA23 hC23 hi023 hsz23
              refine start_ (n := 12) (S := fun w' => True) (ds := []) #[false, false, false, false, false, false, false, false, false, false, false, false] (by kernel_rfl) rfl rfl trivial (fun hHeld => ?_); refine with_tabW rs_data.tab3 rs_data.bits3 (fun HT_ HW_ => ?_)
              generalize w.drew = w22 at HB HR487 hHeld ⊢
              refine pure_ (i := 0) (N := some 26) (v := ?_) (a' := ?_) #[true, false, false, false, false, false, false, false, false, false, false, false] rfl rfl (any_of HT_.out (by kernel_rfl)) (fun _ _ _ h => h) (Or.inl ⟨by rfl, ?_⟩) ?_ ?_
              rotate_left
              · intro w'
                go_simp
                with_reducible rfl
              rotate_left
              · simp only [Act.put, List.setIfInBounds_toArray, List.set_cons_zero, List.set_cons_succ, i64_w, i32_w]
                rfl
              refine pure_ (i := 1) (N := some 27) (v := ?_) (a' := ?_) #[true, true, false, false, false, false, false, false, false, false, false, false] rfl rfl (any_of HT_.out (by kernel_rfl)) (fun _ _ _ h => h) (Or.inl ⟨by rfl, ?_⟩) ?_ ?_
              rotate_left
              · intro w'
                go_simp
                with_reducible rfl
              rotate_left
              · simp only [Act.put, List.setIfInBounds_toArray, List.set_cons_zero, List.set_cons_succ, i64_w, i32_w]
                rfl
              refine pure_ (i := 3) (N := some 29) (v := ?_) (a' := ?_) #[true, true, false, true, false, false, false, false, false, false, false, false] rfl rfl (any_of HT_.out (by kernel_rfl)) (fun _ _ _ h => h) (Or.inl ⟨by rfl, ?_⟩) ?_ ?_
              rotate_left
              · intro w'
                go_simp
                with_reducible rfl
              rotate_left
              · simp only [Act.put, List.setIfInBounds_toArray, List.set_cons_zero, List.set_cons_succ, i64_w, i32_w]
                rfl
              refine pure_ (i := 4) (N := some 30) (v := ?_) (a' := ?_) #[true, true, false, true, true, false, false, false, false, false, false, false] rfl rfl (any_of HT_.out (by kernel_rfl)) (fun _ _ _ h => h) (Or.inl ⟨by rfl, ?_⟩) ?_ ?_
              rotate_left
              · intro w'
                go_simp
                with_reducible rfl
              rotate_left
              · simp only [Act.put, List.setIfInBounds_toArray, List.set_cons_zero, List.set_cons_succ, i64_w, i32_w]
                rfl
              refine pure_ (i := 5) (N := some 31) (v := ?_) (a' := ?_) #[true, true, false, true, true, true, false, false, false, false, false, false] rfl rfl (any_of HT_.out (by kernel_rfl)) (fun _ _ _ h => h) (Or.inl ⟨by rfl, ?_⟩) ?_ ?_
              rotate_left
              · intro w'
                go_simp
                with_reducible rfl
              rotate_left
              · simp only [Act.put, List.setIfInBounds_toArray, List.set_cons_zero, List.set_cons_succ, i64_w, i32_w]
                rfl
              refine one_ (i := 2) (N := some 28) #[true, true, true, true, true, true, false, false, false, false, false, false] rfl rfl (one_of HT_.out (by kernel_rfl)) (by decide) (fun K hK => ?_)
              refine goes_ Try.func65 (by kernel_rfl) rfl #[.int .i64 a0, .int .i64 a1] (by rfl) rfl rfl (by (try simp only [List.map_toArray, List.map_cons, List.map_nil]); first | done | rfl | (simp only [List.length_drop, List.length_take]; rfl)) ?_
              with_reducible refine (rs_whole.calls a0 a1 t484 _ A14.out).mono ?_
              rintro e w24 ⟨v485, rfl, ho0, hb⟩
              refine ⟨_, rfl, ?_⟩
              have n0_ := Aside0.mk (Kd.N_lower (Kd.N_mono (ok' := fun k_ => True) ho0 (fun k_ hk_ => trivial)) (below_size (by repeat (first | (with_reducible first | exact HB.out | apply below_alloc | apply pw_below_drewN | apply below_drew1) | exact HB.out))))
              have n1_ := Aside0.mk (below_step (by repeat (first | (with_reducible first | exact HB.out | apply below_alloc | apply pw_below_drewN | apply below_drew1) | exact HB.out)) hb)
              clear HB
              have HO486 := n0_
              have HB := n1_
              clear n0_ n1_
              (try clear hb)
              (try clear hb2)
              (try clear hk)
              (try clear hi)
              (try clear ho0)
              obtain ⟨Ao25, co25, eo25⟩ := Kd.N_slice HO486.out
              (first | subst eo25 | (injection eo25 with f1_ f2_ f3_; have f4_ := f1_.symm; have f5_ := f3_.symm; clear f1_ f2_ f3_; subst f4_; subst f5_))
              refine hK.out _ _ trivial (fun hHeld => ?_)
              clear hK K
              refine norm_ (a' := ?_) ?_ ?_
              rotate_left
              · show Act.put _ (some 28) _ = _
                simp only [Act.put, List.setIfInBounds_toArray, List.set_cons_zero, List.set_cons_succ, i64_w, i32_w]
                rfl
              refine one_ (i := 6) (N := some 32) #[true, true, true, true, true, true, true, false, false, false, false, false] rfl rfl (one_of HT_.out (by kernel_rfl)) (by decide) (fun K hK => ?_)
              refine goes_ Try.func16 (by kernel_rfl) rfl #[.slice Ao25 t484.length co25, .slice (some ad479) (l3.take (a0 : Int).toNat).length c3] (by rfl) rfl rfl (by (try simp only [List.map_toArray, List.map_cons, List.map_nil]); first | done | (rw [show (l3.take (a0 : Int).toNat).length = a0.toNat from (by rw [List.length_take]; have h_ : (a0 : Int) ≤ (l3.length : Int) := of_decide_eq_true (by first | (with_reducible assumption) | assumption); omega)] <;> rfl) | rfl | (simp only [List.length_drop, List.length_take]; rfl)) ?_
              with_reducible refine (matrix_Rows.calls _ _ t484 _ _ (l3.take (a0 : Int).toNat) t488 t491 _ ?side1 ?side2 ?side3 ?side4 A17.out).mono ?_
              (case side1 => repeat (first | exact (Kd.N_reads' HO486.out).2.2 | (with_reducible refine Kd.C_alloc ?_ _) | (with_reducible refine Kd.C_drewN ?_ _) | (with_reducible refine Kd.C_drew ?_)))
              (case side2 => exact (Kd.N_reads' HO486.out).2.1)
              (case side3 => repeat (first | exact (Kd.C_below HR487.out HB.out) | (with_reducible refine Kd.C_alloc ?_ _) | (with_reducible refine Kd.C_drewN ?_ _) | (with_reducible refine Kd.C_drew ?_)))
              (case side4 => exact HC487.out)
              rintro e w26 ⟨v489, rfl, ho0, hb⟩
              refine ⟨_, rfl, ?_⟩
              have n0_ := Aside0.mk (Kd.N_elder' (by (with_reducible repeat (first | apply Kd.N_alloc | apply Kd.N_drewN | apply Kd.N_drew)); exact HO486.out) (Kd.N_base ho0) hb)
              have n1_ := Aside0.mk (Kd.N_lower (Kd.N_mono (ok' := fun k_ => some k_ ≠ (.slice Ao25 t484.length co25 : Value).ownBlock) ho0 (fun k_ hk_ => (Kd.fresh' (Kd.N_lt (by (with_reducible repeat (first | apply Kd.N_alloc | apply Kd.N_drewN | apply Kd.N_drew)); exact HO486.out)) k_ hk_))) (below_size (by repeat (first | (with_reducible first | exact HB.out | apply below_alloc | apply pw_below_drewN | apply below_drew1) | exact HB.out))))
              have n2_ := Aside0.mk (below_step (by repeat (first | (with_reducible first | exact HB.out | apply below_alloc | apply pw_below_drewN | apply below_drew1) | exact HB.out)) hb)
              clear HO486
              clear HB
              have HO486 := n0_
              have HO490 := n1_
              have HB := n2_
              clear n0_ n1_ n2_
              (try clear hb)
              (try clear hb2)
              (try clear hk)
              (try clear hi)
              (try clear ho0)
              refine hK.out _ _ trivial (fun hHeld => ?_)
              clear hK K
              refine norm_ (a' := ?_) ?_ ?_
              rotate_left
              · show Act.put _ (some 32) _ = _
                simp only [Act.put, List.setIfInBounds_toArray, List.set_cons_zero, List.set_cons_succ, i64_w, i32_w]
                rfl
              refine pure_ (i := 7) (N := some 25) (v := ?_) (a' := ?_) #[true, true, true, true, true, true, true, true, false, false, false, false] rfl rfl (any_of HT_.out (by kernel_rfl)) (fun _ _ _ h => h) (Or.inl ⟨by rfl, ?_⟩) ?_ ?_
              rotate_left
              · intro w'
                go_simp
                with_reducible rfl
              rotate_left
              · simp only [Act.put, List.setIfInBounds_toArray, List.set_cons_zero, List.set_cons_succ, i64_w, i32_w]
                rfl
              refine pure_ (i := 8) (N := some 33) (v := ?_) (a' := ?_) #[true, true, true, true, true, true, true, true, true, false, false, false] rfl rfl (any_of HT_.out (by kernel_rfl)) (fun _ _ _ h => h) (Or.inl ⟨by rfl, ?_⟩) ?_ ?_
              rotate_left
              · intro w'
                go_simp
                with_reducible rfl
              rotate_left
              · simp only [Act.put, List.setIfInBounds_toArray, List.set_cons_zero, List.set_cons_succ, i64_w, i32_w]
                rfl
              refine pure_ (i := 9) (N := some 34) (v := ?_) (a' := ?_) #[true, true, true, true, true, true, true, true, true, true, false, false] rfl rfl (any_of HT_.out (by kernel_rfl)) (fun _ _ _ h => h) (Or.inl ⟨by rfl, ?_⟩) ?_ ?_
              rotate_left
              · intro w'
                go_simp
                with_reducible rfl
              rotate_left
              · simp only [Act.put, List.setIfInBounds_toArray, List.set_cons_zero, List.set_cons_succ, i64_w, i32_w]
                rfl
              refine pure_ (i := 10) (N := some 9) (v := ?_) (a' := ?_) #[true, true, true, true, true, true, true, true, true, true, true, false] rfl rfl (any_of HT_.out (by kernel_rfl)) (fun _ _ _ h => h) (Or.inl ⟨by rfl, ?_⟩) ?_ ?_
              rotate_left
              · intro w'
                go_simp
                with_reducible rfl
              rotate_left
              · simp only [Act.put, List.setIfInBounds_toArray, List.set_cons_zero, List.set_cons_succ, i64_w, i32_w]
                rfl
              refine pure_ (i := 11) (N := some 10) (v := ?_) (a' := ?_) #[true, true, true, true, true, true, true, true, true, true, true, true] rfl rfl (any_of HT_.out (by kernel_rfl)) (fun _ _ _ h => h) (Or.inl ⟨by rfl, ?_⟩) ?_ ?_
              rotate_left
              · intro w'
                go_simp
                with_reducible rfl
              rotate_left
              · simp only [Act.put, List.setIfInBounds_toArray, List.set_cons_zero, List.set_cons_succ, i64_w, i32_w]
                rfl
              refine done_ (done_of HT_.out (by kernel_rfl)) ?_
              obtain ⟨Ao27, co27, eo27⟩ := Kd.N_slice HO490.out
              subst eo27
              try go_wp2_with (first | ((with_reducible refine gate_callee (f := 25) rfl ?_); refine goesL_ (some 37) rfl rfl Try.func25 (by kernel_rfl) rfl #[.slice Ao27 t488.length co27] rfl (by (try simp only [List.map_toArray, List.map_cons, List.map_nil]); first | done | rfl | (simp only [List.length_drop, List.length_take]; rfl)) ?_; (with_reducible refine (matrix_Invert.calls _ _ t488 t492 t495 _ ?side1 ?side2 A18.out).mono ?_); (case side1 => repeat (first | exact (Kd.N_reads' HO490.out).2.2 | (with_reducible refine Kd.C_alloc ?_ _) | (with_reducible refine Kd.C_drewN ?_ _) | (with_reducible refine Kd.C_drew ?_))); (case side2 => exact (Kd.N_reads' HO490.out).2.1); rintro e w28 ⟨v493, rfl, ho0, hb⟩; refine ⟨_, rfl, ?_⟩; have n0_ := Aside0.mk (Kd.N_elder' (by (with_reducible repeat (first | apply Kd.N_alloc | apply Kd.N_drewN | apply Kd.N_drew)); exact HO486.out) (Kd.N_base ho0) hb); have n1_ := Aside0.mk (Kd.N_elder' (by (with_reducible repeat (first | apply Kd.N_alloc | apply Kd.N_drewN | apply Kd.N_drew)); exact HO490.out) (Kd.N_base ho0) hb); have n2_ := Aside0.mk (Kd.N_lower (Kd.N_mono (ok' := fun k_ => some k_ ≠ (.slice Ao25 t484.length co25 : Value).ownBlock ∧ some k_ ≠ (.slice Ao27 t488.length co27 : Value).ownBlock) ho0 (fun k_ hk_ => ⟨(Kd.fresh' (Kd.N_lt (by (with_reducible repeat (first | apply Kd.N_alloc | apply Kd.N_drewN | apply Kd.N_drew)); exact HO486.out)) k_ hk_), (Kd.fresh' (Kd.N_lt (by (with_reducible repeat (first | apply Kd.N_alloc | apply Kd.N_drewN | apply Kd.N_drew)); exact HO490.out)) k_ hk_)⟩)) (below_size (by repeat (first | (with_reducible first | exact HB.out | apply below_alloc | apply pw_below_drewN | apply below_drew1) | exact HB.out)))); have n3_ := Aside0.mk (below_step (by repeat (first | (with_reducible first | exact HB.out | apply below_alloc | apply pw_below_drewN | apply below_drew1) | exact HB.out)) hb); clear HO486; clear HO490; clear HB; have HO486 := n0_; have HO490 := n1_; have HO494 := n2_; have HB := n3_; clear n0_ n1_ n2_ n3_; (try clear hb); (try clear hb2); (try clear hk); (try clear hi); (try clear ho0); obtain ⟨i029, hi029, _, hsz29, _⟩ := info_parts info9; obtain ⟨hcut29, hA29, hC29⟩ := print_take_of (P := Try.prog) Value.string (⟨#[]⟩ : ByteArray) 39 9 .i64 Try.underlying39 hi029 hsz29 A2 c2 l2 a0 (of_decide_eq_true (by first | (with_reducible assumption) | assumption)) (of_decide_eq_true (by first | (with_reducible assumption) | assumption)) HC2.out; have HR496 := Aside0.mk (Kd.C_of_reads (h1 := fun _ => rfl) (hA29 _ (Kd.reads_of_C HR2.out))); have HC496 := Aside0.mk hC29; clear hA29 hC29 hi029 hsz29; obtain ⟨Ao30, co30, eo30⟩ := Kd.N_slice HO494.out; subst eo30) | ((with_reducible refine gate_callee (f := 63) rfl ?_); refine goesL_ (some 44) rfl rfl Try.func63 (by kernel_rfl) rfl #[.slice Ao30 t492.length co30, .slice A2 (l2.take (a0 : Int).toNat).length c2] rfl (by (try simp only [List.map_toArray, List.map_cons, List.map_nil]); first | done | (rw [show (l2.take (a0 : Int).toNat).length = a0.toNat from (by rw [List.length_take]; have h_ : (a0 : Int) ≤ (l2.length : Int) := of_decide_eq_true (by first | (with_reducible assumption) | assumption); omega)] <;> rfl) | rfl | (simp only [List.length_drop, List.length_take]; rfl)) ?_; (with_reducible refine (rs_times.calls k _ _ t492 _ _ (l2.take (a0 : Int).toNat) t497 _ ?side1 ?side2 ?side3 ?side4 A21.out).mono ?_); (case side1 => repeat (first | exact (Kd.N_reads' HO494.out).2.2 | (with_reducible refine Kd.C_alloc ?_ _) | (with_reducible refine Kd.C_drewN ?_ _) | (with_reducible refine Kd.C_drew ?_))); (case side2 => exact (Kd.N_reads' HO494.out).2.1); (case side3 => repeat (first | exact (Kd.C_below HR496.out HB.out) | (with_reducible refine Kd.C_alloc ?_ _) | (with_reducible refine Kd.C_drewN ?_ _) | (with_reducible refine Kd.C_drew ?_))); (case side4 => exact HC496.out); rintro e w31 ⟨v498, rfl, ho0, hb⟩; refine ⟨_, rfl, ?_⟩; have n0_ := Aside0.mk (Kd.N_elder' (by (with_reducible repeat (first | apply Kd.N_alloc | apply Kd.N_drewN | apply Kd.N_drew)); exact HO486.out) (Kd.R_base ho0) hb); have n1_ := Aside0.mk (Kd.N_elder' (by (with_reducible repeat (first | apply Kd.N_alloc | apply Kd.N_drewN | apply Kd.N_drew)); exact HO490.out) (Kd.R_base ho0) hb); have n2_ := Aside0.mk (Kd.N_elder' (by (with_reducible repeat (first | apply Kd.N_alloc | apply Kd.N_drewN | apply Kd.N_drew)); exact HO494.out) (Kd.R_base ho0) hb); have n3_ := Aside0.mk (Kd.R_lower ho0 (below_size (by repeat (first | (with_reducible first | exact HB.out | apply below_alloc | apply pw_below_drewN | apply below_drew1) | exact HB.out)))); have n4_ := Aside0.mk (below_step (by repeat (first | (with_reducible first | exact HB.out | apply below_alloc | apply pw_below_drewN | apply below_drew1) | exact HB.out)) hb); clear HO486; clear HO490; clear HO494; clear HB; have HO486 := n0_; have HO490 := n1_; have HO494 := n2_; have HO499 := n3_; have HB := n4_; clear n0_ n1_ n2_ n3_ n4_; (try clear hb); (try clear hb2); (try clear hk); (try clear hi); (try clear ho0)))
              go_ret
              exact ⟨_, by first | rfl | (simp [errW_none, errW_some] <;> rfl) | (simp only [← hji5]; first | rfl | (simp [errW_none, errW_some] <;> rfl)) | (simp [*, errW_none, errW_some] <;> rfl), by (with_reducible repeat (first | apply Kd.R_alloc | apply Kd.R_drewN | apply Kd.R_drew)); exact HO499.out, by repeat (first | (with_reducible first | exact HB.out | apply below_alloc | apply pw_below_drewN | apply below_drew1) | exact HB.out)⟩
            · rw [if_neg c20] at H
              exact absurd H (by simp)
          · rw [if_neg c16] at H
            exact absurd H (by simp)
        · rw [if_neg c15] at H
          exact absurd H (by simp)
    · rw [if_neg c7] at H
      exact absurd H (by simp)
  · rw [if_neg c6] at H
    exact absurd H (by simp)

/-! ### rs_Decode: function 36 -/
def rs_Decode.j0 : Nat → Int → Int → List ByteArray → List Int → Bool → Option (List ByteArray × Int)
  | 0, _, _, _, _, _ => none
  | k + 1, x0, x1, x9, x10, x23 => if x23 = true then (some (([] : List ByteArray), 2)) else (if (x9.length : Int) < x0 then (some (([] : List ByteArray), 10)) else ((rs_data.f k x0 x1 x9 x10).bind fun t508 => ((rs_parity.f k x0 x1 t508).bind fun t511 => (if t508.length + t511.length < 8796093022208 then (some ((t508 ++ t511), 0)) else (none)))))
def rs_Decode.f (k : Nat) (a0 : Int) (a1 : Int) (l2 : List (S48)) : Option (List ByteArray × Int) := (rs_Check.f a0 a1).bind fun t500 => (if t500 = 0 then ((rs_there.f k l2).bind fun bt501 => (if (l2.length : Int) = (wrap64 (a0 + a1)) then ((rs_fits.f k bt501.1).bind fun t507 => (rs_Decode.j0 k a0 a1 bt501.1 bt501.2 (!t507))) else (rs_Decode.j0 k a0 a1 bt501.1 bt501.2 true))) else (some (([] : List ByteArray), t500)))
theorem rs_Decode.mono_l : ∀ k, (∀ y0 y1 y2 y3 y4, LeO (rs_Decode.j0 k y0 y1 y2 y3 y4) (rs_Decode.j0 (k + 1) y0 y1 y2 y3 y4))
  | 0 => fun _ _ _ _ _ r h => by simp [rs_Decode.j0] at h
  | k + 1 => by
    have ih0 := rs_Decode.mono_l k
    · intro y0 y1 y2 y3 y4
      unfold rs_Decode.j0
      repeat' first
      | (with_reducible exact ih0 _ _ _ _ _)
      | (with_reducible exact rs_data.mono _ _ _ _ _)
      | (with_reducible exact rs_fits.mono _ _)
      | (with_reducible exact rs_parity.mono _ _ _ _)
      | (with_reducible exact rs_there.mono _ _)
      | (with_reducible exact LeO.refl _)
      | (with_reducible exact LeO.none _)
      | (with_reducible refine LeO.ite ?_ ?_)
      | (with_reducible refine LeO.bind ?_ (fun _ => ?_))
      | exact ih0 _ _ _ _ _
      | exact rs_data.mono _ _ _ _ _
      | exact rs_fits.mono _ _
      | exact rs_parity.mono _ _ _ _
      | exact rs_there.mono _ _
      | exact LeO.none _
      | refine LeO.ite ?_ ?_
      | refine LeO.bind ?_ (fun _ => ?_)
theorem rs_Decode.mono : ∀ a0 a1 a2 k, LeO (rs_Decode.f k a0 a1 a2) (rs_Decode.f (k + 1) a0 a1 a2) := by
  intro a0 a1 a2 k
  have ih0 := rs_Decode.mono_l k
  unfold rs_Decode.f
  repeat' first
      | (with_reducible exact ih0 _ _ _ _ _)
      | (with_reducible exact rs_data.mono _ _ _ _ _)
      | (with_reducible exact rs_fits.mono _ _)
      | (with_reducible exact rs_parity.mono _ _ _ _)
      | (with_reducible exact rs_there.mono _ _)
      | (with_reducible exact LeO.refl _)
      | (with_reducible exact LeO.none _)
      | (with_reducible refine LeO.ite ?_ ?_)
      | (with_reducible refine LeO.bind ?_ (fun _ => ?_))
      | exact ih0 _ _ _ _ _
      | exact rs_data.mono _ _ _ _ _
      | exact rs_fits.mono _ _
      | exact rs_parity.mono _ _ _ _
      | exact rs_there.mono _ _
      | exact LeO.none _
      | refine LeO.ite ?_ ?_
      | refine LeO.bind ?_ (fun _ => ?_)
set_option maxHeartbeats 8000000 in
set_option maxRecDepth 100000 in
theorem rs_Decode.calls (k : Nat) (a0 : Int) (a1 : Int) (A2 : Option Addr) (c2 : Nat) (l2 : List (S48)) (r1 : List ByteArray) (r2 : Int) (w : World) (hr2 : Kd.C k48 w A2 l2.length l2) (hc2 : l2.length ≤ c2) (h : rs_Decode.f k a0 a1 l2 = some (r1, r2)) :
    Calls Try.prog 36 #[.int .i64 a0, .int .i64 a1, .slice A2 l2.length c2] w fun e w' => ∃ v0_ : Value, e = .returned (.tuple #[v0_, .int .i64 r2]) ∧ Kd.R Kd.string 9 w' w.heap.size (fun _ => True) v0_ r1 ∧ Below w.heap.size w w' := by
  have HR2 := Aside0.mk hr2
  have HC2 := Aside0.mk hc2
  clear hr2 hc2
  have HB := Aside0.mk (Below.refl w.heap.size w)
  have H : ((rs_Check.f a0 a1).bind fun t500 => (if t500 = 0 then ((rs_there.f k l2).bind fun bt501 => (if (l2.length : Int) = (wrap64 (a0 + a1)) then ((rs_fits.f k bt501.1).bind fun t507 => (rs_Decode.j0 k a0 a1 bt501.1 bt501.2 (!t507))) else (rs_Decode.j0 k a0 a1 bt501.1 bt501.2 true))) else (some (([] : List ByteArray), t500)))) = some (r1, r2) := h
  clear h
  replace H := Option.bind_eq_some_iff.mp H
  obtain ⟨t500, A40, H⟩ := H
  replace H : (if t500 = 0 then ((rs_there.f k l2).bind fun bt501 => (if (l2.length : Int) = (wrap64 (a0 + a1)) then ((rs_fits.f k bt501.1).bind fun t507 => (rs_Decode.j0 k a0 a1 bt501.1 bt501.2 (!t507))) else (rs_Decode.j0 k a0 a1 bt501.1 bt501.2 true))) else (some (([] : List ByteArray), t500))) = some (r1, r2) := H
  have A4 := Aside0.mk A40
  clear A40
  by_cases c5 : t500 = 0
  · rw [if_pos c5] at H
    have c5b0 : (t500 == 0) = true := beq_iff_eq.mpr c5
    have c5b1 : (t500 != 0) = false := bne_eq_false_iff_eq.mpr c5
    clear c5
    replace H := Option.bind_eq_some_iff.mp H
    obtain ⟨⟨t501, t502⟩, A60, H⟩ := H
    replace H : (if (l2.length : Int) = (wrap64 (a0 + a1)) then ((rs_fits.f k t501).bind fun t507 => (rs_Decode.j0 k a0 a1 t501 t502 (!t507))) else (rs_Decode.j0 k a0 a1 t501 t502 true)) = some (r1, r2) := H
    have A6 := Aside0.mk A60
    clear A60
    have HC7 := Aside0.mk H
    clear H
    go_enter Try.func36, Try.ntmps36
    go_upto_region 5 with (first | ((with_reducible refine gate_callee (f := 31) rfl ?_); refine goesL_ (some 14) rfl rfl Try.func31 (by kernel_rfl) rfl #[.int .i64 a0, .int .i64 a1] rfl (by (try simp only [List.map_toArray, List.map_cons, List.map_nil]); first | done | rfl | (simp only [List.length_drop, List.length_take]; rfl)) ?_; (with_reducible refine (rs_Check.calls a0 a1 t500 _ A4.out).mono ?_); rintro e w' ⟨rfl, ⟨nd, rfl⟩⟩; refine ⟨_, rfl, ?_⟩) | ((with_reducible refine gate_callee (f := 57) rfl ?_); refine goesL_ (some 20) rfl rfl Try.func57 (by kernel_rfl) rfl #[.slice A2 l2.length c2] rfl (by (try simp only [List.map_toArray, List.map_cons, List.map_nil]); first | done | rfl | (simp only [List.length_drop, List.length_take]; rfl)) ?_; (with_reducible refine (rs_there.calls k _ _ l2 t501 t502 _ ?side1 ?side2 A6.out).mono ?_); (case side1 => repeat (first | exact HR2.out | (with_reducible refine Kd.C_alloc ?_ _) | (with_reducible refine Kd.C_drewN ?_ _) | (with_reducible refine Kd.C_drew ?_))); (case side2 => exact HC2.out); rintro e w8 ⟨v503, v505, rfl, ho0, ho1, hb⟩; refine ⟨_, rfl, ?_⟩; have n0_ := Aside0.mk (Kd.R_lower ho0 (below_size (by repeat (first | (with_reducible first | exact HB.out | apply below_alloc | apply pw_below_drewN | apply below_drew1) | exact HB.out)))); have n1_ := Aside0.mk (Kd.R_lower ho1 (below_size (by repeat (first | (with_reducible first | exact HB.out | apply below_alloc | apply pw_below_drewN | apply below_drew1) | exact HB.out)))); have n2_ := Aside0.mk (below_step (by repeat (first | (with_reducible first | exact HB.out | apply below_alloc | apply pw_below_drewN | apply below_drew1) | exact HB.out)) hb); clear HB; have HO504 := n0_; have HO506 := n1_; have HB := n2_; clear n0_ n1_ n2_; (try clear hb); (try clear hb2); (try clear hk); (try clear hi); (try clear ho0); (try clear ho1)))
    (try simp only [Act.put, List.setIfInBounds_toArray, List.set_cons_zero, List.set_cons_succ])
    go_cut [23] (fun v23 wc => ∃ (kq : Nat) (x23_6 : Bool), v23 = .bool x23_6 ∧ Aside0 (rs_Decode.j0 kq a0 a1 t501 t502 x23_6 = some (r1, r2)) ∧ Aside0 (kq ≤ k) ∧ Aside0 (Kd.R Kd.string 9 wc w.heap.size (fun _ => True) v503 t501) ∧ Aside0 (Kd.R (Kd.int .i64) 3 wc w.heap.size (fun _ => True) v505 t502) ∧ Aside0 (Below w.heap.size w wc))
    case first =>
      have H := HC7.out
      clear HC7
      by_cases c9 : (l2.length : Int) = (wrap64 (a0 + a1))
      · rw [if_pos c9] at H
        have c9b0 : ((l2.length : Int) == (wrap64 (a0 + a1))) = true := beq_iff_eq.mpr c9
        have c9b1 : ((l2.length : Int) != (wrap64 (a0 + a1))) = false := bne_eq_false_iff_eq.mpr c9
        clear c9
        (first | rw [c9b0] | (simp only [i64_w, i32_w]; rw [c9b0]) | skip)
        replace H := Option.bind_eq_some_iff.mp H
        obtain ⟨t507, A100, H⟩ := H
        replace H : (rs_Decode.j0 k a0 a1 t501 t502 (!t507)) = some (r1, r2) := H
        have A10 := Aside0.mk A100
        clear A100
        have H' := Aside0.mk H
        clear H
        obtain ⟨Ao11, co11, eo11⟩ := Kd.R_slice HO504.out
        subst eo11
        go_wp2_with (first | (go_at_call 52; (with_reducible refine (rs_fits.calls k _ _ t501 t507 _ ?side1 ?side2 A10.out).mono ?_); (case side1 => repeat (first | exact (Kd.R_reads' HO504.out).2.2 | (with_reducible refine Kd.C_alloc ?_ _) | (with_reducible refine Kd.C_drewN ?_ _) | (with_reducible refine Kd.C_drew ?_))); (case side2 => exact (Kd.R_reads' HO504.out).2.1); rintro e w' ⟨rfl, ⟨nd, rfl⟩⟩))
        go_meet
        case rel => exact ⟨_, (!t507), (by first | rfl | (simp; done) | (simp [*]; done)), H', ⟨by first | omega | exact Nat.le_refl _⟩, ⟨by (with_reducible repeat (first | apply Kd.R_alloc | apply Kd.R_drewN | apply Kd.R_drew)); exact HO504.out⟩, ⟨by (with_reducible repeat (first | apply Kd.R_alloc | apply Kd.R_drewN | apply Kd.R_drew)); exact HO506.out⟩, ⟨by repeat (first | (with_reducible first | exact HB.out | apply below_alloc | apply pw_below_drewN | apply below_drew1) | exact HB.out)⟩⟩
      · rw [if_neg c9] at H
        have c9b0 : ((l2.length : Int) == (wrap64 (a0 + a1))) = false := beq_eq_false_iff_ne.mpr c9
        have c9b1 : ((l2.length : Int) != (wrap64 (a0 + a1))) = true := bne_iff_ne.mpr c9
        (first | rw [c9b0] | (simp only [i64_w, i32_w]; rw [c9b0]) | skip)
        have H' := Aside0.mk H
        clear H
        go_wp2
        go_meet
        case rel => exact ⟨_, (true), (by first | rfl | (simp; done) | (simp [*]; done)), H', ⟨by first | omega | exact Nat.le_refl _⟩, ⟨by (with_reducible repeat (first | apply Kd.R_alloc | apply Kd.R_drewN | apply Kd.R_drew)); exact HO504.out⟩, ⟨by (with_reducible repeat (first | apply Kd.R_alloc | apply Kd.R_drewN | apply Kd.R_drew)); exact HO506.out⟩, ⟨by repeat (first | (with_reducible first | exact HB.out | apply below_alloc | apply pw_below_drewN | apply below_drew1) | exact HB.out)⟩⟩
    case rest =>
      clear HC7
      try clear c2
      try clear p2
      try clear c3
      try clear c5
      try clear c5b0
      try clear c5b1
      try clear p6
      try clear c9
      try clear c9b0
      try clear c9b1
      obtain ⟨kq, x23_6, rfl, HA, HJ6, HO_9, HO_10, HB⟩ := hcut
      cases kq with
      | zero => exact absurd HA.out (by simp [rs_Decode.j0])
      | succ kj6 =>
        have H := HA.out
        clear HA
        simp only [rs_Decode.j0] at H
        by_cases c12 : x23_6 = true
        · subst c12
          have H1 : (some (([] : List ByteArray), 2)) = some (r1, r2) := by rw [if_pos rfl] at H; exact H
          clear H
          have H := H1
          clear H1
          simp only [Option.some.injEq, Prod.mk.injEq] at H
          obtain ⟨rfl, rfl⟩ := H
          go_wp2
          go_ret2
          exact ⟨_, by first | rfl | (simp [errW_none, errW_some] <;> rfl) | (simp [*, errW_none, errW_some] <;> rfl), by first | exact Kd.R_nil _ _ _ _ _ | exact Kd.N_nil _ _ _ _ _ | exact Kd.V_nil _ _ _ _ _ | exact Kd.Q_nil _ _ _ _ _ | exact Kd.S_nil _ _ _ _ _, by repeat (first | (with_reducible first | exact HB.out | apply below_alloc | apply pw_below_drewN | apply below_drew1) | exact HB.out)⟩
        · replace c12 := Bool.eq_false_iff.mpr c12
          subst c12
          have H1 : (if (t501.length : Int) < a0 then (some (([] : List ByteArray), 10)) else ((rs_data.f kj6 a0 a1 t501 t502).bind fun t508 => ((rs_parity.f kj6 a0 a1 t508).bind fun t511 => (if t508.length + t511.length < 8796093022208 then (some ((t508 ++ t511), 0)) else (none))))) = some (r1, r2) := by rw [if_neg (show ¬ (false = true) by decide)] at H; exact H
          clear H
          have H := H1
          clear H1
          by_cases c13 : (t501.length : Int) < a0
          · rw [if_pos c13] at H
            have c13b0 : decide ((t501.length : Int) < a0) = true := decide_eq_true c13
            clear c13
            simp only [Option.some.injEq, Prod.mk.injEq] at H
            obtain ⟨rfl, rfl⟩ := H
            obtain ⟨Ao14, co14, eo14⟩ := Kd.R_slice HO_9.out
            subst eo14
            go_wp2
            go_ret2
            exact ⟨_, by first | rfl | (simp [errW_none, errW_some] <;> rfl) | (simp [*, errW_none, errW_some] <;> rfl), by first | exact Kd.R_nil _ _ _ _ _ | exact Kd.N_nil _ _ _ _ _ | exact Kd.V_nil _ _ _ _ _ | exact Kd.Q_nil _ _ _ _ _ | exact Kd.S_nil _ _ _ _ _, by repeat (first | (with_reducible first | exact HB.out | apply below_alloc | apply pw_below_drewN | apply below_drew1) | exact HB.out)⟩
          · rw [if_neg c13] at H
            have c13b0 : decide ((t501.length : Int) < a0) = false := decide_eq_false c13
            clear c13
            replace H := Option.bind_eq_some_iff.mp H
            obtain ⟨t508, A150, H⟩ := H
            replace H : ((rs_parity.f kj6 a0 a1 t508).bind fun t511 => (if t508.length + t511.length < 8796093022208 then (some ((t508 ++ t511), 0)) else (none))) = some (r1, r2) := H
            have A15 := Aside0.mk A150
            clear A150
            replace H := Option.bind_eq_some_iff.mp H
            obtain ⟨t511, A160, H⟩ := H
            replace H : (if t508.length + t511.length < 8796093022208 then (some ((t508 ++ t511), 0)) else (none)) = some (r1, r2) := H
            have A16 := Aside0.mk A160
            clear A160
            by_cases c17 : t508.length + t511.length < 8796093022208
            · rw [if_pos c17] at H
              have LMc17 := Aside0.mk c17
              clear c17
              obtain ⟨y514, hy514⟩ : ∃ y_ : List ByteArray, y_ = (t508 ++ t511) := ⟨_, rfl⟩
              replace H : (some (y514, 0)) = some (r1, r2) := by first | (rw [hy514]; with_reducible exact H) | (have H2_ := (Option.bind_some _ _).symm.trans H; rw [hy514]; with_reducible exact H2_) | (have H2_ := (Option.bind_some _ _).symm.trans H; with_reducible exact H2_) | with_reducible exact H | (rw [hy514]; exact H) | exact H
              have Ny514 := Aside0.mk hy514
              clear hy514
              simp only [Option.some.injEq, Prod.mk.injEq] at H
              obtain ⟨rfl, rfl⟩ := H
              obtain ⟨Ao18, co18, eo18⟩ := Kd.R_slice HO_9.out
              subst eo18
              obtain ⟨Ao19, co19, eo19⟩ := Kd.R_slice HO_10.out
              subst eo19
              go_wp2_with (first | ((with_reducible refine gate_callee (f := 58) rfl ?_); refine goesL_ (some 44) rfl rfl Try.func58 (by kernel_rfl) rfl #[.int .i64 a0, .int .i64 a1, .slice Ao18 t501.length co18, .slice Ao19 t502.length co19] rfl (by (try simp only [List.map_toArray, List.map_cons, List.map_nil]); first | done | rfl | (simp only [List.length_drop, List.length_take]; rfl)) ?_; (with_reducible refine (rs_data.calls kj6 a0 a1 _ _ t501 _ _ t502 t508 _ ?side1 ?side2 ?side3 ?side4 A15.out).mono ?_); (case side1 => repeat (first | exact (Kd.R_reads' HO_9.out).2.2 | (with_reducible refine Kd.C_alloc ?_ _) | (with_reducible refine Kd.C_drewN ?_ _) | (with_reducible refine Kd.C_drew ?_))); (case side2 => exact (Kd.R_reads' HO_9.out).2.1); (case side3 => repeat (first | exact (Kd.R_reads' HO_10.out).2.2 | (with_reducible refine Kd.C_alloc ?_ _) | (with_reducible refine Kd.C_drewN ?_ _) | (with_reducible refine Kd.C_drew ?_))); (case side4 => exact (Kd.R_reads' HO_10.out).2.1); rintro e w20 ⟨v509, rfl, ho0, hb⟩; refine ⟨_, rfl, ?_⟩; have n0_ := Aside0.mk (Kd.R_elder' (by (with_reducible repeat (first | apply Kd.R_alloc | apply Kd.R_drewN | apply Kd.R_drew)); exact HO_9.out) (Kd.R_base ho0) hb); have n1_ := Aside0.mk (Kd.R_below (by (with_reducible repeat (first | apply Kd.R_alloc | apply Kd.R_drewN | apply Kd.R_drew)); exact HO_10.out) hb); have n2_ := Aside0.mk (Kd.R_lower (Kd.R_new' ho0 (Kd.R_lt (by (with_reducible repeat (first | apply Kd.R_alloc | apply Kd.R_drewN | apply Kd.R_drew)); exact HO_9.out))) (below_size (by repeat (first | (with_reducible first | exact HB.out | apply below_alloc | apply pw_below_drewN | apply below_drew1) | exact HB.out)))); have n3_ := Aside0.mk (below_step (by repeat (first | (with_reducible first | exact HB.out | apply below_alloc | apply pw_below_drewN | apply below_drew1) | exact HB.out)) hb); clear HO_9; clear HO_10; clear HB; have HO_9 := n0_; have HO_10 := n1_; have HO510 := n2_; have HB := n3_; clear n0_ n1_ n2_ n3_; (try clear hb); (try clear hb2); (try clear hk); (try clear hi); (try clear ho0); obtain ⟨Ao21, co21, eo21⟩ := Kd.R_slice HO510.out; subst eo21) | ((with_reducible refine gate_callee (f := 53) rfl ?_); refine goesL_ (some 49) rfl rfl Try.func53 (by kernel_rfl) rfl #[.int .i64 a0, .int .i64 a1, .slice Ao21 t508.length co21] rfl (by (try simp only [List.map_toArray, List.map_cons, List.map_nil]); first | done | rfl | (simp only [List.length_drop, List.length_take]; rfl)) ?_; (with_reducible refine (rs_parity.calls kj6 a0 a1 _ _ t508 t511 _ ?side1 ?side2 A16.out).mono ?_); (case side1 => repeat (first | exact (Kd.R_reads' HO510.out).2.2 | (with_reducible refine Kd.C_alloc ?_ _) | (with_reducible refine Kd.C_drewN ?_ _) | (with_reducible refine Kd.C_drew ?_))); (case side2 => exact (Kd.R_reads' HO510.out).2.1); rintro e w22 ⟨v512, rfl, ho0, hb⟩; refine ⟨_, rfl, ?_⟩; have n0_ := Aside0.mk (Kd.R_elder' (by (with_reducible repeat (first | apply Kd.R_alloc | apply Kd.R_drewN | apply Kd.R_drew)); exact HO_9.out) (Kd.R_base ho0) hb); have n1_ := Aside0.mk (Kd.R_below (by (with_reducible repeat (first | apply Kd.R_alloc | apply Kd.R_drewN | apply Kd.R_drew)); exact HO_10.out) hb); have n2_ := Aside0.mk (Kd.R_elder' (by (with_reducible repeat (first | apply Kd.R_alloc | apply Kd.R_drewN | apply Kd.R_drew)); exact HO510.out) (Kd.R_base ho0) hb); have n3_ := Aside0.mk (Kd.R_lower (Kd.R_new' (Kd.R_new' ho0 (Kd.R_lt (by (with_reducible repeat (first | apply Kd.R_alloc | apply Kd.R_drewN | apply Kd.R_drew)); exact HO_9.out))) (Kd.R_lt (by (with_reducible repeat (first | apply Kd.R_alloc | apply Kd.R_drewN | apply Kd.R_drew)); exact HO510.out))) (below_size (by repeat (first | (with_reducible first | exact HB.out | apply below_alloc | apply pw_below_drewN | apply below_drew1) | exact HB.out)))); have n4_ := Aside0.mk (below_step (by repeat (first | (with_reducible first | exact HB.out | apply below_alloc | apply pw_below_drewN | apply below_drew1) | exact HB.out)) hb); clear HO_9; clear HO_10; clear HO510; clear HB; have HO_9 := n0_; have HO_10 := n1_; have HO510 := n2_; have HO513 := n3_; have HB := n4_; clear n0_ n1_ n2_ n3_ n4_; (try clear hb); (try clear hb2); (try clear hk); (try clear hi); (try clear ho0); obtain ⟨Ao24, co24, eo24⟩ := Kd.R_slice HO513.out; subst eo24) | ((with_reducible refine gate_builtin (b := .append) (xs := #[.tmp 45, .tmp 49]) rfl ?_); at_builtin; refine Kd.R_append_rows Kd.string (w0 := w) w.heap.size rfl (.tmp 45) (.tmp 49) 39 9 (.string ⟨#[]⟩) 16 rfl Try.underlying39 info9 rfl (by decide) (by omega) (.slice Ao21 t508.length co21) t508 t511 _ _ _ (fun k_ => some k_ ≠ (.slice Ao18 t501.length co18 : Value).ownBlock ∧ some k_ ≠ (.slice Ao24 t511.length co24 : Value).ownBlock) (fun _ => False) rfl rfl ?aO ?aR (fun _ _ h => h) (fun _ h => h.elim) ?aF ?aB ?aS ?aL ?_; (case aR => repeat (first | exact (Kd.R_reads' HO513.out).2.2 | (with_reducible refine Kd.C_alloc ?_ _) | (with_reducible refine Kd.C_drewN ?_ _) | (with_reducible refine Kd.C_drew ?_))); (case aB => exact (by repeat (first | (with_reducible first | exact HB.out | apply below_alloc | apply pw_below_drewN | apply below_drew1) | exact HB.out))); (case aF => exact (fun k_ hk => ⟨Kd.fresh' (Kd.R_lt (by (with_reducible repeat (first | apply Kd.R_alloc | apply Kd.R_drewN | apply Kd.R_drew)); exact HO_9.out)) k_ hk, Kd.fresh' (Kd.R_lt (by (with_reducible repeat (first | apply Kd.R_alloc | apply Kd.R_drewN | apply Kd.R_drew)); exact HO513.out)) k_ hk⟩)); (case aO => exact (by (with_reducible repeat (first | apply Kd.R_alloc | apply Kd.R_drewN | apply Kd.R_drew)); exact Kd.R_mono HO510.out (fun _ hk => ⟨hk.1.2, hk.2⟩))); (case aS => exact (below_size (by repeat (first | (with_reducible first | exact HB.out | apply below_alloc | apply pw_below_drewN | apply below_drew1) | exact HB.out)))); (case aL => have := LMc17.out; omega); intro v515 w23 ho hb hg hat; rw [← Ny514.out] at ho; have n0_ := Aside0.mk (Kd.R_after (ok := (fun k_ => some k_ ≠ (.slice Ao24 t511.length co24 : Value).ownBlock)) (by (with_reducible repeat (first | apply Kd.R_alloc | apply Kd.R_drewN | apply Kd.R_drew)); exact Kd.R_mono HO_9.out (fun _ hk => ⟨hk.2, hk.1.2⟩)) hg hat); have n1_ := Aside0.mk (Kd.R_over' (by (with_reducible repeat (first | apply Kd.R_alloc | apply Kd.R_drewN | apply Kd.R_drew)); exact HO_10.out) (Kd.R_typed (by (with_reducible repeat (first | apply Kd.R_alloc | apply Kd.R_drewN | apply Kd.R_drew)); exact HO510.out)) (by decide) hg); have n2_ := Aside0.mk (Kd.R_after (ok := (fun k_ => some k_ ≠ (.slice Ao18 t501.length co18 : Value).ownBlock)) (by (with_reducible repeat (first | apply Kd.R_alloc | apply Kd.R_drewN | apply Kd.R_drew)); exact Kd.R_mono HO513.out (fun _ hk => ⟨hk.1.2, hk.2⟩)) hg hat); have n3_ := Aside0.mk (hb); have n4_ := Aside0.mk (ho); clear HO_9; clear HO_10; clear HO513; clear HB; clear HO510; have HO_9 := n0_; have HO_10 := n1_; have HO513 := n2_; have HB := n3_; have HO516 := n4_; clear n0_ n1_ n2_ n3_ n4_; clear ho hb hg hat))
              go_ret2
              exact ⟨_, by first | rfl | (simp [errW_none, errW_some] <;> rfl) | (simp [*, errW_none, errW_some] <;> rfl), by (with_reducible repeat (first | apply Kd.R_alloc | apply Kd.R_drewN | apply Kd.R_drew)); exact Kd.R_mono HO516.out (fun _ hk => trivial), by repeat (first | (with_reducible first | exact HB.out | apply below_alloc | apply pw_below_drewN | apply below_drew1) | exact HB.out)⟩
            · rw [if_neg c17] at H
              exact absurd H (by simp)
  · rw [if_neg c5] at H
    have c5b0 : (t500 == 0) = false := beq_eq_false_iff_ne.mpr c5
    have c5b1 : (t500 != 0) = true := bne_iff_ne.mpr c5
    simp only [Option.some.injEq, Prod.mk.injEq] at H
    obtain ⟨rfl, rfl⟩ := H
    go_enter Try.func36, Try.ntmps36
    go_wp2_with (first | ((with_reducible refine gate_callee (f := 31) rfl ?_); refine goesL_ (some 14) rfl rfl Try.func31 (by kernel_rfl) rfl #[.int .i64 a0, .int .i64 a1] rfl (by (try simp only [List.map_toArray, List.map_cons, List.map_nil]); first | done | rfl | (simp only [List.length_drop, List.length_take]; rfl)) ?_; (with_reducible refine (rs_Check.calls a0 a1 t500 _ A4.out).mono ?_); rintro e w' ⟨rfl, ⟨nd, rfl⟩⟩; refine ⟨_, rfl, ?_⟩))
    go_ret2
    exact ⟨_, by first | rfl | (simp [errW_none, errW_some] <;> rfl) | (simp [*, errW_none, errW_some] <;> rfl), by first | exact Kd.R_nil _ _ _ _ _ | exact Kd.N_nil _ _ _ _ _ | exact Kd.V_nil _ _ _ _ _ | exact Kd.Q_nil _ _ _ _ _ | exact Kd.S_nil _ _ _ _ _, by repeat (first | (with_reducible first | exact HB.out | apply below_alloc | apply pw_below_drewN | apply below_drew1) | exact HB.out)⟩

/-! ### caulklaw04_lives: function 28 -/
def caulklaw04_lives.f (k : Nat)  : Option (Bool) := (rs_Encode.f k 1 2 (([(⟨#[97, 98]⟩ : ByteArray)] : List ByteArray))).bind fun bt520 => ((rs_Decode.f k 2 1 (([(⟨false, (⟨#[]⟩ : ByteArray)⟩ : S48), (⟨true, (⟨#[120]⟩ : ByteArray)⟩ : S48), (⟨true, (⟨#[121]⟩ : ByteArray)⟩ : S48)] : List (S48)))).bind fun bt527 => ((rs_Decode.f k 2 1 (([(⟨false, (⟨#[]⟩ : ByteArray)⟩ : S48), (⟨false, (⟨#[]⟩ : ByteArray)⟩ : S48), (⟨true, (⟨#[121]⟩ : ByteArray)⟩ : S48)] : List (S48)))).bind fun bt534 => ((rs_Encode.f k 2 1 (([(⟨#[97]⟩ : ByteArray)] : List ByteArray))).bind fun bt541 => ((rs_Encode.f k 0 1 ([] : List ByteArray)).bind fun bt545 => (if bt520.2 = 0 then (if (bt520.1.length : Int) = 2 then (if bt527.2 = 0 then (if (bt527.1.length : Int) = 3 then (if 1 < (bt527.1.length : Int) then (if (rdOf ByteArray.empty bt527.1 1).toList = ([120] : List UInt8) then (if 2 < (bt527.1.length : Int) then (if (rdOf ByteArray.empty bt527.1 2).toList = ([121] : List UInt8) then ((rs_Good.f k 2 1 bt527.1).bind fun t551 => (if t551 = true then (if bt534.2 = 10 then (if bt541.2 = 2 then (if bt545.2 = 1 then ((rs_Check.f 1 0).bind fun t552 => (if t552 = 0 then ((rs_Good.f k 2 1 (([(⟨#[97]⟩ : ByteArray), (⟨#[98]⟩ : ByteArray)] : List ByteArray))).bind fun t556 => (some (!t556))) else (none))) else (none)) else (none)) else (none)) else (none))) else (none)) else (none)) else (none)) else (none)) else (none)) else (none)) else (none)) else (none))))))
theorem caulklaw04_lives.mono : ∀ k, LeO (caulklaw04_lives.f k ) (caulklaw04_lives.f (k + 1) ) := by
  intro  k
  unfold caulklaw04_lives.f
  repeat' first
      | (with_reducible exact rs_Decode.mono _ _ _ _)
      | (with_reducible exact rs_Encode.mono _ _ _ _)
      | (with_reducible exact rs_Good.mono _ _ _ _)
      | (with_reducible exact LeO.refl _)
      | (with_reducible exact LeO.none _)
      | (with_reducible refine LeO.ite ?_ ?_)
      | (with_reducible refine LeO.bind ?_ (fun _ => ?_))
      | exact rs_Decode.mono _ _ _ _
      | exact rs_Encode.mono _ _ _ _
      | exact rs_Good.mono _ _ _ _
      | exact LeO.none _
      | refine LeO.ite ?_ ?_
      | refine LeO.bind ?_ (fun _ => ?_)
set_option maxHeartbeats 8000000 in
set_option maxRecDepth 100000 in
theorem caulklaw04_lives.calls (k : Nat)  (r : Bool) (w : World) (h : caulklaw04_lives.f k  = some r) :
    Calls Try.prog 28 #[] w fun e w' => e = .returned (.bool r) ∧ Below w.heap.size w w' := by
  have hu48 := Try.underlying48
  have HB := Aside0.mk (Below.refl w.heap.size w)
  have H : ((rs_Encode.f k 1 2 (([(⟨#[97, 98]⟩ : ByteArray)] : List ByteArray))).bind fun bt520 => ((rs_Decode.f k 2 1 (([(⟨false, (⟨#[]⟩ : ByteArray)⟩ : S48), (⟨true, (⟨#[120]⟩ : ByteArray)⟩ : S48), (⟨true, (⟨#[121]⟩ : ByteArray)⟩ : S48)] : List (S48)))).bind fun bt527 => ((rs_Decode.f k 2 1 (([(⟨false, (⟨#[]⟩ : ByteArray)⟩ : S48), (⟨false, (⟨#[]⟩ : ByteArray)⟩ : S48), (⟨true, (⟨#[121]⟩ : ByteArray)⟩ : S48)] : List (S48)))).bind fun bt534 => ((rs_Encode.f k 2 1 (([(⟨#[97]⟩ : ByteArray)] : List ByteArray))).bind fun bt541 => ((rs_Encode.f k 0 1 ([] : List ByteArray)).bind fun bt545 => (if bt520.2 = 0 then (if (bt520.1.length : Int) = 2 then (if bt527.2 = 0 then (if (bt527.1.length : Int) = 3 then (if 1 < (bt527.1.length : Int) then (if (rdOf ByteArray.empty bt527.1 1).toList = ([120] : List UInt8) then (if 2 < (bt527.1.length : Int) then (if (rdOf ByteArray.empty bt527.1 2).toList = ([121] : List UInt8) then ((rs_Good.f k 2 1 bt527.1).bind fun t551 => (if t551 = true then (if bt534.2 = 10 then (if bt541.2 = 2 then (if bt545.2 = 1 then ((rs_Check.f 1 0).bind fun t552 => (if t552 = 0 then ((rs_Good.f k 2 1 (([(⟨#[97]⟩ : ByteArray), (⟨#[98]⟩ : ByteArray)] : List ByteArray))).bind fun t556 => (some (!t556))) else (none))) else (none)) else (none)) else (none)) else (none))) else (none)) else (none)) else (none)) else (none)) else (none)) else (none)) else (none)) else (none))))))) = some r := h
  clear h
  obtain ⟨y517, hy517⟩ : ∃ y_ : List ByteArray, y_ = (([(⟨#[97, 98]⟩ : ByteArray)] : List ByteArray)) := ⟨_, rfl⟩
  replace H : ((rs_Encode.f k 1 2 y517).bind fun bt520 => ((rs_Decode.f k 2 1 (([(⟨false, (⟨#[]⟩ : ByteArray)⟩ : S48), (⟨true, (⟨#[120]⟩ : ByteArray)⟩ : S48), (⟨true, (⟨#[121]⟩ : ByteArray)⟩ : S48)] : List (S48)))).bind fun bt527 => ((rs_Decode.f k 2 1 (([(⟨false, (⟨#[]⟩ : ByteArray)⟩ : S48), (⟨false, (⟨#[]⟩ : ByteArray)⟩ : S48), (⟨true, (⟨#[121]⟩ : ByteArray)⟩ : S48)] : List (S48)))).bind fun bt534 => ((rs_Encode.f k 2 1 (([(⟨#[97]⟩ : ByteArray)] : List ByteArray))).bind fun bt541 => ((rs_Encode.f k 0 1 ([] : List ByteArray)).bind fun bt545 => (if bt520.2 = 0 then (if (bt520.1.length : Int) = 2 then (if bt527.2 = 0 then (if (bt527.1.length : Int) = 3 then (if 1 < (bt527.1.length : Int) then (if (rdOf ByteArray.empty bt527.1 1).toList = ([120] : List UInt8) then (if 2 < (bt527.1.length : Int) then (if (rdOf ByteArray.empty bt527.1 2).toList = ([121] : List UInt8) then ((rs_Good.f k 2 1 bt527.1).bind fun t551 => (if t551 = true then (if bt534.2 = 10 then (if bt541.2 = 2 then (if bt545.2 = 1 then ((rs_Check.f 1 0).bind fun t552 => (if t552 = 0 then ((rs_Good.f k 2 1 (([(⟨#[97]⟩ : ByteArray), (⟨#[98]⟩ : ByteArray)] : List ByteArray))).bind fun t556 => (some (!t556))) else (none))) else (none)) else (none)) else (none)) else (none))) else (none)) else (none)) else (none)) else (none)) else (none)) else (none)) else (none)) else (none))))))) = some r := by first | (rw [hy517]; with_reducible exact H) | (have H2_ := (Option.bind_some _ _).symm.trans H; rw [hy517]; with_reducible exact H2_) | (have H2_ := (Option.bind_some _ _).symm.trans H; with_reducible exact H2_) | with_reducible exact H | (rw [hy517]; exact H) | exact H
  have Ny517 := Aside0.mk hy517
  clear hy517
  replace H := Option.bind_eq_some_iff.mp H
  obtain ⟨⟨t520, t521⟩, A10, H⟩ := H
  replace H : ((rs_Decode.f k 2 1 (([(⟨false, (⟨#[]⟩ : ByteArray)⟩ : S48), (⟨true, (⟨#[120]⟩ : ByteArray)⟩ : S48), (⟨true, (⟨#[121]⟩ : ByteArray)⟩ : S48)] : List (S48)))).bind fun bt527 => ((rs_Decode.f k 2 1 (([(⟨false, (⟨#[]⟩ : ByteArray)⟩ : S48), (⟨false, (⟨#[]⟩ : ByteArray)⟩ : S48), (⟨true, (⟨#[121]⟩ : ByteArray)⟩ : S48)] : List (S48)))).bind fun bt534 => ((rs_Encode.f k 2 1 (([(⟨#[97]⟩ : ByteArray)] : List ByteArray))).bind fun bt541 => ((rs_Encode.f k 0 1 ([] : List ByteArray)).bind fun bt545 => (if t521 = 0 then (if (t520.length : Int) = 2 then (if bt527.2 = 0 then (if (bt527.1.length : Int) = 3 then (if 1 < (bt527.1.length : Int) then (if (rdOf ByteArray.empty bt527.1 1).toList = ([120] : List UInt8) then (if 2 < (bt527.1.length : Int) then (if (rdOf ByteArray.empty bt527.1 2).toList = ([121] : List UInt8) then ((rs_Good.f k 2 1 bt527.1).bind fun t551 => (if t551 = true then (if bt534.2 = 10 then (if bt541.2 = 2 then (if bt545.2 = 1 then ((rs_Check.f 1 0).bind fun t552 => (if t552 = 0 then ((rs_Good.f k 2 1 (([(⟨#[97]⟩ : ByteArray), (⟨#[98]⟩ : ByteArray)] : List ByteArray))).bind fun t556 => (some (!t556))) else (none))) else (none)) else (none)) else (none)) else (none))) else (none)) else (none)) else (none)) else (none)) else (none)) else (none)) else (none)) else (none)))))) = some r := H
  have A1 := Aside0.mk A10
  clear A10
  obtain ⟨y524, hy524⟩ : ∃ y_ : List (S48), y_ = (([(⟨false, (⟨#[]⟩ : ByteArray)⟩ : S48), (⟨true, (⟨#[120]⟩ : ByteArray)⟩ : S48), (⟨true, (⟨#[121]⟩ : ByteArray)⟩ : S48)] : List (S48))) := ⟨_, rfl⟩
  replace H : ((rs_Decode.f k 2 1 y524).bind fun bt527 => ((rs_Decode.f k 2 1 (([(⟨false, (⟨#[]⟩ : ByteArray)⟩ : S48), (⟨false, (⟨#[]⟩ : ByteArray)⟩ : S48), (⟨true, (⟨#[121]⟩ : ByteArray)⟩ : S48)] : List (S48)))).bind fun bt534 => ((rs_Encode.f k 2 1 (([(⟨#[97]⟩ : ByteArray)] : List ByteArray))).bind fun bt541 => ((rs_Encode.f k 0 1 ([] : List ByteArray)).bind fun bt545 => (if t521 = 0 then (if (t520.length : Int) = 2 then (if bt527.2 = 0 then (if (bt527.1.length : Int) = 3 then (if 1 < (bt527.1.length : Int) then (if (rdOf ByteArray.empty bt527.1 1).toList = ([120] : List UInt8) then (if 2 < (bt527.1.length : Int) then (if (rdOf ByteArray.empty bt527.1 2).toList = ([121] : List UInt8) then ((rs_Good.f k 2 1 bt527.1).bind fun t551 => (if t551 = true then (if bt534.2 = 10 then (if bt541.2 = 2 then (if bt545.2 = 1 then ((rs_Check.f 1 0).bind fun t552 => (if t552 = 0 then ((rs_Good.f k 2 1 (([(⟨#[97]⟩ : ByteArray), (⟨#[98]⟩ : ByteArray)] : List ByteArray))).bind fun t556 => (some (!t556))) else (none))) else (none)) else (none)) else (none)) else (none))) else (none)) else (none)) else (none)) else (none)) else (none)) else (none)) else (none)) else (none)))))) = some r := by first | (rw [hy524]; with_reducible exact H) | (have H2_ := (Option.bind_some _ _).symm.trans H; rw [hy524]; with_reducible exact H2_) | (have H2_ := (Option.bind_some _ _).symm.trans H; with_reducible exact H2_) | with_reducible exact H | (rw [hy524]; exact H) | exact H
  have Ny524 := Aside0.mk hy524
  clear hy524
  replace H := Option.bind_eq_some_iff.mp H
  obtain ⟨⟨t527, t528⟩, A20, H⟩ := H
  replace H : ((rs_Decode.f k 2 1 (([(⟨false, (⟨#[]⟩ : ByteArray)⟩ : S48), (⟨false, (⟨#[]⟩ : ByteArray)⟩ : S48), (⟨true, (⟨#[121]⟩ : ByteArray)⟩ : S48)] : List (S48)))).bind fun bt534 => ((rs_Encode.f k 2 1 (([(⟨#[97]⟩ : ByteArray)] : List ByteArray))).bind fun bt541 => ((rs_Encode.f k 0 1 ([] : List ByteArray)).bind fun bt545 => (if t521 = 0 then (if (t520.length : Int) = 2 then (if t528 = 0 then (if (t527.length : Int) = 3 then (if 1 < (t527.length : Int) then (if (rdOf ByteArray.empty t527 1).toList = ([120] : List UInt8) then (if 2 < (t527.length : Int) then (if (rdOf ByteArray.empty t527 2).toList = ([121] : List UInt8) then ((rs_Good.f k 2 1 t527).bind fun t551 => (if t551 = true then (if bt534.2 = 10 then (if bt541.2 = 2 then (if bt545.2 = 1 then ((rs_Check.f 1 0).bind fun t552 => (if t552 = 0 then ((rs_Good.f k 2 1 (([(⟨#[97]⟩ : ByteArray), (⟨#[98]⟩ : ByteArray)] : List ByteArray))).bind fun t556 => (some (!t556))) else (none))) else (none)) else (none)) else (none)) else (none))) else (none)) else (none)) else (none)) else (none)) else (none)) else (none)) else (none)) else (none))))) = some r := H
  have A2 := Aside0.mk A20
  clear A20
  obtain ⟨y531, hy531⟩ : ∃ y_ : List (S48), y_ = (([(⟨false, (⟨#[]⟩ : ByteArray)⟩ : S48), (⟨false, (⟨#[]⟩ : ByteArray)⟩ : S48), (⟨true, (⟨#[121]⟩ : ByteArray)⟩ : S48)] : List (S48))) := ⟨_, rfl⟩
  replace H : ((rs_Decode.f k 2 1 y531).bind fun bt534 => ((rs_Encode.f k 2 1 (([(⟨#[97]⟩ : ByteArray)] : List ByteArray))).bind fun bt541 => ((rs_Encode.f k 0 1 ([] : List ByteArray)).bind fun bt545 => (if t521 = 0 then (if (t520.length : Int) = 2 then (if t528 = 0 then (if (t527.length : Int) = 3 then (if 1 < (t527.length : Int) then (if (rdOf ByteArray.empty t527 1).toList = ([120] : List UInt8) then (if 2 < (t527.length : Int) then (if (rdOf ByteArray.empty t527 2).toList = ([121] : List UInt8) then ((rs_Good.f k 2 1 t527).bind fun t551 => (if t551 = true then (if bt534.2 = 10 then (if bt541.2 = 2 then (if bt545.2 = 1 then ((rs_Check.f 1 0).bind fun t552 => (if t552 = 0 then ((rs_Good.f k 2 1 (([(⟨#[97]⟩ : ByteArray), (⟨#[98]⟩ : ByteArray)] : List ByteArray))).bind fun t556 => (some (!t556))) else (none))) else (none)) else (none)) else (none)) else (none))) else (none)) else (none)) else (none)) else (none)) else (none)) else (none)) else (none)) else (none))))) = some r := by first | (rw [hy531]; with_reducible exact H) | (have H2_ := (Option.bind_some _ _).symm.trans H; rw [hy531]; with_reducible exact H2_) | (have H2_ := (Option.bind_some _ _).symm.trans H; with_reducible exact H2_) | with_reducible exact H | (rw [hy531]; exact H) | exact H
  have Ny531 := Aside0.mk hy531
  clear hy531
  replace H := Option.bind_eq_some_iff.mp H
  obtain ⟨⟨t534, t535⟩, A30, H⟩ := H
  replace H : ((rs_Encode.f k 2 1 (([(⟨#[97]⟩ : ByteArray)] : List ByteArray))).bind fun bt541 => ((rs_Encode.f k 0 1 ([] : List ByteArray)).bind fun bt545 => (if t521 = 0 then (if (t520.length : Int) = 2 then (if t528 = 0 then (if (t527.length : Int) = 3 then (if 1 < (t527.length : Int) then (if (rdOf ByteArray.empty t527 1).toList = ([120] : List UInt8) then (if 2 < (t527.length : Int) then (if (rdOf ByteArray.empty t527 2).toList = ([121] : List UInt8) then ((rs_Good.f k 2 1 t527).bind fun t551 => (if t551 = true then (if t535 = 10 then (if bt541.2 = 2 then (if bt545.2 = 1 then ((rs_Check.f 1 0).bind fun t552 => (if t552 = 0 then ((rs_Good.f k 2 1 (([(⟨#[97]⟩ : ByteArray), (⟨#[98]⟩ : ByteArray)] : List ByteArray))).bind fun t556 => (some (!t556))) else (none))) else (none)) else (none)) else (none)) else (none))) else (none)) else (none)) else (none)) else (none)) else (none)) else (none)) else (none)) else (none)))) = some r := H
  have A3 := Aside0.mk A30
  clear A30
  obtain ⟨y538, hy538⟩ : ∃ y_ : List ByteArray, y_ = (([(⟨#[97]⟩ : ByteArray)] : List ByteArray)) := ⟨_, rfl⟩
  replace H : ((rs_Encode.f k 2 1 y538).bind fun bt541 => ((rs_Encode.f k 0 1 ([] : List ByteArray)).bind fun bt545 => (if t521 = 0 then (if (t520.length : Int) = 2 then (if t528 = 0 then (if (t527.length : Int) = 3 then (if 1 < (t527.length : Int) then (if (rdOf ByteArray.empty t527 1).toList = ([120] : List UInt8) then (if 2 < (t527.length : Int) then (if (rdOf ByteArray.empty t527 2).toList = ([121] : List UInt8) then ((rs_Good.f k 2 1 t527).bind fun t551 => (if t551 = true then (if t535 = 10 then (if bt541.2 = 2 then (if bt545.2 = 1 then ((rs_Check.f 1 0).bind fun t552 => (if t552 = 0 then ((rs_Good.f k 2 1 (([(⟨#[97]⟩ : ByteArray), (⟨#[98]⟩ : ByteArray)] : List ByteArray))).bind fun t556 => (some (!t556))) else (none))) else (none)) else (none)) else (none)) else (none))) else (none)) else (none)) else (none)) else (none)) else (none)) else (none)) else (none)) else (none)))) = some r := by first | (rw [hy538]; with_reducible exact H) | (have H2_ := (Option.bind_some _ _).symm.trans H; rw [hy538]; with_reducible exact H2_) | (have H2_ := (Option.bind_some _ _).symm.trans H; with_reducible exact H2_) | with_reducible exact H | (rw [hy538]; exact H) | exact H
  have Ny538 := Aside0.mk hy538
  clear hy538
  replace H := Option.bind_eq_some_iff.mp H
  obtain ⟨⟨t541, t542⟩, A40, H⟩ := H
  replace H : ((rs_Encode.f k 0 1 ([] : List ByteArray)).bind fun bt545 => (if t521 = 0 then (if (t520.length : Int) = 2 then (if t528 = 0 then (if (t527.length : Int) = 3 then (if 1 < (t527.length : Int) then (if (rdOf ByteArray.empty t527 1).toList = ([120] : List UInt8) then (if 2 < (t527.length : Int) then (if (rdOf ByteArray.empty t527 2).toList = ([121] : List UInt8) then ((rs_Good.f k 2 1 t527).bind fun t551 => (if t551 = true then (if t535 = 10 then (if t542 = 2 then (if bt545.2 = 1 then ((rs_Check.f 1 0).bind fun t552 => (if t552 = 0 then ((rs_Good.f k 2 1 (([(⟨#[97]⟩ : ByteArray), (⟨#[98]⟩ : ByteArray)] : List ByteArray))).bind fun t556 => (some (!t556))) else (none))) else (none)) else (none)) else (none)) else (none))) else (none)) else (none)) else (none)) else (none)) else (none)) else (none)) else (none)) else (none))) = some r := H
  have A4 := Aside0.mk A40
  clear A40
  replace H := Option.bind_eq_some_iff.mp H
  obtain ⟨⟨t545, t546⟩, A50, H⟩ := H
  replace H : (if t521 = 0 then (if (t520.length : Int) = 2 then (if t528 = 0 then (if (t527.length : Int) = 3 then (if 1 < (t527.length : Int) then (if (rdOf ByteArray.empty t527 1).toList = ([120] : List UInt8) then (if 2 < (t527.length : Int) then (if (rdOf ByteArray.empty t527 2).toList = ([121] : List UInt8) then ((rs_Good.f k 2 1 t527).bind fun t551 => (if t551 = true then (if t535 = 10 then (if t542 = 2 then (if t546 = 1 then ((rs_Check.f 1 0).bind fun t552 => (if t552 = 0 then ((rs_Good.f k 2 1 (([(⟨#[97]⟩ : ByteArray), (⟨#[98]⟩ : ByteArray)] : List ByteArray))).bind fun t556 => (some (!t556))) else (none))) else (none)) else (none)) else (none)) else (none))) else (none)) else (none)) else (none)) else (none)) else (none)) else (none)) else (none)) else (none)) = some r := H
  have A5 := Aside0.mk A50
  clear A50
  by_cases c6 : t521 = 0
  · rw [if_pos c6] at H
    have c6b0 : (t521 == 0) = true := beq_iff_eq.mpr c6
    have c6b1 : (t521 != 0) = false := bne_eq_false_iff_eq.mpr c6
    clear c6
    by_cases c7 : (t520.length : Int) = 2
    · rw [if_pos c7] at H
      have c7b0 : ((t520.length : Int) == 2) = true := beq_iff_eq.mpr c7
      have c7b1 : ((t520.length : Int) != 2) = false := bne_eq_false_iff_eq.mpr c7
      clear c7
      by_cases c8 : t528 = 0
      · rw [if_pos c8] at H
        have c8b0 : (t528 == 0) = true := beq_iff_eq.mpr c8
        have c8b1 : (t528 != 0) = false := bne_eq_false_iff_eq.mpr c8
        clear c8
        by_cases c9 : (t527.length : Int) = 3
        · rw [if_pos c9] at H
          have c9b0 : ((t527.length : Int) == 3) = true := beq_iff_eq.mpr c9
          have c9b1 : ((t527.length : Int) != 3) = false := bne_eq_false_iff_eq.mpr c9
          clear c9
          by_cases c10 : 1 < (t527.length : Int)
          · rw [if_pos c10] at H
            have c10b0 : decide (1 < (t527.length : Int)) = true := decide_eq_true c10
            have c10b1 : decide (1 < t527.length) = true := decide_eq_true (by omega)
            clear c10
            by_cases c11 : (rdOf ByteArray.empty t527 1).toList = ([120] : List UInt8)
            · rw [if_pos c11] at H
              have c11b0 : ((rdOf ByteArray.empty t527 1).toList == ([120] : List UInt8)) = true := beq_iff_eq.mpr c11
              have c11b1 : ((rdOf ByteArray.empty t527 1).toList != ([120] : List UInt8)) = false := bne_eq_false_iff_eq.mpr c11
              clear c11
              by_cases c12 : 2 < (t527.length : Int)
              · rw [if_pos c12] at H
                have c12b0 : decide (2 < (t527.length : Int)) = true := decide_eq_true c12
                have c12b1 : decide (2 < t527.length) = true := decide_eq_true (by omega)
                clear c12
                by_cases c13 : (rdOf ByteArray.empty t527 2).toList = ([121] : List UInt8)
                · rw [if_pos c13] at H
                  have c13b0 : ((rdOf ByteArray.empty t527 2).toList == ([121] : List UInt8)) = true := beq_iff_eq.mpr c13
                  have c13b1 : ((rdOf ByteArray.empty t527 2).toList != ([121] : List UInt8)) = false := bne_eq_false_iff_eq.mpr c13
                  clear c13
                  replace H := Option.bind_eq_some_iff.mp H
                  obtain ⟨t551, A140, H⟩ := H
                  replace H : (if t551 = true then (if t535 = 10 then (if t542 = 2 then (if t546 = 1 then ((rs_Check.f 1 0).bind fun t552 => (if t552 = 0 then ((rs_Good.f k 2 1 (([(⟨#[97]⟩ : ByteArray), (⟨#[98]⟩ : ByteArray)] : List ByteArray))).bind fun t556 => (some (!t556))) else (none))) else (none)) else (none)) else (none)) else (none)) = some r := H
                  have A14 := Aside0.mk A140
                  clear A140
                  by_cases c15 : t551 = true
                  · subst c15
                    have H1 : (if t535 = 10 then (if t542 = 2 then (if t546 = 1 then ((rs_Check.f 1 0).bind fun t552 => (if t552 = 0 then ((rs_Good.f k 2 1 (([(⟨#[97]⟩ : ByteArray), (⟨#[98]⟩ : ByteArray)] : List ByteArray))).bind fun t556 => (some (!t556))) else (none))) else (none)) else (none)) else (none)) = some r := by rw [if_pos rfl] at H; exact H
                    clear H
                    have H := H1
                    clear H1
                    by_cases c16 : t535 = 10
                    · rw [if_pos c16] at H
                      have c16b0 : (t535 == 10) = true := beq_iff_eq.mpr c16
                      have c16b1 : (t535 != 10) = false := bne_eq_false_iff_eq.mpr c16
                      clear c16
                      by_cases c17 : t542 = 2
                      · rw [if_pos c17] at H
                        have c17b0 : (t542 == 2) = true := beq_iff_eq.mpr c17
                        have c17b1 : (t542 != 2) = false := bne_eq_false_iff_eq.mpr c17
                        clear c17
                        by_cases c18 : t546 = 1
                        · rw [if_pos c18] at H
                          have c18b0 : (t546 == 1) = true := beq_iff_eq.mpr c18
                          have c18b1 : (t546 != 1) = false := bne_eq_false_iff_eq.mpr c18
                          clear c18
                          replace H := Option.bind_eq_some_iff.mp H
                          obtain ⟨t552, A190, H⟩ := H
                          replace H : (if t552 = 0 then ((rs_Good.f k 2 1 (([(⟨#[97]⟩ : ByteArray), (⟨#[98]⟩ : ByteArray)] : List ByteArray))).bind fun t556 => (some (!t556))) else (none)) = some r := H
                          have A19 := Aside0.mk A190
                          clear A190
                          by_cases c20 : t552 = 0
                          · rw [if_pos c20] at H
                            have c20b0 : (t552 == 0) = true := beq_iff_eq.mpr c20
                            have c20b1 : (t552 != 0) = false := bne_eq_false_iff_eq.mpr c20
                            clear c20
                            obtain ⟨y553, hy553⟩ : ∃ y_ : List ByteArray, y_ = (([(⟨#[97]⟩ : ByteArray), (⟨#[98]⟩ : ByteArray)] : List ByteArray)) := ⟨_, rfl⟩
                            replace H : ((rs_Good.f k 2 1 y553).bind fun t556 => (some (!t556))) = some r := by first | (rw [hy553]; with_reducible exact H) | (have H2_ := (Option.bind_some _ _).symm.trans H; rw [hy553]; with_reducible exact H2_) | (have H2_ := (Option.bind_some _ _).symm.trans H; with_reducible exact H2_) | with_reducible exact H | (rw [hy553]; exact H) | exact H
                            have Ny553 := Aside0.mk hy553
                            clear hy553
                            replace H := Option.bind_eq_some_iff.mp H
                            obtain ⟨t556, A210, H⟩ := H
                            replace H : (some (!t556)) = some r := H
                            have A21 := Aside0.mk A210
                            clear A210
                            obtain rfl := Option.some.inj H
                            go_enter Try.func28, Try.ntmps28
                            go_wp2_with (first | ((with_reducible refine gate_dst (N := 12) rfl ?_); (try (refine gate_guard (by rfl) ?_; dsimp only)); refine Kd.R_lit Kd.string _ 9 ?hg (N := 12) ?hd (xs := ([(⟨#[97, 98]⟩ : ByteArray)] : List ByteArray)) (inner := [.string (⟨#[97, 98]⟩ : ByteArray)]) (ok := fun _ => True) (okp := fun _ => True) ?hr ?hp (fun _ hk => hk) trivial (Below.refl _ _) (Nat.le_refl _) (by simp) ?_; (case hd => rfl); (case hg => rfl); (case hr => first | (go_simp; done) | (go_simp; rfl)); (case hp => exact (Reps.one (show Kd.M Kd.string _ _ _ (⟨#[97, 98]⟩ : ByteArray) [.string (⟨#[97, 98]⟩ : ByteArray)] from rfl) (Reps.none _ _))); intro v518 w22 ho23 hb hg_ hnew_; clear hg_ hnew_; (first | rw [← Ny517.out] at ho23 | (simp only [Int.reduceToNat] at ho23; rw [← Ny517.out] at ho23)); have n0_ := Aside0.mk (Kd.R_lower ho23 (below_size (by repeat (first | (with_reducible first | exact HB.out | apply below_alloc | apply pw_below_drewN | apply below_drew1) | exact HB.out)))); have n1_ := Aside0.mk (below_step (by repeat (first | (with_reducible first | exact HB.out | apply below_alloc | apply pw_below_drewN | apply below_drew1) | exact HB.out)) hb); clear HB; have HO519 := n0_; have HB := n1_; clear n0_ n1_; clear hb ho23; obtain ⟨Ao24, co24, eo24⟩ := Kd.R_slice HO519.out; subst eo24) | ((with_reducible refine gate_callee (f := 29) rfl ?_); refine goesL_ (some 13) rfl rfl Try.func29 (by kernel_rfl) rfl #[.int .i64 1, .int .i64 2, .slice Ao24 y517.length co24] rfl (by (try simp only [List.map_toArray, List.map_cons, List.map_nil]); first | done | rfl | (simp only [List.length_drop, List.length_take]; rfl)) ?_; (with_reducible refine (rs_Encode.calls k 1 2 _ _ y517 t520 t521 _ ?side1 ?side2 A1.out).mono ?_); (case side1 => repeat (first | exact (Kd.R_reads' HO519.out).2.2 | (with_reducible refine Kd.C_alloc ?_ _) | (with_reducible refine Kd.C_drewN ?_ _) | (with_reducible refine Kd.C_drew ?_))); (case side2 => exact (Kd.R_reads' HO519.out).2.1); rintro e w25 ⟨v522, rfl, ho0, hb⟩; refine ⟨_, rfl, ?_⟩; have n0_ := Aside0.mk (Kd.R_elder' (by (with_reducible repeat (first | apply Kd.R_alloc | apply Kd.R_drewN | apply Kd.R_drew)); exact HO519.out) (Kd.R_base ho0) hb); have n1_ := Aside0.mk (Kd.R_lower (Kd.R_new' ho0 (Kd.R_lt (by (with_reducible repeat (first | apply Kd.R_alloc | apply Kd.R_drewN | apply Kd.R_drew)); exact HO519.out))) (below_size (by repeat (first | (with_reducible first | exact HB.out | apply below_alloc | apply pw_below_drewN | apply below_drew1) | exact HB.out)))); have n2_ := Aside0.mk (below_step (by repeat (first | (with_reducible first | exact HB.out | apply below_alloc | apply pw_below_drewN | apply below_drew1) | exact HB.out)) hb); clear HO519; clear HB; have HO519 := n0_; have HO523 := n1_; have HB := n2_; clear n0_ n1_ n2_; (try clear hb); (try clear hb2); (try clear hk); (try clear hi); (try clear ho0)) | ((with_reducible refine gate_dst (N := 20) rfl ?_); (try (refine gate_guard (by rfl) ?_; dsimp only)); refine Kd.R_lit k48 _ 48 ?hg (N := 20) ?hd (xs := ([(⟨false, (⟨#[]⟩ : ByteArray)⟩ : S48), (⟨true, (⟨#[120]⟩ : ByteArray)⟩ : S48), (⟨true, (⟨#[121]⟩ : ByteArray)⟩ : S48)] : List (S48))) (inner := [.bool false, .string (⟨#[]⟩ : ByteArray), .bool true, .string (⟨#[120]⟩ : ByteArray), .bool true, .string (⟨#[121]⟩ : ByteArray)]) (ok := fun _ => True) (okp := fun _ => True) ?hr ?hp (fun _ hk => hk) trivial (Below.refl _ _) (Nat.le_refl _) (by simp) ?_; (case hd => rfl); (case hg => rfl); (case hr => first | (go_simp; done) | (go_simp; rfl)); (case hp => exact (Reps.c2 (show Kd.M k48 _ _ _ (⟨false, (⟨#[]⟩ : ByteArray)⟩ : S48) [.bool false, .string (⟨#[]⟩ : ByteArray)] from (k48_mkM _ _ _ (⟨false, (⟨#[]⟩ : ByteArray)⟩ : S48) )) (Reps.c2 (show Kd.M k48 _ _ _ (⟨true, (⟨#[120]⟩ : ByteArray)⟩ : S48) [.bool true, .string (⟨#[120]⟩ : ByteArray)] from (k48_mkM _ _ _ (⟨true, (⟨#[120]⟩ : ByteArray)⟩ : S48) )) (Reps.c2 (show Kd.M k48 _ _ _ (⟨true, (⟨#[121]⟩ : ByteArray)⟩ : S48) [.bool true, .string (⟨#[121]⟩ : ByteArray)] from (k48_mkM _ _ _ (⟨true, (⟨#[121]⟩ : ByteArray)⟩ : S48) )) (Reps.none _ _))))); intro v525 w26 ho27 hb hg_ hnew_; clear hg_ hnew_; (first | rw [← Ny524.out] at ho27 | (simp only [Int.reduceToNat] at ho27; rw [← Ny524.out] at ho27)); have n0_ := Aside0.mk (Kd.R_below (by (with_reducible repeat (first | apply Kd.R_alloc | apply Kd.R_drewN | apply Kd.R_drew)); exact HO519.out) hb); have n1_ := Aside0.mk (Kd.R_below (by (with_reducible repeat (first | apply Kd.R_alloc | apply Kd.R_drewN | apply Kd.R_drew)); exact HO523.out) hb); have n2_ := Aside0.mk (Kd.R_lower ho27 (below_size (by repeat (first | (with_reducible first | exact HB.out | apply below_alloc | apply pw_below_drewN | apply below_drew1) | exact HB.out)))); have n3_ := Aside0.mk (below_step (by repeat (first | (with_reducible first | exact HB.out | apply below_alloc | apply pw_below_drewN | apply below_drew1) | exact HB.out)) hb); clear HO519; clear HO523; clear HB; have HO519 := n0_; have HO523 := n1_; have HO526 := n2_; have HB := n3_; clear n0_ n1_ n2_ n3_; clear hb ho27; obtain ⟨Ao28, co28, eo28⟩ := Kd.R_slice HO526.out; subst eo28) | ((with_reducible refine gate_callee (f := 36) rfl ?_); refine goesL_ (some 21) rfl rfl Try.func36 (by kernel_rfl) rfl #[.int .i64 2, .int .i64 1, .slice Ao28 y524.length co28] rfl (by (try simp only [List.map_toArray, List.map_cons, List.map_nil]); first | done | rfl | (simp only [List.length_drop, List.length_take]; rfl)) ?_; (with_reducible refine (rs_Decode.calls k 2 1 _ _ y524 t527 t528 _ ?side1 ?side2 A2.out).mono ?_); (case side1 => repeat (first | exact (Kd.R_reads' HO526.out).2.2 | (with_reducible refine Kd.C_alloc ?_ _) | (with_reducible refine Kd.C_drewN ?_ _) | (with_reducible refine Kd.C_drew ?_))); (case side2 => exact (Kd.R_reads' HO526.out).2.1); rintro e w29 ⟨v529, rfl, ho0, hb⟩; refine ⟨_, rfl, ?_⟩; have n0_ := Aside0.mk (Kd.R_elder' (by (with_reducible repeat (first | apply Kd.R_alloc | apply Kd.R_drewN | apply Kd.R_drew)); exact HO519.out) (Kd.R_base ho0) hb); have n1_ := Aside0.mk (Kd.R_elder' (by (with_reducible repeat (first | apply Kd.R_alloc | apply Kd.R_drewN | apply Kd.R_drew)); exact HO523.out) (Kd.R_base ho0) hb); have n2_ := Aside0.mk (Kd.R_below (by (with_reducible repeat (first | apply Kd.R_alloc | apply Kd.R_drewN | apply Kd.R_drew)); exact HO526.out) hb); have n3_ := Aside0.mk (Kd.R_lower (Kd.R_new' (Kd.R_new' ho0 (Kd.R_lt (by (with_reducible repeat (first | apply Kd.R_alloc | apply Kd.R_drewN | apply Kd.R_drew)); exact HO519.out))) (Kd.R_lt (by (with_reducible repeat (first | apply Kd.R_alloc | apply Kd.R_drewN | apply Kd.R_drew)); exact HO523.out))) (below_size (by repeat (first | (with_reducible first | exact HB.out | apply below_alloc | apply pw_below_drewN | apply below_drew1) | exact HB.out)))); have n4_ := Aside0.mk (below_step (by repeat (first | (with_reducible first | exact HB.out | apply below_alloc | apply pw_below_drewN | apply below_drew1) | exact HB.out)) hb); clear HO519; clear HO523; clear HO526; clear HB; have HO519 := n0_; have HO523 := n1_; have HO526 := n2_; have HO530 := n3_; have HB := n4_; clear n0_ n1_ n2_ n3_ n4_; (try clear hb); (try clear hb2); (try clear hk); (try clear hi); (try clear ho0)) | ((with_reducible refine gate_dst (N := 28) rfl ?_); (try (refine gate_guard (by rfl) ?_; dsimp only)); refine Kd.R_lit k48 _ 48 ?hg (N := 28) ?hd (xs := ([(⟨false, (⟨#[]⟩ : ByteArray)⟩ : S48), (⟨false, (⟨#[]⟩ : ByteArray)⟩ : S48), (⟨true, (⟨#[121]⟩ : ByteArray)⟩ : S48)] : List (S48))) (inner := [.bool false, .string (⟨#[]⟩ : ByteArray), .bool false, .string (⟨#[]⟩ : ByteArray), .bool true, .string (⟨#[121]⟩ : ByteArray)]) (ok := fun _ => True) (okp := fun _ => True) ?hr ?hp (fun _ hk => hk) trivial (Below.refl _ _) (Nat.le_refl _) (by simp) ?_; (case hd => rfl); (case hg => rfl); (case hr => first | (go_simp; done) | (go_simp; rfl)); (case hp => exact (Reps.c2 (show Kd.M k48 _ _ _ (⟨false, (⟨#[]⟩ : ByteArray)⟩ : S48) [.bool false, .string (⟨#[]⟩ : ByteArray)] from (k48_mkM _ _ _ (⟨false, (⟨#[]⟩ : ByteArray)⟩ : S48) )) (Reps.c2 (show Kd.M k48 _ _ _ (⟨false, (⟨#[]⟩ : ByteArray)⟩ : S48) [.bool false, .string (⟨#[]⟩ : ByteArray)] from (k48_mkM _ _ _ (⟨false, (⟨#[]⟩ : ByteArray)⟩ : S48) )) (Reps.c2 (show Kd.M k48 _ _ _ (⟨true, (⟨#[121]⟩ : ByteArray)⟩ : S48) [.bool true, .string (⟨#[121]⟩ : ByteArray)] from (k48_mkM _ _ _ (⟨true, (⟨#[121]⟩ : ByteArray)⟩ : S48) )) (Reps.none _ _))))); intro v532 w30 ho31 hb hg_ hnew_; clear hg_ hnew_; (first | rw [← Ny531.out] at ho31 | (simp only [Int.reduceToNat] at ho31; rw [← Ny531.out] at ho31)); have n0_ := Aside0.mk (Kd.R_below (by (with_reducible repeat (first | apply Kd.R_alloc | apply Kd.R_drewN | apply Kd.R_drew)); exact HO519.out) hb); have n1_ := Aside0.mk (Kd.R_below (by (with_reducible repeat (first | apply Kd.R_alloc | apply Kd.R_drewN | apply Kd.R_drew)); exact HO523.out) hb); have n2_ := Aside0.mk (Kd.R_elder' (by (with_reducible repeat (first | apply Kd.R_alloc | apply Kd.R_drewN | apply Kd.R_drew)); exact HO526.out) (Kd.R_base ho31) hb); have n3_ := Aside0.mk (Kd.R_below (by (with_reducible repeat (first | apply Kd.R_alloc | apply Kd.R_drewN | apply Kd.R_drew)); exact HO530.out) hb); have n4_ := Aside0.mk (Kd.R_lower (Kd.R_new' ho31 (Kd.R_lt (by (with_reducible repeat (first | apply Kd.R_alloc | apply Kd.R_drewN | apply Kd.R_drew)); exact HO526.out))) (below_size (by repeat (first | (with_reducible first | exact HB.out | apply below_alloc | apply pw_below_drewN | apply below_drew1) | exact HB.out)))); have n5_ := Aside0.mk (below_step (by repeat (first | (with_reducible first | exact HB.out | apply below_alloc | apply pw_below_drewN | apply below_drew1) | exact HB.out)) hb); clear HO519; clear HO523; clear HO526; clear HO530; clear HB; have HO519 := n0_; have HO523 := n1_; have HO526 := n2_; have HO530 := n3_; have HO533 := n4_; have HB := n5_; clear n0_ n1_ n2_ n3_ n4_ n5_; clear hb ho31; obtain ⟨Ao32, co32, eo32⟩ := Kd.R_slice HO533.out; subst eo32) | ((with_reducible refine gate_callee (f := 36) rfl ?_); refine goesL_ (some 29) rfl rfl Try.func36 (by kernel_rfl) rfl #[.int .i64 2, .int .i64 1, .slice Ao32 y531.length co32] rfl (by (try simp only [List.map_toArray, List.map_cons, List.map_nil]); first | done | rfl | (simp only [List.length_drop, List.length_take]; rfl)) ?_; (with_reducible refine (rs_Decode.calls k 2 1 _ _ y531 t534 t535 _ ?side1 ?side2 A3.out).mono ?_); (case side1 => repeat (first | exact (Kd.R_reads' HO533.out).2.2 | (with_reducible refine Kd.C_alloc ?_ _) | (with_reducible refine Kd.C_drewN ?_ _) | (with_reducible refine Kd.C_drew ?_))); (case side2 => exact (Kd.R_reads' HO533.out).2.1); rintro e w33 ⟨v536, rfl, ho0, hb⟩; refine ⟨_, rfl, ?_⟩; have n0_ := Aside0.mk (Kd.R_elder' (by (with_reducible repeat (first | apply Kd.R_alloc | apply Kd.R_drewN | apply Kd.R_drew)); exact HO519.out) (Kd.R_base ho0) hb); have n1_ := Aside0.mk (Kd.R_elder' (by (with_reducible repeat (first | apply Kd.R_alloc | apply Kd.R_drewN | apply Kd.R_drew)); exact HO523.out) (Kd.R_base ho0) hb); have n2_ := Aside0.mk (Kd.R_below (by (with_reducible repeat (first | apply Kd.R_alloc | apply Kd.R_drewN | apply Kd.R_drew)); exact HO526.out) hb); have n3_ := Aside0.mk (Kd.R_elder' (by (with_reducible repeat (first | apply Kd.R_alloc | apply Kd.R_drewN | apply Kd.R_drew)); exact HO530.out) (Kd.R_base ho0) hb); have n4_ := Aside0.mk (Kd.R_below (by (with_reducible repeat (first | apply Kd.R_alloc | apply Kd.R_drewN | apply Kd.R_drew)); exact HO533.out) hb); have n5_ := Aside0.mk (Kd.R_lower (Kd.R_new' (Kd.R_new' (Kd.R_new' ho0 (Kd.R_lt (by (with_reducible repeat (first | apply Kd.R_alloc | apply Kd.R_drewN | apply Kd.R_drew)); exact HO519.out))) (Kd.R_lt (by (with_reducible repeat (first | apply Kd.R_alloc | apply Kd.R_drewN | apply Kd.R_drew)); exact HO523.out))) (Kd.R_lt (by (with_reducible repeat (first | apply Kd.R_alloc | apply Kd.R_drewN | apply Kd.R_drew)); exact HO530.out))) (below_size (by repeat (first | (with_reducible first | exact HB.out | apply below_alloc | apply pw_below_drewN | apply below_drew1) | exact HB.out)))); have n6_ := Aside0.mk (below_step (by repeat (first | (with_reducible first | exact HB.out | apply below_alloc | apply pw_below_drewN | apply below_drew1) | exact HB.out)) hb); clear HO519; clear HO523; clear HO526; clear HO530; clear HO533; clear HB; have HO519 := n0_; have HO523 := n1_; have HO526 := n2_; have HO530 := n3_; have HO533 := n4_; have HO537 := n5_; have HB := n6_; clear n0_ n1_ n2_ n3_ n4_ n5_ n6_; (try clear hb); (try clear hb2); (try clear hk); (try clear hi); (try clear ho0)) | ((with_reducible refine gate_dst (N := 33) rfl ?_); (try (refine gate_guard (by rfl) ?_; dsimp only)); refine Kd.R_lit Kd.string _ 9 ?hg (N := 33) ?hd (xs := ([(⟨#[97]⟩ : ByteArray)] : List ByteArray)) (inner := [.string (⟨#[97]⟩ : ByteArray)]) (ok := fun _ => True) (okp := fun _ => True) ?hr ?hp (fun _ hk => hk) trivial (Below.refl _ _) (Nat.le_refl _) (by simp) ?_; (case hd => rfl); (case hg => rfl); (case hr => first | (go_simp; done) | (go_simp; rfl)); (case hp => exact (Reps.one (show Kd.M Kd.string _ _ _ (⟨#[97]⟩ : ByteArray) [.string (⟨#[97]⟩ : ByteArray)] from rfl) (Reps.none _ _))); intro v539 w34 ho35 hb hg_ hnew_; clear hg_ hnew_; (first | rw [← Ny538.out] at ho35 | (simp only [Int.reduceToNat] at ho35; rw [← Ny538.out] at ho35)); have n0_ := Aside0.mk (Kd.R_elder' (by (with_reducible repeat (first | apply Kd.R_alloc | apply Kd.R_drewN | apply Kd.R_drew)); exact HO519.out) (Kd.R_base ho35) hb); have n1_ := Aside0.mk (Kd.R_elder' (by (with_reducible repeat (first | apply Kd.R_alloc | apply Kd.R_drewN | apply Kd.R_drew)); exact HO523.out) (Kd.R_base ho35) hb); have n2_ := Aside0.mk (Kd.R_below (by (with_reducible repeat (first | apply Kd.R_alloc | apply Kd.R_drewN | apply Kd.R_drew)); exact HO526.out) hb); have n3_ := Aside0.mk (Kd.R_elder' (by (with_reducible repeat (first | apply Kd.R_alloc | apply Kd.R_drewN | apply Kd.R_drew)); exact HO530.out) (Kd.R_base ho35) hb); have n4_ := Aside0.mk (Kd.R_below (by (with_reducible repeat (first | apply Kd.R_alloc | apply Kd.R_drewN | apply Kd.R_drew)); exact HO533.out) hb); have n5_ := Aside0.mk (Kd.R_elder' (by (with_reducible repeat (first | apply Kd.R_alloc | apply Kd.R_drewN | apply Kd.R_drew)); exact HO537.out) (Kd.R_base ho35) hb); have n6_ := Aside0.mk (Kd.R_lower (Kd.R_new' (Kd.R_new' (Kd.R_new' (Kd.R_new' ho35 (Kd.R_lt (by (with_reducible repeat (first | apply Kd.R_alloc | apply Kd.R_drewN | apply Kd.R_drew)); exact HO519.out))) (Kd.R_lt (by (with_reducible repeat (first | apply Kd.R_alloc | apply Kd.R_drewN | apply Kd.R_drew)); exact HO523.out))) (Kd.R_lt (by (with_reducible repeat (first | apply Kd.R_alloc | apply Kd.R_drewN | apply Kd.R_drew)); exact HO530.out))) (Kd.R_lt (by (with_reducible repeat (first | apply Kd.R_alloc | apply Kd.R_drewN | apply Kd.R_drew)); exact HO537.out))) (below_size (by repeat (first | (with_reducible first | exact HB.out | apply below_alloc | apply pw_below_drewN | apply below_drew1) | exact HB.out)))); have n7_ := Aside0.mk (below_step (by repeat (first | (with_reducible first | exact HB.out | apply below_alloc | apply pw_below_drewN | apply below_drew1) | exact HB.out)) hb); clear HO519; clear HO523; clear HO526; clear HO530; clear HO533; clear HO537; clear HB; have HO519 := n0_; have HO523 := n1_; have HO526 := n2_; have HO530 := n3_; have HO533 := n4_; have HO537 := n5_; have HO540 := n6_; have HB := n7_; clear n0_ n1_ n2_ n3_ n4_ n5_ n6_ n7_; clear hb ho35; obtain ⟨Ao36, co36, eo36⟩ := Kd.R_slice HO540.out; subst eo36) | ((with_reducible refine gate_callee (f := 29) rfl ?_); refine goesL_ (some 34) rfl rfl Try.func29 (by kernel_rfl) rfl #[.int .i64 2, .int .i64 1, .slice Ao36 y538.length co36] rfl (by (try simp only [List.map_toArray, List.map_cons, List.map_nil]); first | done | rfl | (simp only [List.length_drop, List.length_take]; rfl)) ?_; (with_reducible refine (rs_Encode.calls k 2 1 _ _ y538 t541 t542 _ ?side1 ?side2 A4.out).mono ?_); (case side1 => repeat (first | exact (Kd.R_reads' HO540.out).2.2 | (with_reducible refine Kd.C_alloc ?_ _) | (with_reducible refine Kd.C_drewN ?_ _) | (with_reducible refine Kd.C_drew ?_))); (case side2 => exact (Kd.R_reads' HO540.out).2.1); rintro e w37 ⟨v543, rfl, ho0, hb⟩; refine ⟨_, rfl, ?_⟩; have n0_ := Aside0.mk (Kd.R_elder' (by (with_reducible repeat (first | apply Kd.R_alloc | apply Kd.R_drewN | apply Kd.R_drew)); exact HO519.out) (Kd.R_base ho0) hb); have n1_ := Aside0.mk (Kd.R_elder' (by (with_reducible repeat (first | apply Kd.R_alloc | apply Kd.R_drewN | apply Kd.R_drew)); exact HO523.out) (Kd.R_base ho0) hb); have n2_ := Aside0.mk (Kd.R_below (by (with_reducible repeat (first | apply Kd.R_alloc | apply Kd.R_drewN | apply Kd.R_drew)); exact HO526.out) hb); have n3_ := Aside0.mk (Kd.R_elder' (by (with_reducible repeat (first | apply Kd.R_alloc | apply Kd.R_drewN | apply Kd.R_drew)); exact HO530.out) (Kd.R_base ho0) hb); have n4_ := Aside0.mk (Kd.R_below (by (with_reducible repeat (first | apply Kd.R_alloc | apply Kd.R_drewN | apply Kd.R_drew)); exact HO533.out) hb); have n5_ := Aside0.mk (Kd.R_elder' (by (with_reducible repeat (first | apply Kd.R_alloc | apply Kd.R_drewN | apply Kd.R_drew)); exact HO537.out) (Kd.R_base ho0) hb); have n6_ := Aside0.mk (Kd.R_elder' (by (with_reducible repeat (first | apply Kd.R_alloc | apply Kd.R_drewN | apply Kd.R_drew)); exact HO540.out) (Kd.R_base ho0) hb); have n7_ := Aside0.mk (Kd.R_lower (Kd.R_new' (Kd.R_new' (Kd.R_new' (Kd.R_new' (Kd.R_new' ho0 (Kd.R_lt (by (with_reducible repeat (first | apply Kd.R_alloc | apply Kd.R_drewN | apply Kd.R_drew)); exact HO519.out))) (Kd.R_lt (by (with_reducible repeat (first | apply Kd.R_alloc | apply Kd.R_drewN | apply Kd.R_drew)); exact HO523.out))) (Kd.R_lt (by (with_reducible repeat (first | apply Kd.R_alloc | apply Kd.R_drewN | apply Kd.R_drew)); exact HO530.out))) (Kd.R_lt (by (with_reducible repeat (first | apply Kd.R_alloc | apply Kd.R_drewN | apply Kd.R_drew)); exact HO537.out))) (Kd.R_lt (by (with_reducible repeat (first | apply Kd.R_alloc | apply Kd.R_drewN | apply Kd.R_drew)); exact HO540.out))) (below_size (by repeat (first | (with_reducible first | exact HB.out | apply below_alloc | apply pw_below_drewN | apply below_drew1) | exact HB.out)))); have n8_ := Aside0.mk (below_step (by repeat (first | (with_reducible first | exact HB.out | apply below_alloc | apply pw_below_drewN | apply below_drew1) | exact HB.out)) hb); clear HO519; clear HO523; clear HO526; clear HO530; clear HO533; clear HO537; clear HO540; clear HB; have HO519 := n0_; have HO523 := n1_; have HO526 := n2_; have HO530 := n3_; have HO533 := n4_; have HO537 := n5_; have HO540 := n6_; have HO544 := n7_; have HB := n8_; clear n0_ n1_ n2_ n3_ n4_ n5_ n6_ n7_ n8_; (try clear hb); (try clear hb2); (try clear hk); (try clear hi); (try clear ho0)) | ((with_reducible refine gate_callee (f := 29) rfl ?_); refine goesL_ (some 38) rfl rfl Try.func29 (by kernel_rfl) rfl #[.int .i64 0, .int .i64 1, .slice none 0 0] rfl (by (try simp only [List.map_toArray, List.map_cons, List.map_nil]); first | done | rfl | (simp only [List.length_drop, List.length_take]; rfl)) ?_; (refine (rs_Encode.calls k 0 1 _ _ ([] : List ByteArray) t545 t546 _ ?side1 ?side2 A5.out).mono ?_); (case side1 => exact Kd.C_nil _ _); (case side2 => exact Nat.le_refl _); rintro e w38 ⟨v547, rfl, ho0, hb⟩; refine ⟨_, rfl, ?_⟩; have n0_ := Aside0.mk (Kd.R_elder' (by (with_reducible repeat (first | apply Kd.R_alloc | apply Kd.R_drewN | apply Kd.R_drew)); exact HO519.out) (Kd.R_base ho0) hb); have n1_ := Aside0.mk (Kd.R_elder' (by (with_reducible repeat (first | apply Kd.R_alloc | apply Kd.R_drewN | apply Kd.R_drew)); exact HO523.out) (Kd.R_base ho0) hb); have n2_ := Aside0.mk (Kd.R_below (by (with_reducible repeat (first | apply Kd.R_alloc | apply Kd.R_drewN | apply Kd.R_drew)); exact HO526.out) hb); have n3_ := Aside0.mk (Kd.R_elder' (by (with_reducible repeat (first | apply Kd.R_alloc | apply Kd.R_drewN | apply Kd.R_drew)); exact HO530.out) (Kd.R_base ho0) hb); have n4_ := Aside0.mk (Kd.R_below (by (with_reducible repeat (first | apply Kd.R_alloc | apply Kd.R_drewN | apply Kd.R_drew)); exact HO533.out) hb); have n5_ := Aside0.mk (Kd.R_elder' (by (with_reducible repeat (first | apply Kd.R_alloc | apply Kd.R_drewN | apply Kd.R_drew)); exact HO537.out) (Kd.R_base ho0) hb); have n6_ := Aside0.mk (Kd.R_elder' (by (with_reducible repeat (first | apply Kd.R_alloc | apply Kd.R_drewN | apply Kd.R_drew)); exact HO540.out) (Kd.R_base ho0) hb); have n7_ := Aside0.mk (Kd.R_elder' (by (with_reducible repeat (first | apply Kd.R_alloc | apply Kd.R_drewN | apply Kd.R_drew)); exact HO544.out) (Kd.R_base ho0) hb); have n8_ := Aside0.mk (Kd.R_lower (Kd.R_new' (Kd.R_new' (Kd.R_new' (Kd.R_new' (Kd.R_new' (Kd.R_new' ho0 (Kd.R_lt (by (with_reducible repeat (first | apply Kd.R_alloc | apply Kd.R_drewN | apply Kd.R_drew)); exact HO519.out))) (Kd.R_lt (by (with_reducible repeat (first | apply Kd.R_alloc | apply Kd.R_drewN | apply Kd.R_drew)); exact HO523.out))) (Kd.R_lt (by (with_reducible repeat (first | apply Kd.R_alloc | apply Kd.R_drewN | apply Kd.R_drew)); exact HO530.out))) (Kd.R_lt (by (with_reducible repeat (first | apply Kd.R_alloc | apply Kd.R_drewN | apply Kd.R_drew)); exact HO537.out))) (Kd.R_lt (by (with_reducible repeat (first | apply Kd.R_alloc | apply Kd.R_drewN | apply Kd.R_drew)); exact HO540.out))) (Kd.R_lt (by (with_reducible repeat (first | apply Kd.R_alloc | apply Kd.R_drewN | apply Kd.R_drew)); exact HO544.out))) (below_size (by repeat (first | (with_reducible first | exact HB.out | apply below_alloc | apply pw_below_drewN | apply below_drew1) | exact HB.out)))); have n9_ := Aside0.mk (below_step (by repeat (first | (with_reducible first | exact HB.out | apply below_alloc | apply pw_below_drewN | apply below_drew1) | exact HB.out)) hb); clear HO519; clear HO523; clear HO526; clear HO530; clear HO533; clear HO537; clear HO540; clear HO544; clear HB; have HO519 := n0_; have HO523 := n1_; have HO526 := n2_; have HO530 := n3_; have HO533 := n4_; have HO537 := n5_; have HO540 := n6_; have HO544 := n7_; have HO548 := n8_; have HB := n9_; clear n0_ n1_ n2_ n3_ n4_ n5_ n6_ n7_ n8_ n9_; (try clear hb); (try clear hb2); (try clear hk); (try clear hi); (try clear ho0); obtain ⟨Ao39, co39, eo39⟩ := Kd.R_slice HO523.out; subst eo39; obtain ⟨Ao40, co40, eo40⟩ := Kd.R_slice HO530.out; subst eo40; have p549 : 0 ≤ (1 : Int) := (by omega); have q549 : 1 < (t527.length : Int) := of_decide_eq_true (by first | (with_reducible assumption) | assumption); obtain ⟨ad549, e549, hx549_0⟩ := Kd.at_string (Kd.R_reads' HO530.out).2.2 1 p549 q549; cases e549; (try simp only [show (1 : Int).toNat = 1 from rfl, Nat.reduceMul, Nat.reduceEqDiff, Go.Addr.add, ↓reduceIte] at hx549_0); have qi549 : (1 < t527.length) = True := eq_true (by omega); (try rw [show ((1 : Int)).toNat = 1 from rfl] at hx549_0); replace p549 := eq_true p549; replace q549 := eq_true q549; have p550 : 0 ≤ (2 : Int) := (by omega); have q550 : 2 < (t527.length : Int) := of_decide_eq_true (by first | (with_reducible assumption) | assumption); obtain ⟨ad550, e550, hx550_0⟩ := Kd.at_string (Kd.R_reads' HO530.out).2.2 2 p550 q550; obtain rfl : ad549 = ad550 := (by injection e550); (try simp only [show (2 : Int).toNat = 2 from rfl, Nat.reduceMul, Nat.reduceEqDiff, Go.Addr.add, ↓reduceIte] at hx550_0); have qi550 : (2 < t527.length) = True := eq_true (by omega); (try rw [show ((2 : Int)).toNat = 2 from rfl] at hx550_0); replace p550 := eq_true p550; replace q550 := eq_true q550) | (go_at_call 34; (with_reducible refine (rs_Good.calls k 2 1 _ _ t527 true _ ?side1 ?side2 A14.out).mono ?_); (case side1 => repeat (first | exact (Kd.R_reads' HO530.out).2.2 | (with_reducible refine Kd.C_alloc ?_ _) | (with_reducible refine Kd.C_drewN ?_ _) | (with_reducible refine Kd.C_drew ?_))); (case side2 => exact (Kd.R_reads' HO530.out).2.1); rintro e w41 ⟨rfl, hb⟩; have n0_ := Aside0.mk (Kd.R_below (by (with_reducible repeat (first | apply Kd.R_alloc | apply Kd.R_drewN | apply Kd.R_drew)); exact HO519.out) hb); have n1_ := Aside0.mk (Kd.R_below (by (with_reducible repeat (first | apply Kd.R_alloc | apply Kd.R_drewN | apply Kd.R_drew)); exact HO523.out) hb); have n2_ := Aside0.mk (Kd.R_below (by (with_reducible repeat (first | apply Kd.R_alloc | apply Kd.R_drewN | apply Kd.R_drew)); exact HO526.out) hb); have n3_ := Aside0.mk (Kd.R_below (by (with_reducible repeat (first | apply Kd.R_alloc | apply Kd.R_drewN | apply Kd.R_drew)); exact HO530.out) hb); have n4_ := Aside0.mk (Kd.R_below (by (with_reducible repeat (first | apply Kd.R_alloc | apply Kd.R_drewN | apply Kd.R_drew)); exact HO533.out) hb); have n5_ := Aside0.mk (Kd.R_below (by (with_reducible repeat (first | apply Kd.R_alloc | apply Kd.R_drewN | apply Kd.R_drew)); exact HO537.out) hb); have n6_ := Aside0.mk (Kd.R_below (by (with_reducible repeat (first | apply Kd.R_alloc | apply Kd.R_drewN | apply Kd.R_drew)); exact HO540.out) hb); have n7_ := Aside0.mk (Kd.R_below (by (with_reducible repeat (first | apply Kd.R_alloc | apply Kd.R_drewN | apply Kd.R_drew)); exact HO544.out) hb); have n8_ := Aside0.mk (Kd.R_below (by (with_reducible repeat (first | apply Kd.R_alloc | apply Kd.R_drewN | apply Kd.R_drew)); exact HO548.out) hb); have n9_ := Aside0.mk (below_step (by repeat (first | (with_reducible first | exact HB.out | apply below_alloc | apply pw_below_drewN | apply below_drew1) | exact HB.out)) hb); clear HO519; clear HO523; clear HO526; clear HO530; clear HO533; clear HO537; clear HO540; clear HO544; clear HO548; clear HB; have HO519 := n0_; have HO523 := n1_; have HO526 := n2_; have HO530 := n3_; have HO533 := n4_; have HO537 := n5_; have HO540 := n6_; have HO544 := n7_; have HO548 := n8_; have HB := n9_; clear n0_ n1_ n2_ n3_ n4_ n5_ n6_ n7_ n8_ n9_; (try clear hb); (try clear hb2); (try clear hk); (try clear hi)) | (go_at_call 31; (with_reducible refine (rs_Check.calls 1 0 t552 _ A19.out).mono ?_); rintro e w' ⟨rfl, ⟨nd, rfl⟩⟩) | ((with_reducible refine gate_dst (N := 90) rfl ?_); (try (refine gate_guard (by rfl) ?_; dsimp only)); refine Kd.R_lit Kd.string _ 9 ?hg (N := 90) ?hd (xs := ([(⟨#[97]⟩ : ByteArray), (⟨#[98]⟩ : ByteArray)] : List ByteArray)) (inner := [.string (⟨#[97]⟩ : ByteArray), .string (⟨#[98]⟩ : ByteArray)]) (ok := fun _ => True) (okp := fun _ => True) ?hr ?hp (fun _ hk => hk) trivial (Below.refl _ _) (Nat.le_refl _) (by simp) ?_; (case hd => rfl); (case hg => rfl); (case hr => first | (go_simp; done) | (go_simp; rfl)); (case hp => exact (Reps.one (show Kd.M Kd.string _ _ _ (⟨#[97]⟩ : ByteArray) [.string (⟨#[97]⟩ : ByteArray)] from rfl) (Reps.one (show Kd.M Kd.string _ _ _ (⟨#[98]⟩ : ByteArray) [.string (⟨#[98]⟩ : ByteArray)] from rfl) (Reps.none _ _)))); intro v554 w42 ho43 hb hg_ hnew_; clear hg_ hnew_; (first | rw [← Ny553.out] at ho43 | (simp only [Int.reduceToNat] at ho43; rw [← Ny553.out] at ho43)); have n0_ := Aside0.mk (Kd.R_elder' (by (with_reducible repeat (first | apply Kd.R_alloc | apply Kd.R_drewN | apply Kd.R_drew)); exact HO519.out) (Kd.R_base ho43) hb); have n1_ := Aside0.mk (Kd.R_elder' (by (with_reducible repeat (first | apply Kd.R_alloc | apply Kd.R_drewN | apply Kd.R_drew)); exact HO523.out) (Kd.R_base ho43) hb); have n2_ := Aside0.mk (Kd.R_below (by (with_reducible repeat (first | apply Kd.R_alloc | apply Kd.R_drewN | apply Kd.R_drew)); exact HO526.out) hb); have n3_ := Aside0.mk (Kd.R_elder' (by (with_reducible repeat (first | apply Kd.R_alloc | apply Kd.R_drewN | apply Kd.R_drew)); exact HO530.out) (Kd.R_base ho43) hb); have n4_ := Aside0.mk (Kd.R_below (by (with_reducible repeat (first | apply Kd.R_alloc | apply Kd.R_drewN | apply Kd.R_drew)); exact HO533.out) hb); have n5_ := Aside0.mk (Kd.R_elder' (by (with_reducible repeat (first | apply Kd.R_alloc | apply Kd.R_drewN | apply Kd.R_drew)); exact HO537.out) (Kd.R_base ho43) hb); have n6_ := Aside0.mk (Kd.R_elder' (by (with_reducible repeat (first | apply Kd.R_alloc | apply Kd.R_drewN | apply Kd.R_drew)); exact HO540.out) (Kd.R_base ho43) hb); have n7_ := Aside0.mk (Kd.R_elder' (by (with_reducible repeat (first | apply Kd.R_alloc | apply Kd.R_drewN | apply Kd.R_drew)); exact HO544.out) (Kd.R_base ho43) hb); have n8_ := Aside0.mk (Kd.R_elder' (by (with_reducible repeat (first | apply Kd.R_alloc | apply Kd.R_drewN | apply Kd.R_drew)); exact HO548.out) (Kd.R_base ho43) hb); have n9_ := Aside0.mk (Kd.R_lower (Kd.R_new' (Kd.R_new' (Kd.R_new' (Kd.R_new' (Kd.R_new' (Kd.R_new' (Kd.R_new' ho43 (Kd.R_lt (by (with_reducible repeat (first | apply Kd.R_alloc | apply Kd.R_drewN | apply Kd.R_drew)); exact HO519.out))) (Kd.R_lt (by (with_reducible repeat (first | apply Kd.R_alloc | apply Kd.R_drewN | apply Kd.R_drew)); exact HO523.out))) (Kd.R_lt (by (with_reducible repeat (first | apply Kd.R_alloc | apply Kd.R_drewN | apply Kd.R_drew)); exact HO530.out))) (Kd.R_lt (by (with_reducible repeat (first | apply Kd.R_alloc | apply Kd.R_drewN | apply Kd.R_drew)); exact HO537.out))) (Kd.R_lt (by (with_reducible repeat (first | apply Kd.R_alloc | apply Kd.R_drewN | apply Kd.R_drew)); exact HO540.out))) (Kd.R_lt (by (with_reducible repeat (first | apply Kd.R_alloc | apply Kd.R_drewN | apply Kd.R_drew)); exact HO544.out))) (Kd.R_lt (by (with_reducible repeat (first | apply Kd.R_alloc | apply Kd.R_drewN | apply Kd.R_drew)); exact HO548.out))) (below_size (by repeat (first | (with_reducible first | exact HB.out | apply below_alloc | apply pw_below_drewN | apply below_drew1) | exact HB.out)))); have n10_ := Aside0.mk (below_step (by repeat (first | (with_reducible first | exact HB.out | apply below_alloc | apply pw_below_drewN | apply below_drew1) | exact HB.out)) hb); clear HO519; clear HO523; clear HO526; clear HO530; clear HO533; clear HO537; clear HO540; clear HO544; clear HO548; clear HB; have HO519 := n0_; have HO523 := n1_; have HO526 := n2_; have HO530 := n3_; have HO533 := n4_; have HO537 := n5_; have HO540 := n6_; have HO544 := n7_; have HO548 := n8_; have HO555 := n9_; have HB := n10_; clear n0_ n1_ n2_ n3_ n4_ n5_ n6_ n7_ n8_ n9_ n10_; clear hb ho43; obtain ⟨Ao44, co44, eo44⟩ := Kd.R_slice HO555.out; subst eo44) | (go_at_call 34; (with_reducible refine (rs_Good.calls k 2 1 _ _ y553 t556 _ ?side1 ?side2 A21.out).mono ?_); (case side1 => repeat (first | exact (Kd.R_reads' HO555.out).2.2 | (with_reducible refine Kd.C_alloc ?_ _) | (with_reducible refine Kd.C_drewN ?_ _) | (with_reducible refine Kd.C_drew ?_))); (case side2 => exact (Kd.R_reads' HO555.out).2.1); rintro e w45 ⟨rfl, hb⟩; have n0_ := Aside0.mk (Kd.R_below (by (with_reducible repeat (first | apply Kd.R_alloc | apply Kd.R_drewN | apply Kd.R_drew)); exact HO519.out) hb); have n1_ := Aside0.mk (Kd.R_below (by (with_reducible repeat (first | apply Kd.R_alloc | apply Kd.R_drewN | apply Kd.R_drew)); exact HO523.out) hb); have n2_ := Aside0.mk (Kd.R_below (by (with_reducible repeat (first | apply Kd.R_alloc | apply Kd.R_drewN | apply Kd.R_drew)); exact HO526.out) hb); have n3_ := Aside0.mk (Kd.R_below (by (with_reducible repeat (first | apply Kd.R_alloc | apply Kd.R_drewN | apply Kd.R_drew)); exact HO530.out) hb); have n4_ := Aside0.mk (Kd.R_below (by (with_reducible repeat (first | apply Kd.R_alloc | apply Kd.R_drewN | apply Kd.R_drew)); exact HO533.out) hb); have n5_ := Aside0.mk (Kd.R_below (by (with_reducible repeat (first | apply Kd.R_alloc | apply Kd.R_drewN | apply Kd.R_drew)); exact HO537.out) hb); have n6_ := Aside0.mk (Kd.R_below (by (with_reducible repeat (first | apply Kd.R_alloc | apply Kd.R_drewN | apply Kd.R_drew)); exact HO540.out) hb); have n7_ := Aside0.mk (Kd.R_below (by (with_reducible repeat (first | apply Kd.R_alloc | apply Kd.R_drewN | apply Kd.R_drew)); exact HO544.out) hb); have n8_ := Aside0.mk (Kd.R_below (by (with_reducible repeat (first | apply Kd.R_alloc | apply Kd.R_drewN | apply Kd.R_drew)); exact HO548.out) hb); have n9_ := Aside0.mk (Kd.R_below (by (with_reducible repeat (first | apply Kd.R_alloc | apply Kd.R_drewN | apply Kd.R_drew)); exact HO555.out) hb); have n10_ := Aside0.mk (below_step (by repeat (first | (with_reducible first | exact HB.out | apply below_alloc | apply pw_below_drewN | apply below_drew1) | exact HB.out)) hb); clear HO519; clear HO523; clear HO526; clear HO530; clear HO533; clear HO537; clear HO540; clear HO544; clear HO548; clear HO555; clear HB; have HO519 := n0_; have HO523 := n1_; have HO526 := n2_; have HO530 := n3_; have HO533 := n4_; have HO537 := n5_; have HO540 := n6_; have HO544 := n7_; have HO548 := n8_; have HO555 := n9_; have HB := n10_; clear n0_ n1_ n2_ n3_ n4_ n5_ n6_ n7_ n8_ n9_ n10_; (try clear hb); (try clear hb2); (try clear hk); (try clear hi)))
                            go_ret
                            exact ⟨by first | rfl | (simp [errW_none, errW_some] <;> rfl) | (simp [*, errW_none, errW_some] <;> rfl), by repeat (first | (with_reducible first | exact HB.out | apply below_alloc | apply pw_below_drewN | apply below_drew1) | exact HB.out)⟩
                          · rw [if_neg c20] at H
                            exact absurd H (by simp)
                        · rw [if_neg c18] at H
                          exact absurd H (by simp)
                      · rw [if_neg c17] at H
                        exact absurd H (by simp)
                    · rw [if_neg c16] at H
                      exact absurd H (by simp)
                  · replace c15 := Bool.eq_false_iff.mpr c15
                    subst c15
                    have H1 : (none) = some r := by rw [if_neg (show ¬ (false = true) by decide)] at H; exact H
                    clear H
                    have H := H1
                    clear H1
                    exact absurd H (by simp)
                · rw [if_neg c13] at H
                  exact absurd H (by simp)
              · rw [if_neg c12] at H
                exact absurd H (by simp)
            · rw [if_neg c11] at H
              exact absurd H (by simp)
          · rw [if_neg c10] at H
            exact absurd H (by simp)
        · rw [if_neg c9] at H
          exact absurd H (by simp)
      · rw [if_neg c8] at H
        exact absurd H (by simp)
    · rw [if_neg c7] at H
      exact absurd H (by simp)
  · rw [if_neg c6] at H
    exact absurd H (by simp)

/-! ### caulkref04_Check: function 32 -/
def caulkref04_Check.f (a0 : Int) (a1 : Int) : Option (Int) := if a0 < 1 then (some 1) else (if a1 < 0 then (some 1) else (if a0 > 255 then (some 1) else (if a1 > 255 then (some 1) else (if (wrap64 (a0 + a1)) > 255 then (some 1) else (some 0)))))
set_option maxHeartbeats 8000000 in
set_option maxRecDepth 100000 in
theorem caulkref04_Check.calls (a0 : Int) (a1 : Int) (r : Int) (w : World) (h : caulkref04_Check.f a0 a1 = some r) :
    Calls Try.prog 32 #[.int .i64 a0, .int .i64 a1] w fun e w' => e = .returned (.int .i64 r) ∧ Drawn0 w w' := by
  have H : (if a0 < 1 then (some 1) else (if a1 < 0 then (some 1) else (if a0 > 255 then (some 1) else (if a1 > 255 then (some 1) else (if (wrap64 (a0 + a1)) > 255 then (some 1) else (some 0)))))) = some r := h
  clear h
  by_cases c3 : a0 < 1
  · rw [if_pos c3] at H
    have c3b0 : decide (a0 < 1) = true := decide_eq_true c3
    clear c3
    obtain rfl := Option.some.inj H
    go_enter Try.func32, Try.ntmps32
    go_wp2
    go_ret
    exact ⟨by first | rfl | (simp; done) | (simp [*]; done), by repeat (first | exact Drawn0.refl _ | apply Drawn0.step)⟩
  · rw [if_neg c3] at H
    have c3b0 : decide (a0 < 1) = false := decide_eq_false c3
    clear c3
    by_cases c4 : a1 < 0
    · rw [if_pos c4] at H
      have c4b0 : decide (a1 < 0) = true := decide_eq_true c4
      clear c4
      obtain rfl := Option.some.inj H
      go_enter Try.func32, Try.ntmps32
      go_wp2
      go_ret
      exact ⟨by first | rfl | (simp; done) | (simp [*]; done), by repeat (first | exact Drawn0.refl _ | apply Drawn0.step)⟩
    · rw [if_neg c4] at H
      have c4b0 : decide (a1 < 0) = false := decide_eq_false c4
      clear c4
      by_cases c5 : a0 > 255
      · rw [if_pos c5] at H
        have c5b0 : decide (255 < a0) = true := decide_eq_true c5
        clear c5
        obtain rfl := Option.some.inj H
        go_enter Try.func32, Try.ntmps32
        go_wp2
        go_ret
        exact ⟨by first | rfl | (simp; done) | (simp [*]; done), by repeat (first | exact Drawn0.refl _ | apply Drawn0.step)⟩
      · rw [if_neg c5] at H
        have c5b0 : decide (255 < a0) = false := decide_eq_false c5
        clear c5
        by_cases c6 : a1 > 255
        · rw [if_pos c6] at H
          have c6b0 : decide (255 < a1) = true := decide_eq_true c6
          clear c6
          obtain rfl := Option.some.inj H
          go_enter Try.func32, Try.ntmps32
          go_wp2
          go_ret
          exact ⟨by first | rfl | (simp; done) | (simp [*]; done), by repeat (first | exact Drawn0.refl _ | apply Drawn0.step)⟩
        · rw [if_neg c6] at H
          have c6b0 : decide (255 < a1) = false := decide_eq_false c6
          clear c6
          by_cases c7 : (wrap64 (a0 + a1)) > 255
          · rw [if_pos c7] at H
            have c7b0 : decide (255 < (wrap64 (a0 + a1))) = true := decide_eq_true c7
            clear c7
            obtain rfl := Option.some.inj H
            go_enter Try.func32, Try.ntmps32
            go_wp2
            go_ret
            exact ⟨by first | rfl | (simp; done) | (simp [*]; done), by repeat (first | exact Drawn0.refl _ | apply Drawn0.step)⟩
          · rw [if_neg c7] at H
            have c7b0 : decide (255 < (wrap64 (a0 + a1))) = false := decide_eq_false c7
            clear c7
            obtain rfl := Option.some.inj H
            go_enter Try.func32, Try.ntmps32
            go_wp2
            go_ret
            exact ⟨by first | rfl | (simp; done) | (simp [*]; done), by repeat (first | exact Drawn0.refl _ | apply Drawn0.step)⟩

end Go.Proofs.Ytlobaomleocpjaa.G
