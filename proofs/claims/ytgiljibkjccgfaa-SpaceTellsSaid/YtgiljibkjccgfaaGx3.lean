-- Written by a program of this session over the print of the translation (its own patch, foreign contracts, cut ways): not trusted: Lean checks it.
import Derived.Test.YtgiljibkjccgfaaGx0
import Derived.Test.YtgiljibkjccgfaaGx1
import Derived.Test.YtgiljibkjccgfaaGx2
import Derived.Test.YtgiljibkjccgfaaSpace
namespace Go.Proofs.Ytgiljibkjccgfaa.G
open Go.RowKit Go.Proofs.YtgiljibkjccgfaaW.PrintWords Go.Proofs.YtgiljibkjccgfaaW.PrintLast Go.Proofs.YtgiljibkjccgfaaW.PrintMore
attribute [local go_sem] max2_int min2_int max_two min_two max_three min_three max_four min_four   -- for this text's walks alone
set_option linter.unusedVariables false
set_option linter.unusedSimpArgs false

/-! ### caulkref12_Take: function 32 -/
def caulkref12_Take.l0 : Nat → Int → List Bool → List Int → Int → Int → Option (List Bool × List Int × Int)
  | 0, _, _, _, _, _ => none
  | k + 1, x1, x7, x8, x22, x23 => if x23 < x22 then (if 0 ≤ x23 then (if x23 < (x7.length : Int) then (if rdOf false x7 x23 = true then (caulkref12_Take.l0 k x1 x7 x8 x22 (wrap64 (x23 + 1))) else (if (x8.length : Int) < x1 then (if x8.length < 17592186044416 then (caulkref12_Take.l0 k x1 (x7.set (x23 : Int).toNat true) (x8 ++ [x23]) x22 (wrap64 (x23 + 1))) else (none)) else (caulkref12_Take.l0 k x1 x7 x8 x22 (wrap64 (x23 + 1))))) else (none)) else (none)) else (some (x7, x8, 0))
def caulkref12_Take.f (k : Nat) (l0 : List Bool) (a1 : Int) : Option (List Bool × List Int × Int) := (some (([] : List Bool) : List Bool)).bind fun y228 => (if y228.length + l0.length < 140737488355328 then ((some (y228 ++ l0 : List Bool)).bind fun y231 => (if a1 < 0 then (some (y231, ([] : List Int), 1)) else ((caulkref12_Free.f k l0).bind fun t234 => (if t234 < a1 then (some (y231, ([] : List Int), 11)) else (caulkref12_Take.l0 k a1 y231 ([] : List Int) (y231.length : Int) 0))))) else (none))
theorem caulkref12_Take.mono_l : ∀ k, (∀ y0 y1 y2 y3 y4, LeO (caulkref12_Take.l0 k y0 y1 y2 y3 y4) (caulkref12_Take.l0 (k + 1) y0 y1 y2 y3 y4))
  | 0 => fun _ _ _ _ _ r h => by simp [caulkref12_Take.l0] at h
  | k + 1 => by
    have ih0 := caulkref12_Take.mono_l k
    · intro y0 y1 y2 y3 y4
      unfold caulkref12_Take.l0
      repeat' first
      | (with_reducible exact ih0 _ _ _ _ _)
      | (with_reducible exact caulkref12_Free.mono _ _)
      | (with_reducible exact LeO.refl _)
      | (with_reducible exact LeO.none _)
      | (with_reducible refine LeO.ite ?_ ?_)
      | (with_reducible refine LeO.bind ?_ (fun _ => ?_))
      | exact ih0 _ _ _ _ _
      | exact caulkref12_Free.mono _ _
      | exact LeO.none _
      | refine LeO.ite ?_ ?_
      | refine LeO.bind ?_ (fun _ => ?_)
theorem caulkref12_Take.mono : ∀ a0 a1 k, LeO (caulkref12_Take.f k a0 a1) (caulkref12_Take.f (k + 1) a0 a1) := by
  intro a0 a1 k
  have ih0 := caulkref12_Take.mono_l k
  unfold caulkref12_Take.f
  repeat' first
      | (with_reducible exact ih0 _ _ _ _ _)
      | (with_reducible exact caulkref12_Free.mono _ _)
      | (with_reducible exact LeO.refl _)
      | (with_reducible exact LeO.none _)
      | (with_reducible refine LeO.ite ?_ ?_)
      | (with_reducible refine LeO.bind ?_ (fun _ => ?_))
      | exact ih0 _ _ _ _ _
      | exact caulkref12_Free.mono _ _
      | exact LeO.none _
      | refine LeO.ite ?_ ?_
      | refine LeO.bind ?_ (fun _ => ?_)
set_option maxHeartbeats 8000000 in
set_option maxRecDepth 100000 in
theorem caulkref12_Take.calls (k : Nat) (A0 : Option Addr) (c0 : Nat) (l0 : List Bool) (a1 : Int) (r1 : List Bool) (r2 : List Int) (r3 : Int) (w : World) (hr0 : Kd.C Kd.bool w A0 l0.length l0) (hc0 : l0.length ≤ c0) (h : caulkref12_Take.f k l0 a1 = some (r1, r2, r3)) :
    Calls Try.prog 32 #[.slice A0 l0.length c0, .int .i64 a1] w fun e w' => ∃ v0_ v1_ : Value, e = .returned (.tuple #[v0_, v1_, .int .i64 r3]) ∧ Kd.R Kd.bool 4 w' w.heap.size (fun _ => True) v0_ r1 ∧ Kd.R (Kd.int .i64) 3 w' w.heap.size (fun _ => True) v1_ r2 ∧ Below w.heap.size w w' := by
  have HR0 := Aside0.mk hr0
  have HC0 := Aside0.mk hc0
  clear hr0 hc0
  have HB := Aside0.mk (Below.refl w.heap.size w)
  have H : ((some (([] : List Bool) : List Bool)).bind fun y228 => (if y228.length + l0.length < 140737488355328 then ((some (y228 ++ l0 : List Bool)).bind fun y231 => (if a1 < 0 then (some (y231, ([] : List Int), 1)) else ((caulkref12_Free.f k l0).bind fun t234 => (if t234 < a1 then (some (y231, ([] : List Int), 11)) else (caulkref12_Take.l0 k a1 y231 ([] : List Int) (y231.length : Int) 0))))) else (none))) = some (r1, r2, r3) := h
  clear h
  obtain ⟨y228, hy228⟩ : ∃ y_ : List Bool, y_ = (([] : List Bool)) := ⟨_, rfl⟩
  replace H : (if y228.length + l0.length < 140737488355328 then ((some (y228 ++ l0 : List Bool)).bind fun y231 => (if a1 < 0 then (some (y231, ([] : List Int), 1)) else ((caulkref12_Free.f k l0).bind fun t234 => (if t234 < a1 then (some (y231, ([] : List Int), 11)) else (caulkref12_Take.l0 k a1 y231 ([] : List Int) (y231.length : Int) 0))))) else (none)) = some (r1, r2, r3) := by first | (rw [hy228]; with_reducible exact H) | (have H2_ := (Option.bind_some _ _).symm.trans H; rw [hy228]; with_reducible exact H2_) | (have H2_ := (Option.bind_some _ _).symm.trans H; with_reducible exact H2_) | with_reducible exact H | (rw [hy228]; exact H) | exact H
  have Ny228 := Aside0.mk hy228
  clear hy228
  by_cases c3 : y228.length + l0.length < 140737488355328
  · rw [if_pos c3] at H
    have LMc3 := Aside0.mk c3
    clear c3
    obtain ⟨y231, hy231⟩ : ∃ y_ : List Bool, y_ = (y228 ++ l0) := ⟨_, rfl⟩
    replace H : (if a1 < 0 then (some (y231, ([] : List Int), 1)) else ((caulkref12_Free.f k l0).bind fun t234 => (if t234 < a1 then (some (y231, ([] : List Int), 11)) else (caulkref12_Take.l0 k a1 y231 ([] : List Int) (y231.length : Int) 0)))) = some (r1, r2, r3) := by first | (rw [hy231]; with_reducible exact H) | (have H2_ := (Option.bind_some _ _).symm.trans H; rw [hy231]; with_reducible exact H2_) | (have H2_ := (Option.bind_some _ _).symm.trans H; with_reducible exact H2_) | with_reducible exact H | (rw [hy231]; exact H) | exact H
    have Ny231 := Aside0.mk hy231
    clear hy231
    by_cases c4 : a1 < 0
    · rw [if_pos c4] at H
      have c4b0 : decide (a1 < 0) = true := decide_eq_true c4
      clear c4
      simp only [Option.some.injEq, Prod.mk.injEq] at H
      obtain ⟨rfl, rfl, rfl⟩ := H
      go_enter Try.func32, Try.ntmps32
      go_wp2_with (first | ((with_reducible refine gate_dst (N := 10) rfl ?_); (try (refine gate_guard (by rfl) ?_; dsimp only)); refine Kd.R_lit Kd.bool _ 4 ?hg (N := 10) ?hd (xs := ([] : List Bool)) (inner := []) (ok := fun _ => True) (okp := fun _ => True) ?hr ?hp (fun _ hk => hk) trivial (Below.refl _ _) (Nat.le_refl _) (by simp) ?_; (case hd => rfl); (case hg => rfl); (case hr => first | (go_simp; done) | (go_simp; rfl)); (case hp => exact (Reps.none _ _)); intro v229 w5 ho6 hb hg_ hnew_; clear hg_ hnew_; (first | rw [← Ny228.out] at ho6 | (simp only [Int.reduceToNat] at ho6; rw [← Ny228.out] at ho6)); have n0_ := Aside0.mk (Kd.R_lower ho6 (below_size (by repeat (first | (with_reducible first | exact HB.out | apply below_alloc | apply pw_below_drewN | apply below_drew1) | exact HB.out)))); have n1_ := Aside0.mk (below_step (by repeat (first | (with_reducible first | exact HB.out | apply below_alloc | apply pw_below_drewN | apply below_drew1) | exact HB.out)) hb); clear HB; have HO230 := n0_; have HB := n1_; clear n0_ n1_; clear hb ho6) | ((with_reducible refine gate_builtin (b := .append) (xs := #[.tmp 10, .tmp 11]) rfl ?_); (try (refine gate_guard (by rfl) ?_; dsimp only)); at_builtin; refine Kd.R_append_rows Kd.bool (w0 := w) w.heap.size rfl (.tmp 10) (.tmp 11) 45 4 (.bool false) 1 rfl Try.underlying45 info4 rfl (by decide) (by omega) v229 y228 l0 _ _ _ (fun _ => True) (fun _ => False) rfl rfl ?aO ?aR (fun _ _ h => h) (fun _ h => h.elim) ?aF ?aB ?aS ?aL ?_; (case aR => repeat (first | exact (Kd.C_below HR0.out HB.out) | (with_reducible refine Kd.C_alloc ?_ _) | (with_reducible refine Kd.C_drewN ?_ _) | (with_reducible refine Kd.C_drew ?_))); (case aB => exact (by repeat (first | (with_reducible first | exact HB.out | apply below_alloc | apply pw_below_drewN | apply below_drew1) | exact HB.out))); (case aF => exact (fun _ _ => trivial)); (case aO => exact (by (with_reducible repeat (first | apply Kd.R_alloc | apply Kd.R_drewN | apply Kd.R_drew)); exact HO230.out)); (case aS => exact (below_size (by repeat (first | (with_reducible first | exact HB.out | apply below_alloc | apply pw_below_drewN | apply below_drew1) | exact HB.out)))); (case aL => have := LMc3.out; omega); intro v232 w7 ho hb hg hat; rw [← Ny231.out] at ho; have n0_ := Aside0.mk (hb); have n1_ := Aside0.mk (ho); clear HB; clear HO230; have HB := n0_; have HO233 := n1_; clear n0_ n1_; clear ho hb hg hat))
      go_ret3
      exact ⟨_, _, by first | rfl | (simp [errW_none, errW_some] <;> rfl) | (simp [*, errW_none, errW_some] <;> rfl), by (with_reducible repeat (first | apply Kd.R_alloc | apply Kd.R_drewN | apply Kd.R_drew)); exact HO233.out, by first | exact Kd.R_nil _ _ _ _ _ | exact Kd.N_nil _ _ _ _ _ | exact Kd.V_nil _ _ _ _ _ | exact Kd.Q_nil _ _ _ _ _ | exact Kd.S_nil _ _ _ _ _, by repeat (first | (with_reducible first | exact HB.out | apply below_alloc | apply pw_below_drewN | apply below_drew1) | exact HB.out)⟩
    · rw [if_neg c4] at H
      have c4b0 : decide (a1 < 0) = false := decide_eq_false c4
      clear c4
      replace H := Option.bind_eq_some_iff.mp H
      obtain ⟨t234, A80, H⟩ := H
      replace H : (if t234 < a1 then (some (y231, ([] : List Int), 11)) else (caulkref12_Take.l0 k a1 y231 ([] : List Int) (y231.length : Int) 0)) = some (r1, r2, r3) := H
      have A8 := Aside0.mk A80
      clear A80
      by_cases c9 : t234 < a1
      · rw [if_pos c9] at H
        have c9b0 : decide (t234 < a1) = true := decide_eq_true c9
        clear c9
        simp only [Option.some.injEq, Prod.mk.injEq] at H
        obtain ⟨rfl, rfl, rfl⟩ := H
        go_enter Try.func32, Try.ntmps32
        go_wp2_with (first | ((with_reducible refine gate_dst (N := 10) rfl ?_); (try (refine gate_guard (by rfl) ?_; dsimp only)); refine Kd.R_lit Kd.bool _ 4 ?hg (N := 10) ?hd (xs := ([] : List Bool)) (inner := []) (ok := fun _ => True) (okp := fun _ => True) ?hr ?hp (fun _ hk => hk) trivial (Below.refl _ _) (Nat.le_refl _) (by simp) ?_; (case hd => rfl); (case hg => rfl); (case hr => first | (go_simp; done) | (go_simp; rfl)); (case hp => exact (Reps.none _ _)); intro v229 w10 ho11 hb hg_ hnew_; clear hg_ hnew_; (first | rw [← Ny228.out] at ho11 | (simp only [Int.reduceToNat] at ho11; rw [← Ny228.out] at ho11)); have n0_ := Aside0.mk (Kd.R_lower ho11 (below_size (by repeat (first | (with_reducible first | exact HB.out | apply below_alloc | apply pw_below_drewN | apply below_drew1) | exact HB.out)))); have n1_ := Aside0.mk (below_step (by repeat (first | (with_reducible first | exact HB.out | apply below_alloc | apply pw_below_drewN | apply below_drew1) | exact HB.out)) hb); clear HB; have HO230 := n0_; have HB := n1_; clear n0_ n1_; clear hb ho11) | ((with_reducible refine gate_builtin (b := .append) (xs := #[.tmp 10, .tmp 11]) rfl ?_); (try (refine gate_guard (by rfl) ?_; dsimp only)); at_builtin; refine Kd.R_append_rows Kd.bool (w0 := w) w.heap.size rfl (.tmp 10) (.tmp 11) 45 4 (.bool false) 1 rfl Try.underlying45 info4 rfl (by decide) (by omega) v229 y228 l0 _ _ _ (fun _ => True) (fun _ => False) rfl rfl ?aO ?aR (fun _ _ h => h) (fun _ h => h.elim) ?aF ?aB ?aS ?aL ?_; (case aR => repeat (first | exact (Kd.C_below HR0.out HB.out) | (with_reducible refine Kd.C_alloc ?_ _) | (with_reducible refine Kd.C_drewN ?_ _) | (with_reducible refine Kd.C_drew ?_))); (case aB => exact (by repeat (first | (with_reducible first | exact HB.out | apply below_alloc | apply pw_below_drewN | apply below_drew1) | exact HB.out))); (case aF => exact (fun _ _ => trivial)); (case aO => exact (by (with_reducible repeat (first | apply Kd.R_alloc | apply Kd.R_drewN | apply Kd.R_drew)); exact HO230.out)); (case aS => exact (below_size (by repeat (first | (with_reducible first | exact HB.out | apply below_alloc | apply pw_below_drewN | apply below_drew1) | exact HB.out)))); (case aL => have := LMc3.out; omega); intro v232 w12 ho hb hg hat; rw [← Ny231.out] at ho; have n0_ := Aside0.mk (hb); have n1_ := Aside0.mk (ho); clear HB; clear HO230; have HB := n0_; have HO233 := n1_; clear n0_ n1_; clear ho hb hg hat) | ((with_reducible refine gate_callee (f := 38) rfl ?_); refine goesL_ (some 17) rfl rfl Try.func38 (by kernel_rfl) rfl #[.slice A0 l0.length c0] rfl (by (try simp only [List.map_toArray, List.map_cons, List.map_nil]); first | done | rfl | (simp only [List.length_drop, List.length_take]; rfl)) ?_; (with_reducible refine (caulkref12_Free.calls k _ _ l0 t234 _ ?side1 ?side2 A8.out).mono ?_); (case side1 => repeat (first | exact (Kd.C_below HR0.out HB.out) | (with_reducible refine Kd.C_alloc ?_ _) | (with_reducible refine Kd.C_drewN ?_ _) | (with_reducible refine Kd.C_drew ?_))); (case side2 => exact HC0.out); rintro e w13 ⟨rfl, hb⟩; refine ⟨_, rfl, ?_⟩; have n0_ := Aside0.mk (Kd.R_below (by (with_reducible repeat (first | apply Kd.R_alloc | apply Kd.R_drewN | apply Kd.R_drew)); exact HO233.out) hb); have n1_ := Aside0.mk (below_step (by repeat (first | (with_reducible first | exact HB.out | apply below_alloc | apply pw_below_drewN | apply below_drew1) | exact HB.out)) hb); clear HO233; clear HB; have HO233 := n0_; have HB := n1_; clear n0_ n1_; (try clear hb); (try clear hb2); (try clear hk); (try clear hi)))
        go_ret3
        exact ⟨_, _, by first | rfl | (simp [errW_none, errW_some] <;> rfl) | (simp [*, errW_none, errW_some] <;> rfl), by (with_reducible repeat (first | apply Kd.R_alloc | apply Kd.R_drewN | apply Kd.R_drew)); exact HO233.out, by first | exact Kd.R_nil _ _ _ _ _ | exact Kd.N_nil _ _ _ _ _ | exact Kd.V_nil _ _ _ _ _ | exact Kd.Q_nil _ _ _ _ _ | exact Kd.S_nil _ _ _ _ _, by repeat (first | (with_reducible first | exact HB.out | apply below_alloc | apply pw_below_drewN | apply below_drew1) | exact HB.out)⟩
      · rw [if_neg c9] at H
        have c9b0 : decide (t234 < a1) = false := decide_eq_false c9
        clear c9
        have H' := Aside0.mk H
        clear H
        go_enter Try.func32, Try.ntmps32
        go_wp2_with (first | ((with_reducible refine gate_dst (N := 10) rfl ?_); (try (refine gate_guard (by rfl) ?_; dsimp only)); refine Kd.R_lit Kd.bool _ 4 ?hg (N := 10) ?hd (xs := ([] : List Bool)) (inner := []) (ok := fun _ => True) (okp := fun _ => True) ?hr ?hp (fun _ hk => hk) trivial (Below.refl _ _) (Nat.le_refl _) (by simp) ?_; (case hd => rfl); (case hg => rfl); (case hr => first | (go_simp; done) | (go_simp; rfl)); (case hp => exact (Reps.none _ _)); intro v229 w14 ho15 hb hg_ hnew_; clear hg_ hnew_; (first | rw [← Ny228.out] at ho15 | (simp only [Int.reduceToNat] at ho15; rw [← Ny228.out] at ho15)); have n0_ := Aside0.mk (Kd.R_lower ho15 (below_size (by repeat (first | (with_reducible first | exact HB.out | apply below_alloc | apply pw_below_drewN | apply below_drew1) | exact HB.out)))); have n1_ := Aside0.mk (below_step (by repeat (first | (with_reducible first | exact HB.out | apply below_alloc | apply pw_below_drewN | apply below_drew1) | exact HB.out)) hb); clear HB; have HO230 := n0_; have HB := n1_; clear n0_ n1_; clear hb ho15) | ((with_reducible refine gate_builtin (b := .append) (xs := #[.tmp 10, .tmp 11]) rfl ?_); (try (refine gate_guard (by rfl) ?_; dsimp only)); at_builtin; refine Kd.R_append_rows Kd.bool (w0 := w) w.heap.size rfl (.tmp 10) (.tmp 11) 45 4 (.bool false) 1 rfl Try.underlying45 info4 rfl (by decide) (by omega) v229 y228 l0 _ _ _ (fun _ => True) (fun _ => False) rfl rfl ?aO ?aR (fun _ _ h => h) (fun _ h => h.elim) ?aF ?aB ?aS ?aL ?_; (case aR => repeat (first | exact (Kd.C_below HR0.out HB.out) | (with_reducible refine Kd.C_alloc ?_ _) | (with_reducible refine Kd.C_drewN ?_ _) | (with_reducible refine Kd.C_drew ?_))); (case aB => exact (by repeat (first | (with_reducible first | exact HB.out | apply below_alloc | apply pw_below_drewN | apply below_drew1) | exact HB.out))); (case aF => exact (fun _ _ => trivial)); (case aO => exact (by (with_reducible repeat (first | apply Kd.R_alloc | apply Kd.R_drewN | apply Kd.R_drew)); exact HO230.out)); (case aS => exact (below_size (by repeat (first | (with_reducible first | exact HB.out | apply below_alloc | apply pw_below_drewN | apply below_drew1) | exact HB.out)))); (case aL => have := LMc3.out; omega); intro v232 w16 ho hb hg hat; rw [← Ny231.out] at ho; have n0_ := Aside0.mk (hb); have n1_ := Aside0.mk (ho); clear HB; clear HO230; have HB := n0_; have HO233 := n1_; clear n0_ n1_; clear ho hb hg hat) | ((with_reducible refine gate_callee (f := 38) rfl ?_); refine goesL_ (some 17) rfl rfl Try.func38 (by kernel_rfl) rfl #[.slice A0 l0.length c0] rfl (by (try simp only [List.map_toArray, List.map_cons, List.map_nil]); first | done | rfl | (simp only [List.length_drop, List.length_take]; rfl)) ?_; (with_reducible refine (caulkref12_Free.calls k _ _ l0 t234 _ ?side1 ?side2 A8.out).mono ?_); (case side1 => repeat (first | exact (Kd.C_below HR0.out HB.out) | (with_reducible refine Kd.C_alloc ?_ _) | (with_reducible refine Kd.C_drewN ?_ _) | (with_reducible refine Kd.C_drew ?_))); (case side2 => exact HC0.out); rintro e w17 ⟨rfl, hb⟩; refine ⟨_, rfl, ?_⟩; have n0_ := Aside0.mk (Kd.R_below (by (with_reducible repeat (first | apply Kd.R_alloc | apply Kd.R_drewN | apply Kd.R_drew)); exact HO233.out) hb); have n1_ := Aside0.mk (below_step (by repeat (first | (with_reducible first | exact HB.out | apply below_alloc | apply pw_below_drewN | apply below_drew1) | exact HB.out)) hb); clear HO233; clear HB; have HO233 := n0_; have HB := n1_; clear n0_ n1_; (try clear hb); (try clear hb2); (try clear hk); (try clear hi); obtain ⟨Ao18, co18, eo18⟩ := Kd.R_slice HO233.out; subst eo18))
        go_loopg [8, 23] k (fun kq v8 v23 w' => ∃ (x7_1 : List Bool) (x8_1 : List Int) (x23_1 : Int), v23 = .int .i64 x23_1 ∧ Aside0 (caulkref12_Take.l0 kq a1 x7_1 x8_1 (y231.length : Int) x23_1 = some (r1, r2, r3)) ∧ Aside0 (kq ≤ k) ∧ Aside0 (Kd.R Kd.bool 4 w' w.heap.size (fun _ => True) (.slice Ao18 y231.length co18) x7_1) ∧ Aside0 (Kd.R (Kd.int .i64) 3 w' w.heap.size (fun _ => True) v8 x8_1) ∧ Aside0 (Below w.heap.size w w'))
        case atStart => exact ⟨(y231), (([] : List Int)), (0), (by first | rfl | (simp; done) | (simp [*]; done)), H', ⟨Nat.le_refl _⟩, ⟨by (with_reducible repeat (first | apply Kd.R_alloc | apply Kd.R_drewN | apply Kd.R_drew)); exact HO233.out⟩, ⟨by first | exact Kd.R_nil _ _ _ _ _ | exact Kd.N_nil _ _ _ _ _ | exact Kd.V_nil _ _ _ _ _ | exact Kd.Q_nil _ _ _ _ _ | exact Kd.S_nil _ _ _ _ _⟩, ⟨by repeat (first | (with_reducible first | exact HB.out | apply below_alloc | apply pw_below_drewN | apply below_drew1) | exact HB.out)⟩⟩
        case round =>
          clear H'
          try clear p2
          try clear c3
          try clear c4
          try clear c4b0
          try clear c9
          try clear c9b0
          obtain ⟨x7_1, x8_1, x23_1, rfl, HA, HK1, HO_7, HO_8, HB⟩ := hrel
          have hl7_1 := (Kd.R_reads' HO_7.out).1
          rw [hl7_1] at HO_7
          (try simp only [hl7_1])
          (try simp only [hl7_1] at HO_8)
          cases gk with
          | zero => exact absurd HA.out (by simp [caulkref12_Take.l0])
          | succ k1 =>
            have H := HA.out
            clear HA
            simp only [caulkref12_Take.l0] at H
            by_cases c19 : x23_1 < (y231.length : Int)
            · rw [if_pos c19] at H
              have c19b0 : decide (x23_1 < (y231.length : Int)) = true := decide_eq_true c19
              clear c19
              by_cases c20 : 0 ≤ x23_1
              · rw [if_pos c20] at H
                have c20b0 : decide (0 ≤ x23_1) = true := decide_eq_true c20
                clear c20
                by_cases c21 : x23_1 < (x7_1.length : Int)
                · rw [if_pos c21] at H
                  have c21b0 : decide (x23_1 < (x7_1.length : Int)) = true := decide_eq_true c21
                  clear c21
                  obtain ⟨bq22, hbq22⟩ : ∃ b_ : Bool, b_ = (rdOf false x7_1 x23_1) := ⟨_, rfl⟩
                  replace H : (if bq22 = true then (caulkref12_Take.l0 k1 a1 x7_1 x8_1 (y231.length : Int) (wrap64 (x23_1 + 1))) else (if (x8_1.length : Int) < a1 then (if x8_1.length < 17592186044416 then (caulkref12_Take.l0 k1 a1 (x7_1.set (x23_1 : Int).toNat true) (x8_1 ++ [x23_1]) (y231.length : Int) (wrap64 (x23_1 + 1))) else (none)) else (caulkref12_Take.l0 k1 a1 x7_1 x8_1 (y231.length : Int) (wrap64 (x23_1 + 1))))) = some (r1, r2, r3) := by rw [← hbq22] at H; exact H
                  have Nbq22 := Aside0.mk hbq22
                  clear hbq22
                  by_cases c23 : bq22 = true
                  · subst c23
                    have H1 : (caulkref12_Take.l0 k1 a1 x7_1 x8_1 (y231.length : Int) (wrap64 (x23_1 + 1))) = some (r1, r2, r3) := by rw [if_pos rfl] at H; exact H
                    clear H
                    have H := H1
                    clear H1
                    have H' := Aside0.mk H
                    clear H
                    have p235 : 0 ≤ (x23_1 : Int) := of_decide_eq_true (by first | (with_reducible assumption) | assumption)
                    have q235 : x23_1 < (x7_1.length : Int) := of_decide_eq_true (by first | (with_reducible assumption) | assumption)
                    obtain ⟨ad235, e235, hx235_0⟩ := Kd.at_bool (Kd.R_reads' HO_7.out).2.2 x23_1 p235 q235
                    (try rw [← Nbq22.out] at hx235_0)
                    cases e235
                    replace p235 := eq_true p235
                    replace q235 := eq_true q235
                    go_wp2
                    (try simp only [← hl7_1])
                    go_roundg k1
                    case measure => have := HK1.out; omega
                    case rel => exact ⟨(x7_1), (x8_1), (wrap64 (x23_1 + 1)), (by first | rfl | (simp; done) | (simp [*]; done)), H', ⟨by have := HK1.out; omega⟩, ⟨by (try simp only [hl7_1]); (with_reducible repeat (first | apply Kd.R_alloc | apply Kd.R_drewN | apply Kd.R_drew)); exact HO_7.out⟩, ⟨by (try simp only [hl7_1]); (with_reducible repeat (first | apply Kd.R_alloc | apply Kd.R_drewN | apply Kd.R_drew)); exact HO_8.out⟩, ⟨by repeat (first | (with_reducible first | exact HB.out | apply below_alloc | apply pw_below_drewN | apply below_drew1) | exact HB.out)⟩⟩
                  · replace c23 := Bool.eq_false_iff.mpr c23
                    subst c23
                    have H1 : (if (x8_1.length : Int) < a1 then (if x8_1.length < 17592186044416 then (caulkref12_Take.l0 k1 a1 (x7_1.set (x23_1 : Int).toNat true) (x8_1 ++ [x23_1]) (y231.length : Int) (wrap64 (x23_1 + 1))) else (none)) else (caulkref12_Take.l0 k1 a1 x7_1 x8_1 (y231.length : Int) (wrap64 (x23_1 + 1)))) = some (r1, r2, r3) := by rw [if_neg (show ¬ (false = true) by decide)] at H; exact H
                    clear H
                    have H := H1
                    clear H1
                    by_cases c24 : (x8_1.length : Int) < a1
                    · rw [if_pos c24] at H
                      have c24b0 : decide ((x8_1.length : Int) < a1) = true := decide_eq_true c24
                      clear c24
                      by_cases c25 : x8_1.length < 17592186044416
                      · rw [if_pos c25] at H
                        have LMc25 := Aside0.mk c25
                        clear c25
                        obtain ⟨y236, hy236⟩ : ∃ y_ : List Int, y_ = (x8_1 ++ [x23_1]) := ⟨_, rfl⟩
                        replace H : (caulkref12_Take.l0 k1 a1 (x7_1.set (x23_1 : Int).toNat true) y236 (y231.length : Int) (wrap64 (x23_1 + 1))) = some (r1, r2, r3) := by first | (rw [hy236]; with_reducible exact H) | (have H2_ := (Option.bind_some _ _).symm.trans H; rw [hy236]; with_reducible exact H2_) | (have H2_ := (Option.bind_some _ _).symm.trans H; with_reducible exact H2_) | with_reducible exact H | (rw [hy236]; exact H) | exact H
                        have Ny236 := Aside0.mk hy236
                        clear hy236
                        obtain ⟨y239, hy239⟩ : ∃ y_ : List Bool, y_ = (x7_1.set (x23_1 : Int).toNat true) := ⟨_, rfl⟩
                        replace H : (caulkref12_Take.l0 k1 a1 y239 y236 (y231.length : Int) (wrap64 (x23_1 + 1))) = some (r1, r2, r3) := by first | (rw [hy239]; with_reducible exact H) | (have H2_ := (Option.bind_some _ _).symm.trans H; rw [hy239]; with_reducible exact H2_) | (have H2_ := (Option.bind_some _ _).symm.trans H; with_reducible exact H2_) | with_reducible exact H | (rw [hy239]; exact H) | exact H
                        have Ny239 := Aside0.mk hy239
                        clear hy239
                        have H' := Aside0.mk H
                        clear H
                        have p235 : 0 ≤ (x23_1 : Int) := of_decide_eq_true (by first | (with_reducible assumption) | assumption)
                        have q235 : x23_1 < (x7_1.length : Int) := of_decide_eq_true (by first | (with_reducible assumption) | assumption)
                        obtain ⟨ad235, e235, hx235_0⟩ := Kd.at_bool (Kd.R_reads' HO_7.out).2.2 x23_1 p235 q235
                        (try rw [← Nbq22.out] at hx235_0)
                        cases e235
                        replace p235 := eq_true p235
                        replace q235 := eq_true q235
                        obtain ⟨Ao27, co27, eo27⟩ := Kd.R_slice HO_8.out
                        subst eo27
                        go_wp2_with (first | ((with_reducible refine gate_builtin (b := .append) (xs := #[.tmp 37, .tmp 39]) rfl ?_); (try (refine gate_guard (by rfl) ?_; dsimp only)); at_builtin; refine Kd.R_append (Kd.int .i64) (w0 := w) w.heap.size rfl (.tmp 37) (.tmp 39) 37 3 (.int .i64 0) 8 rfl Try.underlying37 info3 rfl (by decide) (by omega) (.slice Ao27 x8_1.length co27) x8_1 x23_1 [.int .i64 x23_1] (fun _ => True) (fun _ => False) rfl rfl ?aP (fun _ hk => hk.elim) ?aF ?aO ?aB ?aS ?aL ?_; (case aP => exact rfl); (case aB => exact (by repeat (first | (with_reducible first | exact HB.out | apply below_alloc | apply pw_below_drewN | apply below_drew1) | exact HB.out))); (case aF => exact (fun _ _ => trivial)); (case aO => exact (by (with_reducible repeat (first | apply Kd.R_alloc | apply Kd.R_drewN | apply Kd.R_drew)); exact HO_8.out)); (case aS => exact (below_size (by repeat (first | (with_reducible first | exact HB.out | apply below_alloc | apply pw_below_drewN | apply below_drew1) | exact HB.out)))); (case aL => have := LMc25.out; omega); intro v237 w28 ho hb hg hat; rw [← Ny236.out] at ho; have n0_ := Aside0.mk (Kd.R_over' (by (with_reducible repeat (first | apply Kd.R_alloc | apply Kd.R_drewN | apply Kd.R_drew)); exact HO_7.out) (Kd.R_typed (by (with_reducible repeat (first | apply Kd.R_alloc | apply Kd.R_drewN | apply Kd.R_drew)); exact HO_8.out)) (by decide) hg); have n1_ := Aside0.mk (hb); have n2_ := Aside0.mk (ho); clear HO_7; clear HB; clear HO_8; have HO_7 := n0_; have HB := n1_; have HO238 := n2_; clear n0_ n1_ n2_; clear ho hb hg hat; have p26 : 0 ≤ (x23_1 : Int) := of_decide_eq_true (by first | (with_reducible assumption) | assumption); have q26 : (x23_1 : Int) < ((x7_1.length : Int) : Int) := of_decide_eq_true (by first | (with_reducible assumption) | assumption); obtain ⟨go26, co26, eo26, gb26, gl26, cl26, HG26⟩ := Kd.R_form HO_7.out (by omega); (first | cases eo26 | (injection eo26 with ea_ en_ ec_; (first | subst ea_ | (injection ea_ with ea_; subst ea_)); subst ec_; clear en_)); have GB26 := Aside0.mk gb26; have GG26 := Aside0.mk HG26; clear gb26 gl26 HG26; (first | simp only [add_plain] at hx235_0 | skip); obtain ⟨hx26_0, hf26_0⟩ := Kd.R_celln false HO_7.out (x23_1 : Int) p26 q26; replace p26 := eq_true p26; replace q26 := eq_true q26; obtain ⟨hy29_, hz29_⟩ := Kd.R_celln false HO_7.out (x23_1 : Int) (of_decide_eq_true (by first | (with_reducible assumption) | assumption)) (of_decide_eq_true (by first | (with_reducible assumption) | assumption)); have HP29 := Kd.R_putg HO_7.out (x23_1 : Int) true) | ((with_reducible refine gate_store (t := 4) (p := 43) rfl ?_); refine store_event (t := 4) (p := 43) (v := ?vo_w30) (w1 := (w28.setCell ⟨go26, (x23_1 : Int).toNat, none⟩ (.bool true))) ?hg ?ho ?hn ?hr ?_; (case ho => rfl); (case hg => rfl); (case hn => rfl); (case hr => first | (go_simp; done) | (go_simp; rfl)); intro w30 hw; have hg : w28.grownBy w30 (some go26) := (by rw [hw]; exact HP29.2); have hp_ : Kd.R Kd.bool 4 w30 w.heap.size (fun _ => True) (.slice (some ⟨go26, 0, none⟩) x7_1.length co18) y239 := (by rw [hw, Ny239.out]; exact HP29.1); clear HP29; have n0_ := Aside0.mk (hp_); have n1_ := Aside0.mk (Kd.R_over' (v := (.slice (some ⟨go26, 0, none⟩) x7_1.length co18)) (by (with_reducible repeat (first | apply Kd.R_alloc | apply Kd.R_drewN | apply Kd.R_drew)); exact HO238.out) (Kd.R_typed HO_7.out) (by decide) hg); have n2_ := Aside0.mk ((by rw [hw]; exact below_set (HB.out) GB26.out : Below w.heap.size w w30)); clear HO_7; clear HO238; clear HB; have HO_7 := n0_; have HO238 := n1_; have HB := n2_; clear n0_ n1_ n2_; clear hg hw hp_))
                        (try simp only [← hl7_1])
                        go_roundg k1
                        case measure => have := HK1.out; omega
                        case rel => exact ⟨(y239), (y236), (wrap64 (x23_1 + 1)), (by first | rfl | (simp; done) | (simp [*]; done)), H', ⟨by have := HK1.out; omega⟩, ⟨by (try simp only [hl7_1]); (with_reducible repeat (first | apply Kd.R_alloc | apply Kd.R_drewN | apply Kd.R_drew)); exact HO_7.out⟩, ⟨by (try simp only [hl7_1]); (with_reducible repeat (first | apply Kd.R_alloc | apply Kd.R_drewN | apply Kd.R_drew)); exact HO238.out⟩, ⟨by repeat (first | (with_reducible first | exact HB.out | apply below_alloc | apply pw_below_drewN | apply below_drew1) | exact HB.out)⟩⟩
                      · rw [if_neg c25] at H
                        exact absurd H (by simp)
                    · rw [if_neg c24] at H
                      have c24b0 : decide ((x8_1.length : Int) < a1) = false := decide_eq_false c24
                      clear c24
                      have H' := Aside0.mk H
                      clear H
                      have p235 : 0 ≤ (x23_1 : Int) := of_decide_eq_true (by first | (with_reducible assumption) | assumption)
                      have q235 : x23_1 < (x7_1.length : Int) := of_decide_eq_true (by first | (with_reducible assumption) | assumption)
                      obtain ⟨ad235, e235, hx235_0⟩ := Kd.at_bool (Kd.R_reads' HO_7.out).2.2 x23_1 p235 q235
                      (try rw [← Nbq22.out] at hx235_0)
                      cases e235
                      replace p235 := eq_true p235
                      replace q235 := eq_true q235
                      obtain ⟨Ao31, co31, eo31⟩ := Kd.R_slice HO_8.out
                      subst eo31
                      go_wp2
                      (try simp only [← hl7_1])
                      go_roundg k1
                      case measure => have := HK1.out; omega
                      case rel => exact ⟨(x7_1), (x8_1), (wrap64 (x23_1 + 1)), (by first | rfl | (simp; done) | (simp [*]; done)), H', ⟨by have := HK1.out; omega⟩, ⟨by (try simp only [hl7_1]); (with_reducible repeat (first | apply Kd.R_alloc | apply Kd.R_drewN | apply Kd.R_drew)); exact HO_7.out⟩, ⟨by (try simp only [hl7_1]); (with_reducible repeat (first | apply Kd.R_alloc | apply Kd.R_drewN | apply Kd.R_drew)); exact HO_8.out⟩, ⟨by repeat (first | (with_reducible first | exact HB.out | apply below_alloc | apply pw_below_drewN | apply below_drew1) | exact HB.out)⟩⟩
                · rw [if_neg c21] at H
                  exact absurd H (by simp)
              · rw [if_neg c20] at H
                exact absurd H (by simp)
            · rw [if_neg c19] at H
              have c19b0 : decide (x23_1 < (y231.length : Int)) = false := decide_eq_false c19
              have c19b9 : decide (x23_1 < (x7_1.length : Int)) = false := by rw [← hl7_1]; exact c19b0
              clear c19
              simp only [Option.some.injEq, Prod.mk.injEq] at H
              obtain ⟨rfl, rfl, rfl⟩ := H
              go_wp2
              go_ret3
              exact ⟨_, _, by first | rfl | (simp [errW_none, errW_some] <;> rfl) | (simp [*, errW_none, errW_some] <;> rfl), by (with_reducible repeat (first | apply Kd.R_alloc | apply Kd.R_drewN | apply Kd.R_drew)); exact HO_7.out, by (with_reducible repeat (first | apply Kd.R_alloc | apply Kd.R_drewN | apply Kd.R_drew)); exact HO_8.out, by repeat (first | (with_reducible first | exact HB.out | apply below_alloc | apply pw_below_drewN | apply below_drew1) | exact HB.out)⟩
  · rw [if_neg c3] at H
    exact absurd H (by simp)

/-! ### caulkref12_New: function 34 -/
def caulkref12_New.f (a0 : Int) : Option (List Bool × Int) := if a0 < 4 then (some (([] : List Bool), 1)) else (if a0 > 4096 then (some (([] : List Bool), 1)) else (if 0 ≤ a0 then (if (a0 : Int).toNat ≤ 281474976710656 then ((some (List.replicate (a0 : Int).toNat false : List Bool)).bind fun y240 => (if 0 < (y240.length : Int) then (if 1 < (y240.length : Int) then (some (((y240.set (0 : Int).toNat true).set (1 : Int).toNat true), 0)) else (none)) else (none))) else (none)) else (none)))
set_option maxHeartbeats 8000000 in
set_option maxRecDepth 100000 in
theorem caulkref12_New.calls (a0 : Int) (r1 : List Bool) (r2 : Int) (w : World) (h : caulkref12_New.f a0 = some (r1, r2)) :
    Calls Try.prog 34 #[.int .i64 a0] w fun e w' => ∃ v0_ : Value, e = .returned (.tuple #[v0_, .int .i64 r2]) ∧ Kd.R Kd.bool 4 w' w.heap.size (fun _ => True) v0_ r1 ∧ Below w.heap.size w w' := by
  have HB := Aside0.mk (Below.refl w.heap.size w)
  have H : (if a0 < 4 then (some (([] : List Bool), 1)) else (if a0 > 4096 then (some (([] : List Bool), 1)) else (if 0 ≤ a0 then (if (a0 : Int).toNat ≤ 281474976710656 then ((some (List.replicate (a0 : Int).toNat false : List Bool)).bind fun y240 => (if 0 < (y240.length : Int) then (if 1 < (y240.length : Int) then (some (((y240.set (0 : Int).toNat true).set (1 : Int).toNat true), 0)) else (none)) else (none))) else (none)) else (none)))) = some (r1, r2) := h
  clear h
  by_cases c2 : a0 < 4
  · rw [if_pos c2] at H
    have c2b0 : decide (a0 < 4) = true := decide_eq_true c2
    clear c2
    simp only [Option.some.injEq, Prod.mk.injEq] at H
    obtain ⟨rfl, rfl⟩ := H
    go_enter Try.func34, Try.ntmps34
    go_wp2
    go_ret2
    exact ⟨_, by first | rfl | (simp [errW_none, errW_some] <;> rfl) | (simp [*, errW_none, errW_some] <;> rfl), by first | exact Kd.R_nil _ _ _ _ _ | exact Kd.N_nil _ _ _ _ _ | exact Kd.V_nil _ _ _ _ _ | exact Kd.Q_nil _ _ _ _ _ | exact Kd.S_nil _ _ _ _ _, by repeat (first | (with_reducible first | exact HB.out | apply below_alloc | apply pw_below_drewN | apply below_drew1) | exact HB.out)⟩
  · rw [if_neg c2] at H
    have c2b0 : decide (a0 < 4) = false := decide_eq_false c2
    clear c2
    by_cases c3 : a0 > 4096
    · rw [if_pos c3] at H
      have c3b0 : decide (4096 < a0) = true := decide_eq_true c3
      clear c3
      simp only [Option.some.injEq, Prod.mk.injEq] at H
      obtain ⟨rfl, rfl⟩ := H
      go_enter Try.func34, Try.ntmps34
      go_wp2
      go_ret2
      exact ⟨_, by first | rfl | (simp [errW_none, errW_some] <;> rfl) | (simp [*, errW_none, errW_some] <;> rfl), by first | exact Kd.R_nil _ _ _ _ _ | exact Kd.N_nil _ _ _ _ _ | exact Kd.V_nil _ _ _ _ _ | exact Kd.Q_nil _ _ _ _ _ | exact Kd.S_nil _ _ _ _ _, by repeat (first | (with_reducible first | exact HB.out | apply below_alloc | apply pw_below_drewN | apply below_drew1) | exact HB.out)⟩
    · rw [if_neg c3] at H
      have c3b0 : decide (4096 < a0) = false := decide_eq_false c3
      clear c3
      by_cases c4 : 0 ≤ a0
      · rw [if_pos c4] at H
        have c4b0 := eq_true c4
        have c4b1 : decide (0 ≤ a0) = true := decide_eq_true c4
        clear c4
        by_cases c5 : (a0 : Int).toNat ≤ 281474976710656
        · rw [if_pos c5] at H
          have c5b0 := eq_true c5
          have c5b1 : decide ((a0 : Int).toNat ≤ 281474976710656) = true := decide_eq_true c5
          clear c5
          obtain ⟨y240, hy240⟩ : ∃ y_ : List Bool, y_ = (List.replicate (a0 : Int).toNat false) := ⟨_, rfl⟩
          replace H : (if 0 < (y240.length : Int) then (if 1 < (y240.length : Int) then (some (((y240.set (0 : Int).toNat true).set (1 : Int).toNat true), 0)) else (none)) else (none)) = some (r1, r2) := by first | (rw [hy240]; with_reducible exact H) | (have H2_ := (Option.bind_some _ _).symm.trans H; rw [hy240]; with_reducible exact H2_) | (have H2_ := (Option.bind_some _ _).symm.trans H; with_reducible exact H2_) | with_reducible exact H | (rw [hy240]; exact H) | exact H
          have Ny240 := Aside0.mk hy240
          clear hy240
          by_cases c6 : 0 < (y240.length : Int)
          · rw [if_pos c6] at H
            have c6b0 : decide (0 < (y240.length : Int)) = true := decide_eq_true c6
            have c6b1 : decide (0 < y240.length) = true := decide_eq_true (by omega)
            clear c6
            obtain ⟨y243, hy243⟩ : ∃ y_ : List Bool, y_ = (y240.set (0 : Int).toNat true) := ⟨_, rfl⟩
            replace H : (if 1 < (y240.length : Int) then (some ((y243.set (1 : Int).toNat true), 0)) else (none)) = some (r1, r2) := by first | (rw [hy243]; with_reducible exact H) | (have H2_ := (Option.bind_some _ _).symm.trans H; rw [hy243]; with_reducible exact H2_) | (have H2_ := (Option.bind_some _ _).symm.trans H; with_reducible exact H2_) | with_reducible exact H | (rw [hy243]; exact H) | exact H
            have Ny243 := Aside0.mk hy243
            clear hy243
            by_cases c8 : 1 < (y240.length : Int)
            · rw [if_pos c8] at H
              have c8b0 : decide (1 < (y240.length : Int)) = true := decide_eq_true c8
              have c8b1 : decide (1 < y240.length) = true := decide_eq_true (by omega)
              clear c8
              obtain ⟨y244, hy244⟩ : ∃ y_ : List Bool, y_ = (y243.set (1 : Int).toNat true) := ⟨_, rfl⟩
              replace H : (some (y244, 0)) = some (r1, r2) := by first | (rw [hy244]; with_reducible exact H) | (have H2_ := (Option.bind_some _ _).symm.trans H; rw [hy244]; with_reducible exact H2_) | (have H2_ := (Option.bind_some _ _).symm.trans H; with_reducible exact H2_) | with_reducible exact H | (rw [hy244]; exact H) | exact H
              have Ny244 := Aside0.mk hy244
              clear hy244
              simp only [Option.some.injEq, Prod.mk.injEq] at H
              obtain ⟨rfl, rfl⟩ := H
              go_enter Try.func34, Try.ntmps34
              go_wp2_with (first | ((with_reducible refine gate_dst (N := 12) rfl ?_); refine Kd.R_make Kd.bool _ 4 rfl (N := 12) rfl 45 _ _ rfl a0 rfl rfl Try.underlying45 (.bool false) 1 info4 rfl (by decide) (by omega) false (ok := fun _ => True) (okp := fun _ => True) rfl (fun _ hk => hk) trivial (of_decide_eq_true (by first | (with_reducible assumption) | assumption)) (Nat.le_trans (Nat.mul_le_mul_right _ (of_decide_eq_true (by first | (with_reducible assumption) | assumption) : a0.toNat ≤ 281474976710656)) (by omega)) (Below.refl _ _) (Nat.le_refl _) ?_; intro v241 w10 ho11 hb hg_ hnew_; clear hg_ hnew_; (first | rw [← Ny240.out] at ho11 | (simp only [Int.reduceToNat] at ho11; rw [← Ny240.out] at ho11)); have n0_ := Aside0.mk (Kd.R_lower ho11 (below_size (by repeat (first | (with_reducible first | exact HB.out | apply below_alloc | apply pw_below_drewN | apply below_drew1) | exact HB.out)))); have n1_ := Aside0.mk (below_step (by repeat (first | (with_reducible first | exact HB.out | apply below_alloc | apply pw_below_drewN | apply below_drew1) | exact HB.out)) hb); clear HB; have HO242 := n0_; have HB := n1_; clear n0_ n1_; clear hb ho11; have p7 : 0 ≤ (0 : Int) := (by omega); have q7 : (0 : Int) < ((y240.length : Int) : Int) := of_decide_eq_true (by first | (with_reducible assumption) | assumption); have qi7 : (0 < y240.length) = True := eq_true (by omega); obtain ⟨go7, co7, eo7, gb7, gl7, cl7, HG7⟩ := Kd.R_form HO242.out (by omega); (first | cases eo7 | (injection eo7 with ea_ en_ ec_; (first | subst ea_ | (injection ea_ with ea_; subst ea_)); subst ec_; clear en_)); have GB7 := Aside0.mk gb7; have GG7 := Aside0.mk HG7; clear gb7 gl7 HG7; obtain ⟨hx7_0, hf7_0⟩ := Kd.R_celln false HO242.out (0 : Int) p7 q7; (try rw [show ((0 : Int)).toNat = 0 from rfl] at hx7_0); (try simp only [Nat.reduceMul, Nat.zero_mul, Nat.zero_add, Nat.reduceAdd] at hx7_0); (try rw [show ((0 : Int)).toNat = 0 from rfl] at hf7_0); (try simp only [Nat.reduceMul, Nat.zero_mul, Nat.zero_add, Nat.reduceAdd] at hf7_0); replace p7 := eq_true p7; replace q7 := eq_true q7; obtain ⟨hy12_, hz12_⟩ := Kd.R_celln false HO242.out (0 : Int) (by omega) (of_decide_eq_true (by first | (with_reducible assumption) | assumption)); (try simp only [Int.reduceToNat, Int.toNat_zero, Int.toNat_ofNat, Nat.reduceMul, Nat.zero_mul, Nat.zero_add] at hy12_ hz12_); (try rw [show ((0 : Int)).toNat = 0 from rfl] at hy12_); (try rw [show ((0 : Int)).toNat = 0 from rfl] at hz12_); have HP12 := Kd.R_putg HO242.out (0 : Int) true) | ((with_reducible refine gate_store (t := 4) (p := 15) rfl ?_); refine store_event (t := 4) (p := 15) (v := ?vo_w13) (w1 := (w10.setCell ⟨go7, (0 : Int).toNat, none⟩ (.bool true))) ?hg ?ho ?hn ?hr ?_; (case ho => rfl); (case hg => rfl); (case hn => rfl); (case hr => first | (go_simp; done) | (go_simp; rfl)); intro w13 hw; have hg : w10.grownBy w13 (some go7) := (by rw [hw]; exact HP12.2); have hp_ : Kd.R Kd.bool 4 w13 w.heap.size (fun _ => True) (.slice (some ⟨go7, 0, none⟩) y240.length co7) y243 := (by rw [hw, Ny243.out]; exact HP12.1); clear HP12; have n0_ := Aside0.mk (hp_); have n1_ := Aside0.mk ((by rw [hw]; exact below_set (HB.out) GB7.out : Below w.heap.size w w13)); clear HO242; clear HB; have HO242 := n0_; have HB := n1_; clear n0_ n1_; clear hg hw hp_; have p9 : 0 ≤ (1 : Int) := (by omega); have q9 : (1 : Int) < ((y240.length : Int) : Int) := of_decide_eq_true (by first | (with_reducible assumption) | assumption); have qi9 : (1 < y240.length) = True := eq_true (by omega); obtain ⟨hx9_0, hf9_0⟩ := Kd.R_celln false HO242.out (1 : Int) p9 q9; (try rw [show ((1 : Int)).toNat = 1 from rfl] at hx9_0); (try simp only [Nat.reduceMul, Nat.zero_mul, Nat.zero_add, Nat.reduceAdd] at hx9_0); (try rw [show ((1 : Int)).toNat = 1 from rfl] at hf9_0); (try simp only [Nat.reduceMul, Nat.zero_mul, Nat.zero_add, Nat.reduceAdd] at hf9_0); replace p9 := eq_true p9; replace q9 := eq_true q9; obtain ⟨hy14_, hz14_⟩ := Kd.R_celln false HO242.out (1 : Int) (by omega) (of_decide_eq_true (by first | (with_reducible assumption) | assumption)); (try simp only [Int.reduceToNat, Int.toNat_zero, Int.toNat_ofNat, Nat.reduceMul, Nat.zero_mul, Nat.zero_add] at hy14_ hz14_); (try rw [show ((1 : Int)).toNat = 1 from rfl] at hy14_); (try rw [show ((1 : Int)).toNat = 1 from rfl] at hz14_); have HP14 := Kd.R_putg HO242.out (1 : Int) true) | ((with_reducible refine gate_store (t := 4) (p := 16) rfl ?_); refine store_event (t := 4) (p := 16) (v := ?vo_w15) (w1 := (w13.setCell ⟨go7, (1 : Int).toNat, none⟩ (.bool true))) ?hg ?ho ?hn ?hr ?_; (case ho => rfl); (case hg => rfl); (case hn => rfl); (case hr => first | (go_simp; done) | (go_simp; rfl)); intro w15 hw; have hg : w13.grownBy w15 (some go7) := (by rw [hw]; exact HP14.2); have hp_ : Kd.R Kd.bool 4 w15 w.heap.size (fun _ => True) (.slice (some ⟨go7, 0, none⟩) y240.length co7) y244 := (by rw [hw, Ny244.out]; exact HP14.1); clear HP14; have n0_ := Aside0.mk (hp_); have n1_ := Aside0.mk ((by rw [hw]; exact below_set (HB.out) GB7.out : Below w.heap.size w w15)); clear HO242; clear HB; have HO242 := n0_; have HB := n1_; clear n0_ n1_; clear hg hw hp_))
              go_ret2
              exact ⟨_, by first | rfl | (simp [errW_none, errW_some] <;> rfl) | (simp [*, errW_none, errW_some] <;> rfl), by (with_reducible repeat (first | apply Kd.R_alloc | apply Kd.R_drewN | apply Kd.R_drew)); exact HO242.out, by repeat (first | (with_reducible first | exact HB.out | apply below_alloc | apply pw_below_drewN | apply below_drew1) | exact HB.out)⟩
            · rw [if_neg c8] at H
              exact absurd H (by simp)
          · rw [if_neg c6] at H
            exact absurd H (by simp)
        · rw [if_neg c5] at H
          exact absurd H (by simp)
      · rw [if_neg c4] at H
        exact absurd H (by simp)

/-! ### caulklaw12_SpaceTells: function 6 -/
def caulklaw12_SpaceTells.j0 : Nat → List Bool → List Int → Int → Int → Bool → Option (Bool)
  | 0, _, _, _, _, _ => none
  | k + 1, x0, x1, x2, x3, x42 => if x42 = true then ((caulklaw12_lives.f k).bind fun t245 => (some t245)) else ((space_Mark.f k x0 x1).bind fun bt246 => ((caulkref12_Mark.f k x0 x1).bind fun bt250 => ((space_Give.f k x0 x1).bind fun bt254 => ((caulkref12_Give.f k x0 x1).bind fun bt258 => ((space_Take.f x0 x2).bind fun bt262 => ((caulkref12_Take.f k x0 x2).bind fun bt269 => ((space_New.f k x3).bind fun bt276 => ((caulkref12_New.f x3).bind fun bt280 => ((caulklaw12_lives.f k).bind fun t284 => (if t284 = true then ((caulkref12_Same.f k bt246.1 bt250.1).bind fun t285 => (if t285 = true then (if bt246.2 = bt250.2 then ((caulkref12_Same.f k bt254.1 bt258.1).bind fun t286 => (if t286 = true then (if bt254.2 = bt258.2 then ((caulkref12_Same.f k bt262.1 bt269.1).bind fun t287 => (if t287 = true then ((caulkref05_Same.f k bt262.2.1 bt269.2.1).bind fun t288 => (if t288 = true then (if bt262.2.2 = bt269.2.2 then ((caulkref12_Same.f k bt276.1 bt280.1).bind fun t289 => (if t289 = true then (if bt276.2 = bt280.2 then ((space_Free.f x0).bind fun t290 => ((caulkref12_Free.f k x0).bind fun t291 => (if t290 = t291 then ((space_Used.f x0).bind fun t292 => ((caulkref12_Used.f k x0).bind fun t295 => ((caulkref05_Same.f k t292 t295).bind fun t298 => (some t298)))) else (none)))) else (none)) else (none))) else (none)) else (none))) else (none))) else (none)) else (none))) else (none)) else (none))) else (none)))))))))))
def caulklaw12_SpaceTells.f (k : Nat) (l0 : List Bool) (l1 : List Int) (a2 : Int) (a3 : Int) : Option (Bool) := if a3 > 300 then (if a3 ≤ 4096 then (caulklaw12_SpaceTells.j0 k l0 l1 a2 a3 true) else (if (l0.length : Int) > 5000 then (caulklaw12_SpaceTells.j0 k l0 l1 a2 a3 true) else (caulklaw12_SpaceTells.j0 k l0 l1 a2 a3 (decide ((l1.length : Int) > 300))))) else (if (l0.length : Int) > 5000 then (caulklaw12_SpaceTells.j0 k l0 l1 a2 a3 true) else (caulklaw12_SpaceTells.j0 k l0 l1 a2 a3 (decide ((l1.length : Int) > 300))))
theorem caulklaw12_SpaceTells.mono_l : ∀ k, (∀ y0 y1 y2 y3 y4, LeO (caulklaw12_SpaceTells.j0 k y0 y1 y2 y3 y4) (caulklaw12_SpaceTells.j0 (k + 1) y0 y1 y2 y3 y4))
  | 0 => fun _ _ _ _ _ r h => by simp [caulklaw12_SpaceTells.j0] at h
  | k + 1 => by
    have ih0 := caulklaw12_SpaceTells.mono_l k
    · intro y0 y1 y2 y3 y4
      unfold caulklaw12_SpaceTells.j0
      repeat' first
      | (with_reducible exact ih0 _ _ _ _ _)
      | (with_reducible exact caulklaw12_lives.mono _)
      | (with_reducible exact caulkref05_Same.mono _ _ _)
      | (with_reducible exact caulkref12_Free.mono _ _)
      | (with_reducible exact caulkref12_Give.mono _ _ _)
      | (with_reducible exact caulkref12_Mark.mono _ _ _)
      | (with_reducible exact caulkref12_Same.mono _ _ _)
      | (with_reducible exact caulkref12_Take.mono _ _ _)
      | (with_reducible exact caulkref12_Used.mono _ _)
      | (with_reducible exact space_Give.mono _ _ _)
      | (with_reducible exact space_Mark.mono _ _ _)
      | (with_reducible exact space_New.mono _ _)
      | (with_reducible exact LeO.refl _)
      | (with_reducible exact LeO.none _)
      | (with_reducible refine LeO.ite ?_ ?_)
      | (with_reducible refine LeO.bind ?_ (fun _ => ?_))
      | exact ih0 _ _ _ _ _
      | exact caulklaw12_lives.mono _
      | exact caulkref05_Same.mono _ _ _
      | exact caulkref12_Free.mono _ _
      | exact caulkref12_Give.mono _ _ _
      | exact caulkref12_Mark.mono _ _ _
      | exact caulkref12_Same.mono _ _ _
      | exact caulkref12_Take.mono _ _ _
      | exact caulkref12_Used.mono _ _
      | exact space_Give.mono _ _ _
      | exact space_Mark.mono _ _ _
      | exact space_New.mono _ _
      | exact LeO.none _
      | refine LeO.ite ?_ ?_
      | refine LeO.bind ?_ (fun _ => ?_)
theorem caulklaw12_SpaceTells.mono : ∀ a0 a1 a2 a3 k, LeO (caulklaw12_SpaceTells.f k a0 a1 a2 a3) (caulklaw12_SpaceTells.f (k + 1) a0 a1 a2 a3) := by
  intro a0 a1 a2 a3 k
  have ih0 := caulklaw12_SpaceTells.mono_l k
  unfold caulklaw12_SpaceTells.f
  repeat' first
      | (with_reducible exact ih0 _ _ _ _ _)
      | (with_reducible exact caulklaw12_lives.mono _)
      | (with_reducible exact caulkref05_Same.mono _ _ _)
      | (with_reducible exact caulkref12_Free.mono _ _)
      | (with_reducible exact caulkref12_Give.mono _ _ _)
      | (with_reducible exact caulkref12_Mark.mono _ _ _)
      | (with_reducible exact caulkref12_Same.mono _ _ _)
      | (with_reducible exact caulkref12_Take.mono _ _ _)
      | (with_reducible exact caulkref12_Used.mono _ _)
      | (with_reducible exact space_Give.mono _ _ _)
      | (with_reducible exact space_Mark.mono _ _ _)
      | (with_reducible exact space_New.mono _ _)
      | (with_reducible exact LeO.refl _)
      | (with_reducible exact LeO.none _)
      | (with_reducible refine LeO.ite ?_ ?_)
      | (with_reducible refine LeO.bind ?_ (fun _ => ?_))
      | exact ih0 _ _ _ _ _
      | exact caulklaw12_lives.mono _
      | exact caulkref05_Same.mono _ _ _
      | exact caulkref12_Free.mono _ _
      | exact caulkref12_Give.mono _ _ _
      | exact caulkref12_Mark.mono _ _ _
      | exact caulkref12_Same.mono _ _ _
      | exact caulkref12_Take.mono _ _ _
      | exact caulkref12_Used.mono _ _
      | exact space_Give.mono _ _ _
      | exact space_Mark.mono _ _ _
      | exact space_New.mono _ _
      | exact LeO.none _
      | refine LeO.ite ?_ ?_
      | refine LeO.bind ?_ (fun _ => ?_)
set_option maxHeartbeats 8000000 in
set_option maxRecDepth 100000 in
theorem caulklaw12_SpaceTells.calls (k : Nat) (A0 : Option Addr) (c0 : Nat) (l0 : List Bool) (A1 : Option Addr) (c1 : Nat) (l1 : List Int) (a2 : Int) (a3 : Int) (r : Bool) (w : World) (hr0 : Kd.C Kd.bool w A0 l0.length l0) (hc0 : l0.length ≤ c0) (hr1 : Kd.C (Kd.int .i64) w A1 l1.length l1) (hc1 : l1.length ≤ c1) (h : caulklaw12_SpaceTells.f k l0 l1 a2 a3 = some r) :
    Calls Try.prog 6 #[.slice A0 l0.length c0, .slice A1 l1.length c1, .int .i64 a2, .int .i64 a3] w fun e w' => e = .returned (.bool r) ∧ Below w.heap.size w w' := by
  have HR0 := Aside0.mk hr0
  have HC0 := Aside0.mk hc0
  clear hr0 hc0
  have HR1 := Aside0.mk hr1
  have HC1 := Aside0.mk hc1
  clear hr1 hc1
  have HB := Aside0.mk (Below.refl w.heap.size w)
  have H : (if a3 > 300 then (if a3 ≤ 4096 then (caulklaw12_SpaceTells.j0 k l0 l1 a2 a3 true) else (if (l0.length : Int) > 5000 then (caulklaw12_SpaceTells.j0 k l0 l1 a2 a3 true) else (caulklaw12_SpaceTells.j0 k l0 l1 a2 a3 (decide ((l1.length : Int) > 300))))) else (if (l0.length : Int) > 5000 then (caulklaw12_SpaceTells.j0 k l0 l1 a2 a3 true) else (caulklaw12_SpaceTells.j0 k l0 l1 a2 a3 (decide ((l1.length : Int) > 300))))) = some r := h
  clear h
  have HC5 := Aside0.mk H
  clear H
  go_enter Try.func6, Try.ntmps6
  go_upto_region 1 with (fail)
  go_cut [42] (fun v42 wc => ∃ (kq : Nat) (x42_4 : Bool), v42 = .bool x42_4 ∧ Aside0 (caulklaw12_SpaceTells.j0 kq l0 l1 a2 a3 x42_4 = some r) ∧ Aside0 (kq ≤ k) ∧ Aside0 (Below w.heap.size w wc))
  case first =>
    have H := HC5.out
    clear HC5
    by_cases c6 : a3 > 300
    · rw [if_pos c6] at H
      have c6b0 : decide (300 < a3) = true := decide_eq_true c6
      clear c6
      (first | rw [c6b0] | (simp only [i64_w, i32_w]; rw [c6b0]) | skip)
      by_cases c7 : a3 ≤ 4096
      · rw [if_pos c7] at H
        have c7b0 : decide (a3 ≤ 4096) = true := decide_eq_true c7
        clear c7
        have H' := Aside0.mk H
        clear H
        go_wp2
        go_meet
        case rel => exact ⟨_, (true), (by first | rfl | (simp; done) | (simp [*]; done)), H', ⟨by first | omega | exact Nat.le_refl _⟩, ⟨by repeat (first | (with_reducible first | exact HB.out | apply below_alloc | apply pw_below_drewN | apply below_drew1) | exact HB.out)⟩⟩
      · rw [if_neg c7] at H
        have c7b0 : decide (a3 ≤ 4096) = false := decide_eq_false c7
        clear c7
        by_cases c8 : (l0.length : Int) > 5000
        · rw [if_pos c8] at H
          have c8b0 : decide (5000 < (l0.length : Int)) = true := decide_eq_true c8
          have c8b1 : decide (5000 < l0.length) = true := decide_eq_true (by omega)
          clear c8
          have H' := Aside0.mk H
          clear H
          go_wp2
          go_meet
          case rel => exact ⟨_, (true), (by first | rfl | (simp; done) | (simp [*]; done)), H', ⟨by first | omega | exact Nat.le_refl _⟩, ⟨by repeat (first | (with_reducible first | exact HB.out | apply below_alloc | apply pw_below_drewN | apply below_drew1) | exact HB.out)⟩⟩
        · rw [if_neg c8] at H
          have c8b0 : decide (5000 < (l0.length : Int)) = false := decide_eq_false c8
          have c8b1 : decide (5000 < l0.length) = false := decide_eq_false (by omega)
          clear c8
          have H' := Aside0.mk H
          clear H
          go_wp2
          go_meet
          case rel => exact ⟨_, (decide ((l1.length : Int) > 300)), (by first | rfl | (simp; done) | (simp [*]; done)), H', ⟨by first | omega | exact Nat.le_refl _⟩, ⟨by repeat (first | (with_reducible first | exact HB.out | apply below_alloc | apply pw_below_drewN | apply below_drew1) | exact HB.out)⟩⟩
    · rw [if_neg c6] at H
      have c6b0 : decide (300 < a3) = false := decide_eq_false c6
      clear c6
      (first | rw [c6b0] | (simp only [i64_w, i32_w]; rw [c6b0]) | skip)
      by_cases c9 : (l0.length : Int) > 5000
      · rw [if_pos c9] at H
        have c9b0 : decide (5000 < (l0.length : Int)) = true := decide_eq_true c9
        have c9b1 : decide (5000 < l0.length) = true := decide_eq_true (by omega)
        clear c9
        have H' := Aside0.mk H
        clear H
        go_wp2
        go_meet
        case rel => exact ⟨_, (true), (by first | rfl | (simp; done) | (simp [*]; done)), H', ⟨by first | omega | exact Nat.le_refl _⟩, ⟨by repeat (first | (with_reducible first | exact HB.out | apply below_alloc | apply pw_below_drewN | apply below_drew1) | exact HB.out)⟩⟩
      · rw [if_neg c9] at H
        have c9b0 : decide (5000 < (l0.length : Int)) = false := decide_eq_false c9
        have c9b1 : decide (5000 < l0.length) = false := decide_eq_false (by omega)
        clear c9
        have H' := Aside0.mk H
        clear H
        go_wp2
        go_meet
        case rel => exact ⟨_, (decide ((l1.length : Int) > 300)), (by first | rfl | (simp; done) | (simp [*]; done)), H', ⟨by first | omega | exact Nat.le_refl _⟩, ⟨by repeat (first | (with_reducible first | exact HB.out | apply below_alloc | apply pw_below_drewN | apply below_drew1) | exact HB.out)⟩⟩
  case rest =>
    clear HC5
    try clear c1
    try clear p2
    try clear c6
    try clear c6b0
    try clear c7
    try clear c7b0
    try clear c8
    try clear c8b0
    try clear c8b1
    try clear c9
    try clear c9b0
    try clear c9b1
    obtain ⟨kq, x42_4, rfl, HA, HJ4, HB⟩ := hcut
    cases kq with
    | zero => exact absurd HA.out (by simp [caulklaw12_SpaceTells.j0])
    | succ kj4 =>
      have H := HA.out
      clear HA
      simp only [caulklaw12_SpaceTells.j0] at H
      by_cases c10 : x42_4 = true
      · subst c10
        have H1 : ((caulklaw12_lives.f kj4).bind fun t245 => (some t245)) = some r := by rw [if_pos rfl] at H; exact H
        clear H
        have H := H1
        clear H1
        replace H := Option.bind_eq_some_iff.mp H
        obtain ⟨t245, A110, H⟩ := H
        replace H : (some t245) = some r := H
        have A11 := Aside0.mk A110
        clear A110
        obtain rfl := Option.some.inj H
        go_wp2_with (first | ((with_reducible refine gate_callee (f := 26) rfl ?_); refine goesL_ (some 43) rfl rfl Try.func26 (by kernel_rfl) rfl #[] rfl (by (try simp only [List.map_toArray, List.map_cons, List.map_nil]); first | done | rfl | (simp only [List.length_drop, List.length_take]; rfl)) ?_; (with_reducible refine (caulklaw12_lives.calls kj4  t245 _ A11.out).mono ?_); rintro e w12 ⟨rfl, hb⟩; refine ⟨_, rfl, ?_⟩; have n0_ := Aside0.mk (below_step (by repeat (first | (with_reducible first | exact HB.out | apply below_alloc | apply pw_below_drewN | apply below_drew1) | exact HB.out)) hb); clear HB; have HB := n0_; clear n0_; (try clear hb); (try clear hb2); (try clear hk); (try clear hi)))
        go_ret
        exact ⟨by first | rfl | (simp [errW_none, errW_some] <;> rfl) | (simp [*, errW_none, errW_some] <;> rfl), by repeat (first | (with_reducible first | exact HB.out | apply below_alloc | apply pw_below_drewN | apply below_drew1) | exact HB.out)⟩
      · replace c10 := Bool.eq_false_iff.mpr c10
        subst c10
        have H1 : ((space_Mark.f kj4 l0 l1).bind fun bt246 => ((caulkref12_Mark.f kj4 l0 l1).bind fun bt250 => ((space_Give.f kj4 l0 l1).bind fun bt254 => ((caulkref12_Give.f kj4 l0 l1).bind fun bt258 => ((space_Take.f l0 a2).bind fun bt262 => ((caulkref12_Take.f kj4 l0 a2).bind fun bt269 => ((space_New.f kj4 a3).bind fun bt276 => ((caulkref12_New.f a3).bind fun bt280 => ((caulklaw12_lives.f kj4).bind fun t284 => (if t284 = true then ((caulkref12_Same.f kj4 bt246.1 bt250.1).bind fun t285 => (if t285 = true then (if bt246.2 = bt250.2 then ((caulkref12_Same.f kj4 bt254.1 bt258.1).bind fun t286 => (if t286 = true then (if bt254.2 = bt258.2 then ((caulkref12_Same.f kj4 bt262.1 bt269.1).bind fun t287 => (if t287 = true then ((caulkref05_Same.f kj4 bt262.2.1 bt269.2.1).bind fun t288 => (if t288 = true then (if bt262.2.2 = bt269.2.2 then ((caulkref12_Same.f kj4 bt276.1 bt280.1).bind fun t289 => (if t289 = true then (if bt276.2 = bt280.2 then ((space_Free.f l0).bind fun t290 => ((caulkref12_Free.f kj4 l0).bind fun t291 => (if t290 = t291 then ((space_Used.f l0).bind fun t292 => ((caulkref12_Used.f kj4 l0).bind fun t295 => ((caulkref05_Same.f kj4 t292 t295).bind fun t298 => (some t298)))) else (none)))) else (none)) else (none))) else (none)) else (none))) else (none))) else (none)) else (none))) else (none)) else (none))) else (none))))))))))) = some r := by rw [if_neg (show ¬ (false = true) by decide)] at H; exact H
        clear H
        have H := H1
        clear H1
        replace H := Option.bind_eq_some_iff.mp H
        obtain ⟨⟨t246, t247⟩, A130, H⟩ := H
        replace H : ((caulkref12_Mark.f kj4 l0 l1).bind fun bt250 => ((space_Give.f kj4 l0 l1).bind fun bt254 => ((caulkref12_Give.f kj4 l0 l1).bind fun bt258 => ((space_Take.f l0 a2).bind fun bt262 => ((caulkref12_Take.f kj4 l0 a2).bind fun bt269 => ((space_New.f kj4 a3).bind fun bt276 => ((caulkref12_New.f a3).bind fun bt280 => ((caulklaw12_lives.f kj4).bind fun t284 => (if t284 = true then ((caulkref12_Same.f kj4 t246 bt250.1).bind fun t285 => (if t285 = true then (if t247 = bt250.2 then ((caulkref12_Same.f kj4 bt254.1 bt258.1).bind fun t286 => (if t286 = true then (if bt254.2 = bt258.2 then ((caulkref12_Same.f kj4 bt262.1 bt269.1).bind fun t287 => (if t287 = true then ((caulkref05_Same.f kj4 bt262.2.1 bt269.2.1).bind fun t288 => (if t288 = true then (if bt262.2.2 = bt269.2.2 then ((caulkref12_Same.f kj4 bt276.1 bt280.1).bind fun t289 => (if t289 = true then (if bt276.2 = bt280.2 then ((space_Free.f l0).bind fun t290 => ((caulkref12_Free.f kj4 l0).bind fun t291 => (if t290 = t291 then ((space_Used.f l0).bind fun t292 => ((caulkref12_Used.f kj4 l0).bind fun t295 => ((caulkref05_Same.f kj4 t292 t295).bind fun t298 => (some t298)))) else (none)))) else (none)) else (none))) else (none)) else (none))) else (none))) else (none)) else (none))) else (none)) else (none))) else (none)))))))))) = some r := H
        have A13 := Aside0.mk A130
        clear A130
        replace H := Option.bind_eq_some_iff.mp H
        obtain ⟨⟨t250, t251⟩, A140, H⟩ := H
        replace H : ((space_Give.f kj4 l0 l1).bind fun bt254 => ((caulkref12_Give.f kj4 l0 l1).bind fun bt258 => ((space_Take.f l0 a2).bind fun bt262 => ((caulkref12_Take.f kj4 l0 a2).bind fun bt269 => ((space_New.f kj4 a3).bind fun bt276 => ((caulkref12_New.f a3).bind fun bt280 => ((caulklaw12_lives.f kj4).bind fun t284 => (if t284 = true then ((caulkref12_Same.f kj4 t246 t250).bind fun t285 => (if t285 = true then (if t247 = t251 then ((caulkref12_Same.f kj4 bt254.1 bt258.1).bind fun t286 => (if t286 = true then (if bt254.2 = bt258.2 then ((caulkref12_Same.f kj4 bt262.1 bt269.1).bind fun t287 => (if t287 = true then ((caulkref05_Same.f kj4 bt262.2.1 bt269.2.1).bind fun t288 => (if t288 = true then (if bt262.2.2 = bt269.2.2 then ((caulkref12_Same.f kj4 bt276.1 bt280.1).bind fun t289 => (if t289 = true then (if bt276.2 = bt280.2 then ((space_Free.f l0).bind fun t290 => ((caulkref12_Free.f kj4 l0).bind fun t291 => (if t290 = t291 then ((space_Used.f l0).bind fun t292 => ((caulkref12_Used.f kj4 l0).bind fun t295 => ((caulkref05_Same.f kj4 t292 t295).bind fun t298 => (some t298)))) else (none)))) else (none)) else (none))) else (none)) else (none))) else (none))) else (none)) else (none))) else (none)) else (none))) else (none))))))))) = some r := H
        have A14 := Aside0.mk A140
        clear A140
        replace H := Option.bind_eq_some_iff.mp H
        obtain ⟨⟨t254, t255⟩, A150, H⟩ := H
        replace H : ((caulkref12_Give.f kj4 l0 l1).bind fun bt258 => ((space_Take.f l0 a2).bind fun bt262 => ((caulkref12_Take.f kj4 l0 a2).bind fun bt269 => ((space_New.f kj4 a3).bind fun bt276 => ((caulkref12_New.f a3).bind fun bt280 => ((caulklaw12_lives.f kj4).bind fun t284 => (if t284 = true then ((caulkref12_Same.f kj4 t246 t250).bind fun t285 => (if t285 = true then (if t247 = t251 then ((caulkref12_Same.f kj4 t254 bt258.1).bind fun t286 => (if t286 = true then (if t255 = bt258.2 then ((caulkref12_Same.f kj4 bt262.1 bt269.1).bind fun t287 => (if t287 = true then ((caulkref05_Same.f kj4 bt262.2.1 bt269.2.1).bind fun t288 => (if t288 = true then (if bt262.2.2 = bt269.2.2 then ((caulkref12_Same.f kj4 bt276.1 bt280.1).bind fun t289 => (if t289 = true then (if bt276.2 = bt280.2 then ((space_Free.f l0).bind fun t290 => ((caulkref12_Free.f kj4 l0).bind fun t291 => (if t290 = t291 then ((space_Used.f l0).bind fun t292 => ((caulkref12_Used.f kj4 l0).bind fun t295 => ((caulkref05_Same.f kj4 t292 t295).bind fun t298 => (some t298)))) else (none)))) else (none)) else (none))) else (none)) else (none))) else (none))) else (none)) else (none))) else (none)) else (none))) else (none)))))))) = some r := H
        have A15 := Aside0.mk A150
        clear A150
        replace H := Option.bind_eq_some_iff.mp H
        obtain ⟨⟨t258, t259⟩, A160, H⟩ := H
        replace H : ((space_Take.f l0 a2).bind fun bt262 => ((caulkref12_Take.f kj4 l0 a2).bind fun bt269 => ((space_New.f kj4 a3).bind fun bt276 => ((caulkref12_New.f a3).bind fun bt280 => ((caulklaw12_lives.f kj4).bind fun t284 => (if t284 = true then ((caulkref12_Same.f kj4 t246 t250).bind fun t285 => (if t285 = true then (if t247 = t251 then ((caulkref12_Same.f kj4 t254 t258).bind fun t286 => (if t286 = true then (if t255 = t259 then ((caulkref12_Same.f kj4 bt262.1 bt269.1).bind fun t287 => (if t287 = true then ((caulkref05_Same.f kj4 bt262.2.1 bt269.2.1).bind fun t288 => (if t288 = true then (if bt262.2.2 = bt269.2.2 then ((caulkref12_Same.f kj4 bt276.1 bt280.1).bind fun t289 => (if t289 = true then (if bt276.2 = bt280.2 then ((space_Free.f l0).bind fun t290 => ((caulkref12_Free.f kj4 l0).bind fun t291 => (if t290 = t291 then ((space_Used.f l0).bind fun t292 => ((caulkref12_Used.f kj4 l0).bind fun t295 => ((caulkref05_Same.f kj4 t292 t295).bind fun t298 => (some t298)))) else (none)))) else (none)) else (none))) else (none)) else (none))) else (none))) else (none)) else (none))) else (none)) else (none))) else (none))))))) = some r := H
        have A16 := Aside0.mk A160
        clear A160
        replace H := Option.bind_eq_some_iff.mp H
        obtain ⟨⟨t262, t263, t264⟩, A170, H⟩ := H
        replace H : ((caulkref12_Take.f kj4 l0 a2).bind fun bt269 => ((space_New.f kj4 a3).bind fun bt276 => ((caulkref12_New.f a3).bind fun bt280 => ((caulklaw12_lives.f kj4).bind fun t284 => (if t284 = true then ((caulkref12_Same.f kj4 t246 t250).bind fun t285 => (if t285 = true then (if t247 = t251 then ((caulkref12_Same.f kj4 t254 t258).bind fun t286 => (if t286 = true then (if t255 = t259 then ((caulkref12_Same.f kj4 t262 bt269.1).bind fun t287 => (if t287 = true then ((caulkref05_Same.f kj4 t263 bt269.2.1).bind fun t288 => (if t288 = true then (if t264 = bt269.2.2 then ((caulkref12_Same.f kj4 bt276.1 bt280.1).bind fun t289 => (if t289 = true then (if bt276.2 = bt280.2 then ((space_Free.f l0).bind fun t290 => ((caulkref12_Free.f kj4 l0).bind fun t291 => (if t290 = t291 then ((space_Used.f l0).bind fun t292 => ((caulkref12_Used.f kj4 l0).bind fun t295 => ((caulkref05_Same.f kj4 t292 t295).bind fun t298 => (some t298)))) else (none)))) else (none)) else (none))) else (none)) else (none))) else (none))) else (none)) else (none))) else (none)) else (none))) else (none)))))) = some r := H
        have A17 := Aside0.mk A170
        clear A170
        replace H := Option.bind_eq_some_iff.mp H
        obtain ⟨⟨t269, t270, t271⟩, A180, H⟩ := H
        replace H : ((space_New.f kj4 a3).bind fun bt276 => ((caulkref12_New.f a3).bind fun bt280 => ((caulklaw12_lives.f kj4).bind fun t284 => (if t284 = true then ((caulkref12_Same.f kj4 t246 t250).bind fun t285 => (if t285 = true then (if t247 = t251 then ((caulkref12_Same.f kj4 t254 t258).bind fun t286 => (if t286 = true then (if t255 = t259 then ((caulkref12_Same.f kj4 t262 t269).bind fun t287 => (if t287 = true then ((caulkref05_Same.f kj4 t263 t270).bind fun t288 => (if t288 = true then (if t264 = t271 then ((caulkref12_Same.f kj4 bt276.1 bt280.1).bind fun t289 => (if t289 = true then (if bt276.2 = bt280.2 then ((space_Free.f l0).bind fun t290 => ((caulkref12_Free.f kj4 l0).bind fun t291 => (if t290 = t291 then ((space_Used.f l0).bind fun t292 => ((caulkref12_Used.f kj4 l0).bind fun t295 => ((caulkref05_Same.f kj4 t292 t295).bind fun t298 => (some t298)))) else (none)))) else (none)) else (none))) else (none)) else (none))) else (none))) else (none)) else (none))) else (none)) else (none))) else (none))))) = some r := H
        have A18 := Aside0.mk A180
        clear A180
        replace H := Option.bind_eq_some_iff.mp H
        obtain ⟨⟨t276, t277⟩, A190, H⟩ := H
        replace H : ((caulkref12_New.f a3).bind fun bt280 => ((caulklaw12_lives.f kj4).bind fun t284 => (if t284 = true then ((caulkref12_Same.f kj4 t246 t250).bind fun t285 => (if t285 = true then (if t247 = t251 then ((caulkref12_Same.f kj4 t254 t258).bind fun t286 => (if t286 = true then (if t255 = t259 then ((caulkref12_Same.f kj4 t262 t269).bind fun t287 => (if t287 = true then ((caulkref05_Same.f kj4 t263 t270).bind fun t288 => (if t288 = true then (if t264 = t271 then ((caulkref12_Same.f kj4 t276 bt280.1).bind fun t289 => (if t289 = true then (if t277 = bt280.2 then ((space_Free.f l0).bind fun t290 => ((caulkref12_Free.f kj4 l0).bind fun t291 => (if t290 = t291 then ((space_Used.f l0).bind fun t292 => ((caulkref12_Used.f kj4 l0).bind fun t295 => ((caulkref05_Same.f kj4 t292 t295).bind fun t298 => (some t298)))) else (none)))) else (none)) else (none))) else (none)) else (none))) else (none))) else (none)) else (none))) else (none)) else (none))) else (none)))) = some r := H
        have A19 := Aside0.mk A190
        clear A190
        replace H := Option.bind_eq_some_iff.mp H
        obtain ⟨⟨t280, t281⟩, A200, H⟩ := H
        replace H : ((caulklaw12_lives.f kj4).bind fun t284 => (if t284 = true then ((caulkref12_Same.f kj4 t246 t250).bind fun t285 => (if t285 = true then (if t247 = t251 then ((caulkref12_Same.f kj4 t254 t258).bind fun t286 => (if t286 = true then (if t255 = t259 then ((caulkref12_Same.f kj4 t262 t269).bind fun t287 => (if t287 = true then ((caulkref05_Same.f kj4 t263 t270).bind fun t288 => (if t288 = true then (if t264 = t271 then ((caulkref12_Same.f kj4 t276 t280).bind fun t289 => (if t289 = true then (if t277 = t281 then ((space_Free.f l0).bind fun t290 => ((caulkref12_Free.f kj4 l0).bind fun t291 => (if t290 = t291 then ((space_Used.f l0).bind fun t292 => ((caulkref12_Used.f kj4 l0).bind fun t295 => ((caulkref05_Same.f kj4 t292 t295).bind fun t298 => (some t298)))) else (none)))) else (none)) else (none))) else (none)) else (none))) else (none))) else (none)) else (none))) else (none)) else (none))) else (none))) = some r := H
        have A20 := Aside0.mk A200
        clear A200
        replace H := Option.bind_eq_some_iff.mp H
        obtain ⟨t284, A210, H⟩ := H
        replace H : (if t284 = true then ((caulkref12_Same.f kj4 t246 t250).bind fun t285 => (if t285 = true then (if t247 = t251 then ((caulkref12_Same.f kj4 t254 t258).bind fun t286 => (if t286 = true then (if t255 = t259 then ((caulkref12_Same.f kj4 t262 t269).bind fun t287 => (if t287 = true then ((caulkref05_Same.f kj4 t263 t270).bind fun t288 => (if t288 = true then (if t264 = t271 then ((caulkref12_Same.f kj4 t276 t280).bind fun t289 => (if t289 = true then (if t277 = t281 then ((space_Free.f l0).bind fun t290 => ((caulkref12_Free.f kj4 l0).bind fun t291 => (if t290 = t291 then ((space_Used.f l0).bind fun t292 => ((caulkref12_Used.f kj4 l0).bind fun t295 => ((caulkref05_Same.f kj4 t292 t295).bind fun t298 => (some t298)))) else (none)))) else (none)) else (none))) else (none)) else (none))) else (none))) else (none)) else (none))) else (none)) else (none))) else (none)) = some r := H
        have A21 := Aside0.mk A210
        clear A210
        by_cases c22 : t284 = true
        · subst c22
          have H1 : ((caulkref12_Same.f kj4 t246 t250).bind fun t285 => (if t285 = true then (if t247 = t251 then ((caulkref12_Same.f kj4 t254 t258).bind fun t286 => (if t286 = true then (if t255 = t259 then ((caulkref12_Same.f kj4 t262 t269).bind fun t287 => (if t287 = true then ((caulkref05_Same.f kj4 t263 t270).bind fun t288 => (if t288 = true then (if t264 = t271 then ((caulkref12_Same.f kj4 t276 t280).bind fun t289 => (if t289 = true then (if t277 = t281 then ((space_Free.f l0).bind fun t290 => ((caulkref12_Free.f kj4 l0).bind fun t291 => (if t290 = t291 then ((space_Used.f l0).bind fun t292 => ((caulkref12_Used.f kj4 l0).bind fun t295 => ((caulkref05_Same.f kj4 t292 t295).bind fun t298 => (some t298)))) else (none)))) else (none)) else (none))) else (none)) else (none))) else (none))) else (none)) else (none))) else (none)) else (none))) = some r := by rw [if_pos rfl] at H; exact H
          clear H
          have H := H1
          clear H1
          replace H := Option.bind_eq_some_iff.mp H
          obtain ⟨t285, A230, H⟩ := H
          replace H : (if t285 = true then (if t247 = t251 then ((caulkref12_Same.f kj4 t254 t258).bind fun t286 => (if t286 = true then (if t255 = t259 then ((caulkref12_Same.f kj4 t262 t269).bind fun t287 => (if t287 = true then ((caulkref05_Same.f kj4 t263 t270).bind fun t288 => (if t288 = true then (if t264 = t271 then ((caulkref12_Same.f kj4 t276 t280).bind fun t289 => (if t289 = true then (if t277 = t281 then ((space_Free.f l0).bind fun t290 => ((caulkref12_Free.f kj4 l0).bind fun t291 => (if t290 = t291 then ((space_Used.f l0).bind fun t292 => ((caulkref12_Used.f kj4 l0).bind fun t295 => ((caulkref05_Same.f kj4 t292 t295).bind fun t298 => (some t298)))) else (none)))) else (none)) else (none))) else (none)) else (none))) else (none))) else (none)) else (none))) else (none)) else (none)) = some r := H
          have A23 := Aside0.mk A230
          clear A230
          by_cases c24 : t285 = true
          · subst c24
            have H1 : (if t247 = t251 then ((caulkref12_Same.f kj4 t254 t258).bind fun t286 => (if t286 = true then (if t255 = t259 then ((caulkref12_Same.f kj4 t262 t269).bind fun t287 => (if t287 = true then ((caulkref05_Same.f kj4 t263 t270).bind fun t288 => (if t288 = true then (if t264 = t271 then ((caulkref12_Same.f kj4 t276 t280).bind fun t289 => (if t289 = true then (if t277 = t281 then ((space_Free.f l0).bind fun t290 => ((caulkref12_Free.f kj4 l0).bind fun t291 => (if t290 = t291 then ((space_Used.f l0).bind fun t292 => ((caulkref12_Used.f kj4 l0).bind fun t295 => ((caulkref05_Same.f kj4 t292 t295).bind fun t298 => (some t298)))) else (none)))) else (none)) else (none))) else (none)) else (none))) else (none))) else (none)) else (none))) else (none)) = some r := by rw [if_pos rfl] at H; exact H
            clear H
            have H := H1
            clear H1
            by_cases c25 : t247 = t251
            · rw [if_pos c25] at H
              have c25b0 : (t247 == t251) = true := beq_iff_eq.mpr c25
              have c25b1 : (t247 != t251) = false := bne_eq_false_iff_eq.mpr c25
              clear c25
              replace H := Option.bind_eq_some_iff.mp H
              obtain ⟨t286, A260, H⟩ := H
              replace H : (if t286 = true then (if t255 = t259 then ((caulkref12_Same.f kj4 t262 t269).bind fun t287 => (if t287 = true then ((caulkref05_Same.f kj4 t263 t270).bind fun t288 => (if t288 = true then (if t264 = t271 then ((caulkref12_Same.f kj4 t276 t280).bind fun t289 => (if t289 = true then (if t277 = t281 then ((space_Free.f l0).bind fun t290 => ((caulkref12_Free.f kj4 l0).bind fun t291 => (if t290 = t291 then ((space_Used.f l0).bind fun t292 => ((caulkref12_Used.f kj4 l0).bind fun t295 => ((caulkref05_Same.f kj4 t292 t295).bind fun t298 => (some t298)))) else (none)))) else (none)) else (none))) else (none)) else (none))) else (none))) else (none)) else (none)) = some r := H
              have A26 := Aside0.mk A260
              clear A260
              by_cases c27 : t286 = true
              · subst c27
                have H1 : (if t255 = t259 then ((caulkref12_Same.f kj4 t262 t269).bind fun t287 => (if t287 = true then ((caulkref05_Same.f kj4 t263 t270).bind fun t288 => (if t288 = true then (if t264 = t271 then ((caulkref12_Same.f kj4 t276 t280).bind fun t289 => (if t289 = true then (if t277 = t281 then ((space_Free.f l0).bind fun t290 => ((caulkref12_Free.f kj4 l0).bind fun t291 => (if t290 = t291 then ((space_Used.f l0).bind fun t292 => ((caulkref12_Used.f kj4 l0).bind fun t295 => ((caulkref05_Same.f kj4 t292 t295).bind fun t298 => (some t298)))) else (none)))) else (none)) else (none))) else (none)) else (none))) else (none))) else (none)) = some r := by rw [if_pos rfl] at H; exact H
                clear H
                have H := H1
                clear H1
                by_cases c28 : t255 = t259
                · rw [if_pos c28] at H
                  have c28b0 : (t255 == t259) = true := beq_iff_eq.mpr c28
                  have c28b1 : (t255 != t259) = false := bne_eq_false_iff_eq.mpr c28
                  clear c28
                  replace H := Option.bind_eq_some_iff.mp H
                  obtain ⟨t287, A290, H⟩ := H
                  replace H : (if t287 = true then ((caulkref05_Same.f kj4 t263 t270).bind fun t288 => (if t288 = true then (if t264 = t271 then ((caulkref12_Same.f kj4 t276 t280).bind fun t289 => (if t289 = true then (if t277 = t281 then ((space_Free.f l0).bind fun t290 => ((caulkref12_Free.f kj4 l0).bind fun t291 => (if t290 = t291 then ((space_Used.f l0).bind fun t292 => ((caulkref12_Used.f kj4 l0).bind fun t295 => ((caulkref05_Same.f kj4 t292 t295).bind fun t298 => (some t298)))) else (none)))) else (none)) else (none))) else (none)) else (none))) else (none)) = some r := H
                  have A29 := Aside0.mk A290
                  clear A290
                  by_cases c30 : t287 = true
                  · subst c30
                    have H1 : ((caulkref05_Same.f kj4 t263 t270).bind fun t288 => (if t288 = true then (if t264 = t271 then ((caulkref12_Same.f kj4 t276 t280).bind fun t289 => (if t289 = true then (if t277 = t281 then ((space_Free.f l0).bind fun t290 => ((caulkref12_Free.f kj4 l0).bind fun t291 => (if t290 = t291 then ((space_Used.f l0).bind fun t292 => ((caulkref12_Used.f kj4 l0).bind fun t295 => ((caulkref05_Same.f kj4 t292 t295).bind fun t298 => (some t298)))) else (none)))) else (none)) else (none))) else (none)) else (none))) = some r := by rw [if_pos rfl] at H; exact H
                    clear H
                    have H := H1
                    clear H1
                    replace H := Option.bind_eq_some_iff.mp H
                    obtain ⟨t288, A310, H⟩ := H
                    replace H : (if t288 = true then (if t264 = t271 then ((caulkref12_Same.f kj4 t276 t280).bind fun t289 => (if t289 = true then (if t277 = t281 then ((space_Free.f l0).bind fun t290 => ((caulkref12_Free.f kj4 l0).bind fun t291 => (if t290 = t291 then ((space_Used.f l0).bind fun t292 => ((caulkref12_Used.f kj4 l0).bind fun t295 => ((caulkref05_Same.f kj4 t292 t295).bind fun t298 => (some t298)))) else (none)))) else (none)) else (none))) else (none)) else (none)) = some r := H
                    have A31 := Aside0.mk A310
                    clear A310
                    by_cases c32 : t288 = true
                    · subst c32
                      have H1 : (if t264 = t271 then ((caulkref12_Same.f kj4 t276 t280).bind fun t289 => (if t289 = true then (if t277 = t281 then ((space_Free.f l0).bind fun t290 => ((caulkref12_Free.f kj4 l0).bind fun t291 => (if t290 = t291 then ((space_Used.f l0).bind fun t292 => ((caulkref12_Used.f kj4 l0).bind fun t295 => ((caulkref05_Same.f kj4 t292 t295).bind fun t298 => (some t298)))) else (none)))) else (none)) else (none))) else (none)) = some r := by rw [if_pos rfl] at H; exact H
                      clear H
                      have H := H1
                      clear H1
                      by_cases c33 : t264 = t271
                      · rw [if_pos c33] at H
                        have c33b0 : (t264 == t271) = true := beq_iff_eq.mpr c33
                        have c33b1 : (t264 != t271) = false := bne_eq_false_iff_eq.mpr c33
                        clear c33
                        replace H := Option.bind_eq_some_iff.mp H
                        obtain ⟨t289, A340, H⟩ := H
                        replace H : (if t289 = true then (if t277 = t281 then ((space_Free.f l0).bind fun t290 => ((caulkref12_Free.f kj4 l0).bind fun t291 => (if t290 = t291 then ((space_Used.f l0).bind fun t292 => ((caulkref12_Used.f kj4 l0).bind fun t295 => ((caulkref05_Same.f kj4 t292 t295).bind fun t298 => (some t298)))) else (none)))) else (none)) else (none)) = some r := H
                        have A34 := Aside0.mk A340
                        clear A340
                        by_cases c35 : t289 = true
                        · subst c35
                          have H1 : (if t277 = t281 then ((space_Free.f l0).bind fun t290 => ((caulkref12_Free.f kj4 l0).bind fun t291 => (if t290 = t291 then ((space_Used.f l0).bind fun t292 => ((caulkref12_Used.f kj4 l0).bind fun t295 => ((caulkref05_Same.f kj4 t292 t295).bind fun t298 => (some t298)))) else (none)))) else (none)) = some r := by rw [if_pos rfl] at H; exact H
                          clear H
                          have H := H1
                          clear H1
                          by_cases c36 : t277 = t281
                          · rw [if_pos c36] at H
                            have c36b0 : (t277 == t281) = true := beq_iff_eq.mpr c36
                            have c36b1 : (t277 != t281) = false := bne_eq_false_iff_eq.mpr c36
                            clear c36
                            replace H := Option.bind_eq_some_iff.mp H
                            obtain ⟨t290, A370, H⟩ := H
                            replace H : ((caulkref12_Free.f kj4 l0).bind fun t291 => (if t290 = t291 then ((space_Used.f l0).bind fun t292 => ((caulkref12_Used.f kj4 l0).bind fun t295 => ((caulkref05_Same.f kj4 t292 t295).bind fun t298 => (some t298)))) else (none))) = some r := H
                            have A37 := Aside0.mk A370
                            clear A370
                            replace H := Option.bind_eq_some_iff.mp H
                            obtain ⟨t291, A380, H⟩ := H
                            replace H : (if t290 = t291 then ((space_Used.f l0).bind fun t292 => ((caulkref12_Used.f kj4 l0).bind fun t295 => ((caulkref05_Same.f kj4 t292 t295).bind fun t298 => (some t298)))) else (none)) = some r := H
                            have A38 := Aside0.mk A380
                            clear A380
                            by_cases c39 : t290 = t291
                            · rw [if_pos c39] at H
                              have c39b0 : (t290 == t291) = true := beq_iff_eq.mpr c39
                              have c39b1 : (t290 != t291) = false := bne_eq_false_iff_eq.mpr c39
                              clear c39
                              replace H := Option.bind_eq_some_iff.mp H
                              obtain ⟨t292, A400, H⟩ := H
                              replace H : ((caulkref12_Used.f kj4 l0).bind fun t295 => ((caulkref05_Same.f kj4 t292 t295).bind fun t298 => (some t298))) = some r := H
                              have A40 := Aside0.mk A400
                              clear A400
                              replace H := Option.bind_eq_some_iff.mp H
                              obtain ⟨t295, A410, H⟩ := H
                              replace H : ((caulkref05_Same.f kj4 t292 t295).bind fun t298 => (some t298)) = some r := H
                              have A41 := Aside0.mk A410
                              clear A410
                              replace H := Option.bind_eq_some_iff.mp H
                              obtain ⟨t298, A420, H⟩ := H
                              replace H : (some t298) = some r := H
                              have A42 := Aside0.mk A420
                              clear A420
                              obtain rfl := Option.some.inj H
                              go_wp2_with (first | ((with_reducible refine gate_callee (f := 27) rfl ?_); refine goesL_ (some 47) rfl rfl Try.func27 (by kernel_rfl) rfl #[.slice A0 l0.length c0, .slice A1 l1.length c1] rfl (by (try simp only [List.map_toArray, List.map_cons, List.map_nil]); first | done | rfl | (simp only [List.length_drop, List.length_take]; rfl)) ?_; (with_reducible refine (space_Mark.calls kj4 _ _ l0 _ _ l1 t246 t247 _ ?side1 ?side2 ?side3 ?side4 A13.out).mono ?_); (case side1 => repeat (first | exact (Kd.C_below HR0.out HB.out) | (with_reducible refine Kd.C_alloc ?_ _) | (with_reducible refine Kd.C_drewN ?_ _) | (with_reducible refine Kd.C_drew ?_))); (case side2 => exact HC0.out); (case side3 => repeat (first | exact (Kd.C_below HR1.out HB.out) | (with_reducible refine Kd.C_alloc ?_ _) | (with_reducible refine Kd.C_drewN ?_ _) | (with_reducible refine Kd.C_drew ?_))); (case side4 => exact HC1.out); rintro e w43 ⟨v248, rfl, ho0, hb⟩; refine ⟨_, rfl, ?_⟩; have n0_ := Aside0.mk (Kd.R_lower ho0 (below_size (by repeat (first | (with_reducible first | exact HB.out | apply below_alloc | apply pw_below_drewN | apply below_drew1) | exact HB.out)))); have n1_ := Aside0.mk (below_step (by repeat (first | (with_reducible first | exact HB.out | apply below_alloc | apply pw_below_drewN | apply below_drew1) | exact HB.out)) hb); clear HB; have HO249 := n0_; have HB := n1_; clear n0_ n1_; (try clear hb); (try clear hb2); (try clear hk); (try clear hi); (try clear ho0)) | ((with_reducible refine gate_callee (f := 28) rfl ?_); refine goesL_ (some 53) rfl rfl Try.func28 (by kernel_rfl) rfl #[.slice A0 l0.length c0, .slice A1 l1.length c1] rfl (by (try simp only [List.map_toArray, List.map_cons, List.map_nil]); first | done | rfl | (simp only [List.length_drop, List.length_take]; rfl)) ?_; (with_reducible refine (caulkref12_Mark.calls kj4 _ _ l0 _ _ l1 t250 t251 _ ?side1 ?side2 ?side3 ?side4 A14.out).mono ?_); (case side1 => repeat (first | exact (Kd.C_below HR0.out HB.out) | (with_reducible refine Kd.C_alloc ?_ _) | (with_reducible refine Kd.C_drewN ?_ _) | (with_reducible refine Kd.C_drew ?_))); (case side2 => exact HC0.out); (case side3 => repeat (first | exact (Kd.C_below HR1.out HB.out) | (with_reducible refine Kd.C_alloc ?_ _) | (with_reducible refine Kd.C_drewN ?_ _) | (with_reducible refine Kd.C_drew ?_))); (case side4 => exact HC1.out); rintro e w44 ⟨v252, rfl, ho0, hb⟩; refine ⟨_, rfl, ?_⟩; have n0_ := Aside0.mk (Kd.R_elder' (by (with_reducible repeat (first | apply Kd.R_alloc | apply Kd.R_drewN | apply Kd.R_drew)); exact HO249.out) (Kd.R_base ho0) hb); have n1_ := Aside0.mk (Kd.R_lower (Kd.R_new' ho0 (Kd.R_lt (by (with_reducible repeat (first | apply Kd.R_alloc | apply Kd.R_drewN | apply Kd.R_drew)); exact HO249.out))) (below_size (by repeat (first | (with_reducible first | exact HB.out | apply below_alloc | apply pw_below_drewN | apply below_drew1) | exact HB.out)))); have n2_ := Aside0.mk (below_step (by repeat (first | (with_reducible first | exact HB.out | apply below_alloc | apply pw_below_drewN | apply below_drew1) | exact HB.out)) hb); clear HO249; clear HB; have HO249 := n0_; have HO253 := n1_; have HB := n2_; clear n0_ n1_ n2_; (try clear hb); (try clear hb2); (try clear hk); (try clear hi); (try clear ho0)) | ((with_reducible refine gate_callee (f := 29) rfl ?_); refine goesL_ (some 59) rfl rfl Try.func29 (by kernel_rfl) rfl #[.slice A0 l0.length c0, .slice A1 l1.length c1] rfl (by (try simp only [List.map_toArray, List.map_cons, List.map_nil]); first | done | rfl | (simp only [List.length_drop, List.length_take]; rfl)) ?_; (with_reducible refine (space_Give.calls kj4 _ _ l0 _ _ l1 t254 t255 _ ?side1 ?side2 ?side3 ?side4 A15.out).mono ?_); (case side1 => repeat (first | exact (Kd.C_below HR0.out HB.out) | (with_reducible refine Kd.C_alloc ?_ _) | (with_reducible refine Kd.C_drewN ?_ _) | (with_reducible refine Kd.C_drew ?_))); (case side2 => exact HC0.out); (case side3 => repeat (first | exact (Kd.C_below HR1.out HB.out) | (with_reducible refine Kd.C_alloc ?_ _) | (with_reducible refine Kd.C_drewN ?_ _) | (with_reducible refine Kd.C_drew ?_))); (case side4 => exact HC1.out); rintro e w45 ⟨v256, rfl, ho0, hb⟩; refine ⟨_, rfl, ?_⟩; have n0_ := Aside0.mk (Kd.R_elder' (by (with_reducible repeat (first | apply Kd.R_alloc | apply Kd.R_drewN | apply Kd.R_drew)); exact HO249.out) (Kd.R_base ho0) hb); have n1_ := Aside0.mk (Kd.R_elder' (by (with_reducible repeat (first | apply Kd.R_alloc | apply Kd.R_drewN | apply Kd.R_drew)); exact HO253.out) (Kd.R_base ho0) hb); have n2_ := Aside0.mk (Kd.R_lower (Kd.R_new' (Kd.R_new' ho0 (Kd.R_lt (by (with_reducible repeat (first | apply Kd.R_alloc | apply Kd.R_drewN | apply Kd.R_drew)); exact HO249.out))) (Kd.R_lt (by (with_reducible repeat (first | apply Kd.R_alloc | apply Kd.R_drewN | apply Kd.R_drew)); exact HO253.out))) (below_size (by repeat (first | (with_reducible first | exact HB.out | apply below_alloc | apply pw_below_drewN | apply below_drew1) | exact HB.out)))); have n3_ := Aside0.mk (below_step (by repeat (first | (with_reducible first | exact HB.out | apply below_alloc | apply pw_below_drewN | apply below_drew1) | exact HB.out)) hb); clear HO249; clear HO253; clear HB; have HO249 := n0_; have HO253 := n1_; have HO257 := n2_; have HB := n3_; clear n0_ n1_ n2_ n3_; (try clear hb); (try clear hb2); (try clear hk); (try clear hi); (try clear ho0)) | ((with_reducible refine gate_callee (f := 30) rfl ?_); refine goesL_ (some 65) rfl rfl Try.func30 (by kernel_rfl) rfl #[.slice A0 l0.length c0, .slice A1 l1.length c1] rfl (by (try simp only [List.map_toArray, List.map_cons, List.map_nil]); first | done | rfl | (simp only [List.length_drop, List.length_take]; rfl)) ?_; (with_reducible refine (caulkref12_Give.calls kj4 _ _ l0 _ _ l1 t258 t259 _ ?side1 ?side2 ?side3 ?side4 A16.out).mono ?_); (case side1 => repeat (first | exact (Kd.C_below HR0.out HB.out) | (with_reducible refine Kd.C_alloc ?_ _) | (with_reducible refine Kd.C_drewN ?_ _) | (with_reducible refine Kd.C_drew ?_))); (case side2 => exact HC0.out); (case side3 => repeat (first | exact (Kd.C_below HR1.out HB.out) | (with_reducible refine Kd.C_alloc ?_ _) | (with_reducible refine Kd.C_drewN ?_ _) | (with_reducible refine Kd.C_drew ?_))); (case side4 => exact HC1.out); rintro e w46 ⟨v260, rfl, ho0, hb⟩; refine ⟨_, rfl, ?_⟩; have n0_ := Aside0.mk (Kd.R_elder' (by (with_reducible repeat (first | apply Kd.R_alloc | apply Kd.R_drewN | apply Kd.R_drew)); exact HO249.out) (Kd.R_base ho0) hb); have n1_ := Aside0.mk (Kd.R_elder' (by (with_reducible repeat (first | apply Kd.R_alloc | apply Kd.R_drewN | apply Kd.R_drew)); exact HO253.out) (Kd.R_base ho0) hb); have n2_ := Aside0.mk (Kd.R_elder' (by (with_reducible repeat (first | apply Kd.R_alloc | apply Kd.R_drewN | apply Kd.R_drew)); exact HO257.out) (Kd.R_base ho0) hb); have n3_ := Aside0.mk (Kd.R_lower (Kd.R_new' (Kd.R_new' (Kd.R_new' ho0 (Kd.R_lt (by (with_reducible repeat (first | apply Kd.R_alloc | apply Kd.R_drewN | apply Kd.R_drew)); exact HO249.out))) (Kd.R_lt (by (with_reducible repeat (first | apply Kd.R_alloc | apply Kd.R_drewN | apply Kd.R_drew)); exact HO253.out))) (Kd.R_lt (by (with_reducible repeat (first | apply Kd.R_alloc | apply Kd.R_drewN | apply Kd.R_drew)); exact HO257.out))) (below_size (by repeat (first | (with_reducible first | exact HB.out | apply below_alloc | apply pw_below_drewN | apply below_drew1) | exact HB.out)))); have n4_ := Aside0.mk (below_step (by repeat (first | (with_reducible first | exact HB.out | apply below_alloc | apply pw_below_drewN | apply below_drew1) | exact HB.out)) hb); clear HO249; clear HO253; clear HO257; clear HB; have HO249 := n0_; have HO253 := n1_; have HO257 := n2_; have HO261 := n3_; have HB := n4_; clear n0_ n1_ n2_ n3_ n4_; (try clear hb); (try clear hb2); (try clear hk); (try clear hi); (try clear ho0)) | ((with_reducible refine gate_callee (f := 31) rfl ?_); refine goesL_ (some 71) rfl rfl Try.func31 (by kernel_rfl) rfl #[.slice A0 l0.length c0, .int .i64 a2] rfl (by (try simp only [List.map_toArray, List.map_cons, List.map_nil]); first | done | rfl | (simp only [List.length_drop, List.length_take]; rfl)) ?_; (with_reducible refine (space_Take.calls _ _ l0 a2 t262 t263 t264 _ ?side1 ?side2 A17.out).mono ?_); (case side1 => repeat (first | exact (Kd.C_below HR0.out HB.out) | (with_reducible refine Kd.C_alloc ?_ _) | (with_reducible refine Kd.C_drewN ?_ _) | (with_reducible refine Kd.C_drew ?_))); (case side2 => exact HC0.out); rintro e w47 ⟨v265, v267, rfl, ho0, ho1, hb⟩; refine ⟨_, rfl, ?_⟩; have n0_ := Aside0.mk (Kd.R_elder' (by (with_reducible repeat (first | apply Kd.R_alloc | apply Kd.R_drewN | apply Kd.R_drew)); exact HO249.out) (Kd.R_base ho0) hb); have n1_ := Aside0.mk (Kd.R_elder' (by (with_reducible repeat (first | apply Kd.R_alloc | apply Kd.R_drewN | apply Kd.R_drew)); exact HO253.out) (Kd.R_base ho0) hb); have n2_ := Aside0.mk (Kd.R_elder' (by (with_reducible repeat (first | apply Kd.R_alloc | apply Kd.R_drewN | apply Kd.R_drew)); exact HO257.out) (Kd.R_base ho0) hb); have n3_ := Aside0.mk (Kd.R_elder' (by (with_reducible repeat (first | apply Kd.R_alloc | apply Kd.R_drewN | apply Kd.R_drew)); exact HO261.out) (Kd.R_base ho0) hb); have n4_ := Aside0.mk (Kd.R_lower (Kd.R_new' (Kd.R_new' (Kd.R_new' (Kd.R_new' ho0 (Kd.R_lt (by (with_reducible repeat (first | apply Kd.R_alloc | apply Kd.R_drewN | apply Kd.R_drew)); exact HO249.out))) (Kd.R_lt (by (with_reducible repeat (first | apply Kd.R_alloc | apply Kd.R_drewN | apply Kd.R_drew)); exact HO253.out))) (Kd.R_lt (by (with_reducible repeat (first | apply Kd.R_alloc | apply Kd.R_drewN | apply Kd.R_drew)); exact HO257.out))) (Kd.R_lt (by (with_reducible repeat (first | apply Kd.R_alloc | apply Kd.R_drewN | apply Kd.R_drew)); exact HO261.out))) (below_size (by repeat (first | (with_reducible first | exact HB.out | apply below_alloc | apply pw_below_drewN | apply below_drew1) | exact HB.out)))); have n5_ := Aside0.mk (Kd.R_lower ho1 (below_size (by repeat (first | (with_reducible first | exact HB.out | apply below_alloc | apply pw_below_drewN | apply below_drew1) | exact HB.out)))); have n6_ := Aside0.mk (below_step (by repeat (first | (with_reducible first | exact HB.out | apply below_alloc | apply pw_below_drewN | apply below_drew1) | exact HB.out)) hb); clear HO249; clear HO253; clear HO257; clear HO261; clear HB; have HO249 := n0_; have HO253 := n1_; have HO257 := n2_; have HO261 := n3_; have HO266 := n4_; have HO268 := n5_; have HB := n6_; clear n0_ n1_ n2_ n3_ n4_ n5_ n6_; (try clear hb); (try clear hb2); (try clear hk); (try clear hi); (try clear ho0); (try clear ho1)) | ((with_reducible refine gate_callee (f := 32) rfl ?_); refine goesL_ (some 78) rfl rfl Try.func32 (by kernel_rfl) rfl #[.slice A0 l0.length c0, .int .i64 a2] rfl (by (try simp only [List.map_toArray, List.map_cons, List.map_nil]); first | done | rfl | (simp only [List.length_drop, List.length_take]; rfl)) ?_; (with_reducible refine (caulkref12_Take.calls kj4 _ _ l0 a2 t269 t270 t271 _ ?side1 ?side2 A18.out).mono ?_); (case side1 => repeat (first | exact (Kd.C_below HR0.out HB.out) | (with_reducible refine Kd.C_alloc ?_ _) | (with_reducible refine Kd.C_drewN ?_ _) | (with_reducible refine Kd.C_drew ?_))); (case side2 => exact HC0.out); rintro e w48 ⟨v272, v274, rfl, ho0, ho1, hb⟩; refine ⟨_, rfl, ?_⟩; have n0_ := Aside0.mk (Kd.R_elder' (by (with_reducible repeat (first | apply Kd.R_alloc | apply Kd.R_drewN | apply Kd.R_drew)); exact HO249.out) (Kd.R_base ho0) hb); have n1_ := Aside0.mk (Kd.R_elder' (by (with_reducible repeat (first | apply Kd.R_alloc | apply Kd.R_drewN | apply Kd.R_drew)); exact HO253.out) (Kd.R_base ho0) hb); have n2_ := Aside0.mk (Kd.R_elder' (by (with_reducible repeat (first | apply Kd.R_alloc | apply Kd.R_drewN | apply Kd.R_drew)); exact HO257.out) (Kd.R_base ho0) hb); have n3_ := Aside0.mk (Kd.R_elder' (by (with_reducible repeat (first | apply Kd.R_alloc | apply Kd.R_drewN | apply Kd.R_drew)); exact HO261.out) (Kd.R_base ho0) hb); have n4_ := Aside0.mk (Kd.R_elder' (by (with_reducible repeat (first | apply Kd.R_alloc | apply Kd.R_drewN | apply Kd.R_drew)); exact HO266.out) (Kd.R_base ho0) hb); have n5_ := Aside0.mk (Kd.R_elder' (by (with_reducible repeat (first | apply Kd.R_alloc | apply Kd.R_drewN | apply Kd.R_drew)); exact HO268.out) (Kd.R_base ho1) hb); have n6_ := Aside0.mk (Kd.R_lower (Kd.R_new' (Kd.R_new' (Kd.R_new' (Kd.R_new' (Kd.R_new' ho0 (Kd.R_lt (by (with_reducible repeat (first | apply Kd.R_alloc | apply Kd.R_drewN | apply Kd.R_drew)); exact HO249.out))) (Kd.R_lt (by (with_reducible repeat (first | apply Kd.R_alloc | apply Kd.R_drewN | apply Kd.R_drew)); exact HO253.out))) (Kd.R_lt (by (with_reducible repeat (first | apply Kd.R_alloc | apply Kd.R_drewN | apply Kd.R_drew)); exact HO257.out))) (Kd.R_lt (by (with_reducible repeat (first | apply Kd.R_alloc | apply Kd.R_drewN | apply Kd.R_drew)); exact HO261.out))) (Kd.R_lt (by (with_reducible repeat (first | apply Kd.R_alloc | apply Kd.R_drewN | apply Kd.R_drew)); exact HO266.out))) (below_size (by repeat (first | (with_reducible first | exact HB.out | apply below_alloc | apply pw_below_drewN | apply below_drew1) | exact HB.out)))); have n7_ := Aside0.mk (Kd.R_lower (Kd.R_new' ho1 (Kd.R_lt (by (with_reducible repeat (first | apply Kd.R_alloc | apply Kd.R_drewN | apply Kd.R_drew)); exact HO268.out))) (below_size (by repeat (first | (with_reducible first | exact HB.out | apply below_alloc | apply pw_below_drewN | apply below_drew1) | exact HB.out)))); have n8_ := Aside0.mk (below_step (by repeat (first | (with_reducible first | exact HB.out | apply below_alloc | apply pw_below_drewN | apply below_drew1) | exact HB.out)) hb); clear HO249; clear HO253; clear HO257; clear HO261; clear HO266; clear HO268; clear HB; have HO249 := n0_; have HO253 := n1_; have HO257 := n2_; have HO261 := n3_; have HO266 := n4_; have HO268 := n5_; have HO273 := n6_; have HO275 := n7_; have HB := n8_; clear n0_ n1_ n2_ n3_ n4_ n5_ n6_ n7_ n8_; (try clear hb); (try clear hb2); (try clear hk); (try clear hi); (try clear ho0); (try clear ho1)) | ((with_reducible refine gate_callee (f := 33) rfl ?_); refine goesL_ (some 84) rfl rfl Try.func33 (by kernel_rfl) rfl #[.int .i64 a3] rfl (by (try simp only [List.map_toArray, List.map_cons, List.map_nil]); first | done | rfl | (simp only [List.length_drop, List.length_take]; rfl)) ?_; (with_reducible refine (space_New.calls kj4 a3 t276 t277 _ A19.out).mono ?_); rintro e w49 ⟨v278, rfl, ho0, hb⟩; refine ⟨_, rfl, ?_⟩; have n0_ := Aside0.mk (Kd.R_elder' (by (with_reducible repeat (first | apply Kd.R_alloc | apply Kd.R_drewN | apply Kd.R_drew)); exact HO249.out) (Kd.R_base ho0) hb); have n1_ := Aside0.mk (Kd.R_elder' (by (with_reducible repeat (first | apply Kd.R_alloc | apply Kd.R_drewN | apply Kd.R_drew)); exact HO253.out) (Kd.R_base ho0) hb); have n2_ := Aside0.mk (Kd.R_elder' (by (with_reducible repeat (first | apply Kd.R_alloc | apply Kd.R_drewN | apply Kd.R_drew)); exact HO257.out) (Kd.R_base ho0) hb); have n3_ := Aside0.mk (Kd.R_elder' (by (with_reducible repeat (first | apply Kd.R_alloc | apply Kd.R_drewN | apply Kd.R_drew)); exact HO261.out) (Kd.R_base ho0) hb); have n4_ := Aside0.mk (Kd.R_elder' (by (with_reducible repeat (first | apply Kd.R_alloc | apply Kd.R_drewN | apply Kd.R_drew)); exact HO266.out) (Kd.R_base ho0) hb); have n5_ := Aside0.mk (Kd.R_below (by (with_reducible repeat (first | apply Kd.R_alloc | apply Kd.R_drewN | apply Kd.R_drew)); exact HO268.out) hb); have n6_ := Aside0.mk (Kd.R_elder' (by (with_reducible repeat (first | apply Kd.R_alloc | apply Kd.R_drewN | apply Kd.R_drew)); exact HO273.out) (Kd.R_base ho0) hb); have n7_ := Aside0.mk (Kd.R_below (by (with_reducible repeat (first | apply Kd.R_alloc | apply Kd.R_drewN | apply Kd.R_drew)); exact HO275.out) hb); have n8_ := Aside0.mk (Kd.R_lower (Kd.R_new' (Kd.R_new' (Kd.R_new' (Kd.R_new' (Kd.R_new' (Kd.R_new' ho0 (Kd.R_lt (by (with_reducible repeat (first | apply Kd.R_alloc | apply Kd.R_drewN | apply Kd.R_drew)); exact HO249.out))) (Kd.R_lt (by (with_reducible repeat (first | apply Kd.R_alloc | apply Kd.R_drewN | apply Kd.R_drew)); exact HO253.out))) (Kd.R_lt (by (with_reducible repeat (first | apply Kd.R_alloc | apply Kd.R_drewN | apply Kd.R_drew)); exact HO257.out))) (Kd.R_lt (by (with_reducible repeat (first | apply Kd.R_alloc | apply Kd.R_drewN | apply Kd.R_drew)); exact HO261.out))) (Kd.R_lt (by (with_reducible repeat (first | apply Kd.R_alloc | apply Kd.R_drewN | apply Kd.R_drew)); exact HO266.out))) (Kd.R_lt (by (with_reducible repeat (first | apply Kd.R_alloc | apply Kd.R_drewN | apply Kd.R_drew)); exact HO273.out))) (below_size (by repeat (first | (with_reducible first | exact HB.out | apply below_alloc | apply pw_below_drewN | apply below_drew1) | exact HB.out)))); have n9_ := Aside0.mk (below_step (by repeat (first | (with_reducible first | exact HB.out | apply below_alloc | apply pw_below_drewN | apply below_drew1) | exact HB.out)) hb); clear HO249; clear HO253; clear HO257; clear HO261; clear HO266; clear HO268; clear HO273; clear HO275; clear HB; have HO249 := n0_; have HO253 := n1_; have HO257 := n2_; have HO261 := n3_; have HO266 := n4_; have HO268 := n5_; have HO273 := n6_; have HO275 := n7_; have HO279 := n8_; have HB := n9_; clear n0_ n1_ n2_ n3_ n4_ n5_ n6_ n7_ n8_ n9_; (try clear hb); (try clear hb2); (try clear hk); (try clear hi); (try clear ho0)) | ((with_reducible refine gate_callee (f := 34) rfl ?_); refine goesL_ (some 89) rfl rfl Try.func34 (by kernel_rfl) rfl #[.int .i64 a3] rfl (by (try simp only [List.map_toArray, List.map_cons, List.map_nil]); first | done | rfl | (simp only [List.length_drop, List.length_take]; rfl)) ?_; (with_reducible refine (caulkref12_New.calls a3 t280 t281 _ A20.out).mono ?_); rintro e w50 ⟨v282, rfl, ho0, hb⟩; refine ⟨_, rfl, ?_⟩; have n0_ := Aside0.mk (Kd.R_elder' (by (with_reducible repeat (first | apply Kd.R_alloc | apply Kd.R_drewN | apply Kd.R_drew)); exact HO249.out) (Kd.R_base ho0) hb); have n1_ := Aside0.mk (Kd.R_elder' (by (with_reducible repeat (first | apply Kd.R_alloc | apply Kd.R_drewN | apply Kd.R_drew)); exact HO253.out) (Kd.R_base ho0) hb); have n2_ := Aside0.mk (Kd.R_elder' (by (with_reducible repeat (first | apply Kd.R_alloc | apply Kd.R_drewN | apply Kd.R_drew)); exact HO257.out) (Kd.R_base ho0) hb); have n3_ := Aside0.mk (Kd.R_elder' (by (with_reducible repeat (first | apply Kd.R_alloc | apply Kd.R_drewN | apply Kd.R_drew)); exact HO261.out) (Kd.R_base ho0) hb); have n4_ := Aside0.mk (Kd.R_elder' (by (with_reducible repeat (first | apply Kd.R_alloc | apply Kd.R_drewN | apply Kd.R_drew)); exact HO266.out) (Kd.R_base ho0) hb); have n5_ := Aside0.mk (Kd.R_below (by (with_reducible repeat (first | apply Kd.R_alloc | apply Kd.R_drewN | apply Kd.R_drew)); exact HO268.out) hb); have n6_ := Aside0.mk (Kd.R_elder' (by (with_reducible repeat (first | apply Kd.R_alloc | apply Kd.R_drewN | apply Kd.R_drew)); exact HO273.out) (Kd.R_base ho0) hb); have n7_ := Aside0.mk (Kd.R_below (by (with_reducible repeat (first | apply Kd.R_alloc | apply Kd.R_drewN | apply Kd.R_drew)); exact HO275.out) hb); have n8_ := Aside0.mk (Kd.R_elder' (by (with_reducible repeat (first | apply Kd.R_alloc | apply Kd.R_drewN | apply Kd.R_drew)); exact HO279.out) (Kd.R_base ho0) hb); have n9_ := Aside0.mk (Kd.R_lower (Kd.R_new' (Kd.R_new' (Kd.R_new' (Kd.R_new' (Kd.R_new' (Kd.R_new' (Kd.R_new' ho0 (Kd.R_lt (by (with_reducible repeat (first | apply Kd.R_alloc | apply Kd.R_drewN | apply Kd.R_drew)); exact HO249.out))) (Kd.R_lt (by (with_reducible repeat (first | apply Kd.R_alloc | apply Kd.R_drewN | apply Kd.R_drew)); exact HO253.out))) (Kd.R_lt (by (with_reducible repeat (first | apply Kd.R_alloc | apply Kd.R_drewN | apply Kd.R_drew)); exact HO257.out))) (Kd.R_lt (by (with_reducible repeat (first | apply Kd.R_alloc | apply Kd.R_drewN | apply Kd.R_drew)); exact HO261.out))) (Kd.R_lt (by (with_reducible repeat (first | apply Kd.R_alloc | apply Kd.R_drewN | apply Kd.R_drew)); exact HO266.out))) (Kd.R_lt (by (with_reducible repeat (first | apply Kd.R_alloc | apply Kd.R_drewN | apply Kd.R_drew)); exact HO273.out))) (Kd.R_lt (by (with_reducible repeat (first | apply Kd.R_alloc | apply Kd.R_drewN | apply Kd.R_drew)); exact HO279.out))) (below_size (by repeat (first | (with_reducible first | exact HB.out | apply below_alloc | apply pw_below_drewN | apply below_drew1) | exact HB.out)))); have n10_ := Aside0.mk (below_step (by repeat (first | (with_reducible first | exact HB.out | apply below_alloc | apply pw_below_drewN | apply below_drew1) | exact HB.out)) hb); clear HO249; clear HO253; clear HO257; clear HO261; clear HO266; clear HO268; clear HO273; clear HO275; clear HO279; clear HB; have HO249 := n0_; have HO253 := n1_; have HO257 := n2_; have HO261 := n3_; have HO266 := n4_; have HO268 := n5_; have HO273 := n6_; have HO275 := n7_; have HO279 := n8_; have HO283 := n9_; have HB := n10_; clear n0_ n1_ n2_ n3_ n4_ n5_ n6_ n7_ n8_ n9_ n10_; (try clear hb); (try clear hb2); (try clear hk); (try clear hi); (try clear ho0)) | ((with_reducible refine gate_callee (f := 26) rfl ?_); refine goesL_ (some 92) rfl rfl Try.func26 (by kernel_rfl) rfl #[] rfl (by (try simp only [List.map_toArray, List.map_cons, List.map_nil]); first | done | rfl | (simp only [List.length_drop, List.length_take]; rfl)) ?_; (with_reducible refine (caulklaw12_lives.calls kj4  true _ A21.out).mono ?_); rintro e w51 ⟨rfl, hb⟩; refine ⟨_, rfl, ?_⟩; have n0_ := Aside0.mk (Kd.R_below (by (with_reducible repeat (first | apply Kd.R_alloc | apply Kd.R_drewN | apply Kd.R_drew)); exact HO249.out) hb); have n1_ := Aside0.mk (Kd.R_below (by (with_reducible repeat (first | apply Kd.R_alloc | apply Kd.R_drewN | apply Kd.R_drew)); exact HO253.out) hb); have n2_ := Aside0.mk (Kd.R_below (by (with_reducible repeat (first | apply Kd.R_alloc | apply Kd.R_drewN | apply Kd.R_drew)); exact HO257.out) hb); have n3_ := Aside0.mk (Kd.R_below (by (with_reducible repeat (first | apply Kd.R_alloc | apply Kd.R_drewN | apply Kd.R_drew)); exact HO261.out) hb); have n4_ := Aside0.mk (Kd.R_below (by (with_reducible repeat (first | apply Kd.R_alloc | apply Kd.R_drewN | apply Kd.R_drew)); exact HO266.out) hb); have n5_ := Aside0.mk (Kd.R_below (by (with_reducible repeat (first | apply Kd.R_alloc | apply Kd.R_drewN | apply Kd.R_drew)); exact HO268.out) hb); have n6_ := Aside0.mk (Kd.R_below (by (with_reducible repeat (first | apply Kd.R_alloc | apply Kd.R_drewN | apply Kd.R_drew)); exact HO273.out) hb); have n7_ := Aside0.mk (Kd.R_below (by (with_reducible repeat (first | apply Kd.R_alloc | apply Kd.R_drewN | apply Kd.R_drew)); exact HO275.out) hb); have n8_ := Aside0.mk (Kd.R_below (by (with_reducible repeat (first | apply Kd.R_alloc | apply Kd.R_drewN | apply Kd.R_drew)); exact HO279.out) hb); have n9_ := Aside0.mk (Kd.R_below (by (with_reducible repeat (first | apply Kd.R_alloc | apply Kd.R_drewN | apply Kd.R_drew)); exact HO283.out) hb); have n10_ := Aside0.mk (below_step (by repeat (first | (with_reducible first | exact HB.out | apply below_alloc | apply pw_below_drewN | apply below_drew1) | exact HB.out)) hb); clear HO249; clear HO253; clear HO257; clear HO261; clear HO266; clear HO268; clear HO273; clear HO275; clear HO279; clear HO283; clear HB; have HO249 := n0_; have HO253 := n1_; have HO257 := n2_; have HO261 := n3_; have HO266 := n4_; have HO268 := n5_; have HO273 := n6_; have HO275 := n7_; have HO279 := n8_; have HO283 := n9_; have HB := n10_; clear n0_ n1_ n2_ n3_ n4_ n5_ n6_ n7_ n8_ n9_ n10_; (try clear hb); (try clear hb2); (try clear hk); (try clear hi); obtain ⟨Ao52, co52, eo52⟩ := Kd.R_slice HO249.out; subst eo52; obtain ⟨Ao53, co53, eo53⟩ := Kd.R_slice HO253.out; subst eo53) | (go_at_call 35; (with_reducible refine (caulkref12_Same.calls kj4 _ _ t246 _ _ t250 true _ ?side1 ?side2 ?side3 ?side4 A23.out).mono ?_); (case side1 => repeat (first | exact (Kd.R_reads' HO249.out).2.2 | (with_reducible refine Kd.C_alloc ?_ _) | (with_reducible refine Kd.C_drewN ?_ _) | (with_reducible refine Kd.C_drew ?_))); (case side2 => exact (Kd.R_reads' HO249.out).2.1); (case side3 => repeat (first | exact (Kd.R_reads' HO253.out).2.2 | (with_reducible refine Kd.C_alloc ?_ _) | (with_reducible refine Kd.C_drewN ?_ _) | (with_reducible refine Kd.C_drew ?_))); (case side4 => exact (Kd.R_reads' HO253.out).2.1); rintro e w' ⟨rfl, ⟨nd, rfl⟩⟩; obtain ⟨Ao54, co54, eo54⟩ := Kd.R_slice HO257.out; subst eo54; obtain ⟨Ao55, co55, eo55⟩ := Kd.R_slice HO261.out; subst eo55) | (go_at_call 35; (with_reducible refine (caulkref12_Same.calls kj4 _ _ t254 _ _ t258 true _ ?side1 ?side2 ?side3 ?side4 A26.out).mono ?_); (case side1 => repeat (first | exact (Kd.R_reads' HO257.out).2.2 | (with_reducible refine Kd.C_alloc ?_ _) | (with_reducible refine Kd.C_drewN ?_ _) | (with_reducible refine Kd.C_drew ?_))); (case side2 => exact (Kd.R_reads' HO257.out).2.1); (case side3 => repeat (first | exact (Kd.R_reads' HO261.out).2.2 | (with_reducible refine Kd.C_alloc ?_ _) | (with_reducible refine Kd.C_drewN ?_ _) | (with_reducible refine Kd.C_drew ?_))); (case side4 => exact (Kd.R_reads' HO261.out).2.1); rintro e w' ⟨rfl, ⟨nd, rfl⟩⟩; obtain ⟨Ao56, co56, eo56⟩ := Kd.R_slice HO266.out; subst eo56; obtain ⟨Ao57, co57, eo57⟩ := Kd.R_slice HO273.out; subst eo57) | (go_at_call 35; (with_reducible refine (caulkref12_Same.calls kj4 _ _ t262 _ _ t269 true _ ?side1 ?side2 ?side3 ?side4 A29.out).mono ?_); (case side1 => repeat (first | exact (Kd.R_reads' HO266.out).2.2 | (with_reducible refine Kd.C_alloc ?_ _) | (with_reducible refine Kd.C_drewN ?_ _) | (with_reducible refine Kd.C_drew ?_))); (case side2 => exact (Kd.R_reads' HO266.out).2.1); (case side3 => repeat (first | exact (Kd.R_reads' HO273.out).2.2 | (with_reducible refine Kd.C_alloc ?_ _) | (with_reducible refine Kd.C_drewN ?_ _) | (with_reducible refine Kd.C_drew ?_))); (case side4 => exact (Kd.R_reads' HO273.out).2.1); rintro e w' ⟨rfl, ⟨nd, rfl⟩⟩; obtain ⟨Ao58, co58, eo58⟩ := Kd.R_slice HO268.out; subst eo58; obtain ⟨Ao59, co59, eo59⟩ := Kd.R_slice HO275.out; subst eo59) | (go_at_call 36; (with_reducible refine (caulkref05_Same.calls kj4 _ _ t263 _ _ t270 true _ ?side1 ?side2 ?side3 ?side4 A31.out).mono ?_); (case side1 => repeat (first | exact (Kd.R_reads' HO268.out).2.2 | (with_reducible refine Kd.C_alloc ?_ _) | (with_reducible refine Kd.C_drewN ?_ _) | (with_reducible refine Kd.C_drew ?_))); (case side2 => exact (Kd.R_reads' HO268.out).2.1); (case side3 => repeat (first | exact (Kd.R_reads' HO275.out).2.2 | (with_reducible refine Kd.C_alloc ?_ _) | (with_reducible refine Kd.C_drewN ?_ _) | (with_reducible refine Kd.C_drew ?_))); (case side4 => exact (Kd.R_reads' HO275.out).2.1); rintro e w' ⟨rfl, ⟨nd, rfl⟩⟩; obtain ⟨Ao60, co60, eo60⟩ := Kd.R_slice HO279.out; subst eo60; obtain ⟨Ao61, co61, eo61⟩ := Kd.R_slice HO283.out; subst eo61) | (go_at_call 35; (with_reducible refine (caulkref12_Same.calls kj4 _ _ t276 _ _ t280 true _ ?side1 ?side2 ?side3 ?side4 A34.out).mono ?_); (case side1 => repeat (first | exact (Kd.R_reads' HO279.out).2.2 | (with_reducible refine Kd.C_alloc ?_ _) | (with_reducible refine Kd.C_drewN ?_ _) | (with_reducible refine Kd.C_drew ?_))); (case side2 => exact (Kd.R_reads' HO279.out).2.1); (case side3 => repeat (first | exact (Kd.R_reads' HO283.out).2.2 | (with_reducible refine Kd.C_alloc ?_ _) | (with_reducible refine Kd.C_drewN ?_ _) | (with_reducible refine Kd.C_drew ?_))); (case side4 => exact (Kd.R_reads' HO283.out).2.1); rintro e w' ⟨rfl, ⟨nd, rfl⟩⟩) | (go_at_call 37; (with_reducible refine (space_Free.calls _ _ l0 t290 _ ?side1 ?side2 A37.out).mono ?_); (case side1 => repeat (first | exact (Kd.C_below HR0.out (by repeat (first | (with_reducible first | exact HB.out | apply below_alloc | apply pw_below_drewN | apply below_drew1) | exact HB.out))) | (with_reducible refine Kd.C_alloc ?_ _) | (with_reducible refine Kd.C_drewN ?_ _) | (with_reducible refine Kd.C_drew ?_))); (case side2 => exact HC0.out); rintro e w62 ⟨rfl, hb⟩; have n0_ := Aside0.mk (Kd.R_below (by (with_reducible repeat (first | apply Kd.R_alloc | apply Kd.R_drewN | apply Kd.R_drew)); exact HO249.out) hb); have n1_ := Aside0.mk (Kd.R_below (by (with_reducible repeat (first | apply Kd.R_alloc | apply Kd.R_drewN | apply Kd.R_drew)); exact HO253.out) hb); have n2_ := Aside0.mk (Kd.R_below (by (with_reducible repeat (first | apply Kd.R_alloc | apply Kd.R_drewN | apply Kd.R_drew)); exact HO257.out) hb); have n3_ := Aside0.mk (Kd.R_below (by (with_reducible repeat (first | apply Kd.R_alloc | apply Kd.R_drewN | apply Kd.R_drew)); exact HO261.out) hb); have n4_ := Aside0.mk (Kd.R_below (by (with_reducible repeat (first | apply Kd.R_alloc | apply Kd.R_drewN | apply Kd.R_drew)); exact HO266.out) hb); have n5_ := Aside0.mk (Kd.R_below (by (with_reducible repeat (first | apply Kd.R_alloc | apply Kd.R_drewN | apply Kd.R_drew)); exact HO268.out) hb); have n6_ := Aside0.mk (Kd.R_below (by (with_reducible repeat (first | apply Kd.R_alloc | apply Kd.R_drewN | apply Kd.R_drew)); exact HO273.out) hb); have n7_ := Aside0.mk (Kd.R_below (by (with_reducible repeat (first | apply Kd.R_alloc | apply Kd.R_drewN | apply Kd.R_drew)); exact HO275.out) hb); have n8_ := Aside0.mk (Kd.R_below (by (with_reducible repeat (first | apply Kd.R_alloc | apply Kd.R_drewN | apply Kd.R_drew)); exact HO279.out) hb); have n9_ := Aside0.mk (Kd.R_below (by (with_reducible repeat (first | apply Kd.R_alloc | apply Kd.R_drewN | apply Kd.R_drew)); exact HO283.out) hb); have n10_ := Aside0.mk (below_step (by repeat (first | (with_reducible first | exact HB.out | apply below_alloc | apply pw_below_drewN | apply below_drew1) | exact HB.out)) hb); clear HO249; clear HO253; clear HO257; clear HO261; clear HO266; clear HO268; clear HO273; clear HO275; clear HO279; clear HO283; clear HB; have HO249 := n0_; have HO253 := n1_; have HO257 := n2_; have HO261 := n3_; have HO266 := n4_; have HO268 := n5_; have HO273 := n6_; have HO275 := n7_; have HO279 := n8_; have HO283 := n9_; have HB := n10_; clear n0_ n1_ n2_ n3_ n4_ n5_ n6_ n7_ n8_ n9_ n10_; (try clear hb); (try clear hb2); (try clear hk); (try clear hi)) | (go_at_call 38; (with_reducible refine (caulkref12_Free.calls kj4 _ _ l0 t291 _ ?side1 ?side2 A38.out).mono ?_); (case side1 => repeat (first | exact (Kd.C_below HR0.out HB.out) | (with_reducible refine Kd.C_alloc ?_ _) | (with_reducible refine Kd.C_drewN ?_ _) | (with_reducible refine Kd.C_drew ?_))); (case side2 => exact HC0.out); rintro e w63 ⟨rfl, hb⟩; have n0_ := Aside0.mk (Kd.R_below (by (with_reducible repeat (first | apply Kd.R_alloc | apply Kd.R_drewN | apply Kd.R_drew)); exact HO249.out) hb); have n1_ := Aside0.mk (Kd.R_below (by (with_reducible repeat (first | apply Kd.R_alloc | apply Kd.R_drewN | apply Kd.R_drew)); exact HO253.out) hb); have n2_ := Aside0.mk (Kd.R_below (by (with_reducible repeat (first | apply Kd.R_alloc | apply Kd.R_drewN | apply Kd.R_drew)); exact HO257.out) hb); have n3_ := Aside0.mk (Kd.R_below (by (with_reducible repeat (first | apply Kd.R_alloc | apply Kd.R_drewN | apply Kd.R_drew)); exact HO261.out) hb); have n4_ := Aside0.mk (Kd.R_below (by (with_reducible repeat (first | apply Kd.R_alloc | apply Kd.R_drewN | apply Kd.R_drew)); exact HO266.out) hb); have n5_ := Aside0.mk (Kd.R_below (by (with_reducible repeat (first | apply Kd.R_alloc | apply Kd.R_drewN | apply Kd.R_drew)); exact HO268.out) hb); have n6_ := Aside0.mk (Kd.R_below (by (with_reducible repeat (first | apply Kd.R_alloc | apply Kd.R_drewN | apply Kd.R_drew)); exact HO273.out) hb); have n7_ := Aside0.mk (Kd.R_below (by (with_reducible repeat (first | apply Kd.R_alloc | apply Kd.R_drewN | apply Kd.R_drew)); exact HO275.out) hb); have n8_ := Aside0.mk (Kd.R_below (by (with_reducible repeat (first | apply Kd.R_alloc | apply Kd.R_drewN | apply Kd.R_drew)); exact HO279.out) hb); have n9_ := Aside0.mk (Kd.R_below (by (with_reducible repeat (first | apply Kd.R_alloc | apply Kd.R_drewN | apply Kd.R_drew)); exact HO283.out) hb); have n10_ := Aside0.mk (below_step (by repeat (first | (with_reducible first | exact HB.out | apply below_alloc | apply pw_below_drewN | apply below_drew1) | exact HB.out)) hb); clear HO249; clear HO253; clear HO257; clear HO261; clear HO266; clear HO268; clear HO273; clear HO275; clear HO279; clear HO283; clear HB; have HO249 := n0_; have HO253 := n1_; have HO257 := n2_; have HO261 := n3_; have HO266 := n4_; have HO268 := n5_; have HO273 := n6_; have HO275 := n7_; have HO279 := n8_; have HO283 := n9_; have HB := n10_; clear n0_ n1_ n2_ n3_ n4_ n5_ n6_ n7_ n8_ n9_ n10_; (try clear hb); (try clear hb2); (try clear hk); (try clear hi)) | (go_at_call 39; (with_reducible refine (space_Used.calls _ _ l0 t292 _ ?side1 ?side2 A40.out).mono ?_); (case side1 => repeat (first | exact (Kd.C_below HR0.out HB.out) | (with_reducible refine Kd.C_alloc ?_ _) | (with_reducible refine Kd.C_drewN ?_ _) | (with_reducible refine Kd.C_drew ?_))); (case side2 => exact HC0.out); rintro e w64 ⟨v293, rfl, ho0, hb⟩; have n0_ := Aside0.mk (Kd.R_below (by (with_reducible repeat (first | apply Kd.R_alloc | apply Kd.R_drewN | apply Kd.R_drew)); exact HO249.out) hb); have n1_ := Aside0.mk (Kd.R_below (by (with_reducible repeat (first | apply Kd.R_alloc | apply Kd.R_drewN | apply Kd.R_drew)); exact HO253.out) hb); have n2_ := Aside0.mk (Kd.R_below (by (with_reducible repeat (first | apply Kd.R_alloc | apply Kd.R_drewN | apply Kd.R_drew)); exact HO257.out) hb); have n3_ := Aside0.mk (Kd.R_below (by (with_reducible repeat (first | apply Kd.R_alloc | apply Kd.R_drewN | apply Kd.R_drew)); exact HO261.out) hb); have n4_ := Aside0.mk (Kd.R_below (by (with_reducible repeat (first | apply Kd.R_alloc | apply Kd.R_drewN | apply Kd.R_drew)); exact HO266.out) hb); have n5_ := Aside0.mk (Kd.R_elder' (by (with_reducible repeat (first | apply Kd.R_alloc | apply Kd.R_drewN | apply Kd.R_drew)); exact HO268.out) (Kd.R_base ho0) hb); have n6_ := Aside0.mk (Kd.R_below (by (with_reducible repeat (first | apply Kd.R_alloc | apply Kd.R_drewN | apply Kd.R_drew)); exact HO273.out) hb); have n7_ := Aside0.mk (Kd.R_elder' (by (with_reducible repeat (first | apply Kd.R_alloc | apply Kd.R_drewN | apply Kd.R_drew)); exact HO275.out) (Kd.R_base ho0) hb); have n8_ := Aside0.mk (Kd.R_below (by (with_reducible repeat (first | apply Kd.R_alloc | apply Kd.R_drewN | apply Kd.R_drew)); exact HO279.out) hb); have n9_ := Aside0.mk (Kd.R_below (by (with_reducible repeat (first | apply Kd.R_alloc | apply Kd.R_drewN | apply Kd.R_drew)); exact HO283.out) hb); have n10_ := Aside0.mk (Kd.R_lower (Kd.R_new' (Kd.R_new' ho0 (Kd.R_lt (by (with_reducible repeat (first | apply Kd.R_alloc | apply Kd.R_drewN | apply Kd.R_drew)); exact HO268.out))) (Kd.R_lt (by (with_reducible repeat (first | apply Kd.R_alloc | apply Kd.R_drewN | apply Kd.R_drew)); exact HO275.out))) (below_size (by repeat (first | (with_reducible first | exact HB.out | apply below_alloc | apply pw_below_drewN | apply below_drew1) | exact HB.out)))); have n11_ := Aside0.mk (below_step (by repeat (first | (with_reducible first | exact HB.out | apply below_alloc | apply pw_below_drewN | apply below_drew1) | exact HB.out)) hb); clear HO249; clear HO253; clear HO257; clear HO261; clear HO266; clear HO268; clear HO273; clear HO275; clear HO279; clear HO283; clear HB; have HO249 := n0_; have HO253 := n1_; have HO257 := n2_; have HO261 := n3_; have HO266 := n4_; have HO268 := n5_; have HO273 := n6_; have HO275 := n7_; have HO279 := n8_; have HO283 := n9_; have HO294 := n10_; have HB := n11_; clear n0_ n1_ n2_ n3_ n4_ n5_ n6_ n7_ n8_ n9_ n10_ n11_; (try clear hb); (try clear hb2); (try clear hk); (try clear hi); (try clear ho0)) | (go_at_call 40; (with_reducible refine (caulkref12_Used.calls kj4 _ _ l0 t295 _ ?side1 ?side2 A41.out).mono ?_); (case side1 => repeat (first | exact (Kd.C_below HR0.out HB.out) | (with_reducible refine Kd.C_alloc ?_ _) | (with_reducible refine Kd.C_drewN ?_ _) | (with_reducible refine Kd.C_drew ?_))); (case side2 => exact HC0.out); rintro e w65 ⟨v296, rfl, ho0, hb⟩; have n0_ := Aside0.mk (Kd.R_below (by (with_reducible repeat (first | apply Kd.R_alloc | apply Kd.R_drewN | apply Kd.R_drew)); exact HO249.out) hb); have n1_ := Aside0.mk (Kd.R_below (by (with_reducible repeat (first | apply Kd.R_alloc | apply Kd.R_drewN | apply Kd.R_drew)); exact HO253.out) hb); have n2_ := Aside0.mk (Kd.R_below (by (with_reducible repeat (first | apply Kd.R_alloc | apply Kd.R_drewN | apply Kd.R_drew)); exact HO257.out) hb); have n3_ := Aside0.mk (Kd.R_below (by (with_reducible repeat (first | apply Kd.R_alloc | apply Kd.R_drewN | apply Kd.R_drew)); exact HO261.out) hb); have n4_ := Aside0.mk (Kd.R_below (by (with_reducible repeat (first | apply Kd.R_alloc | apply Kd.R_drewN | apply Kd.R_drew)); exact HO266.out) hb); have n5_ := Aside0.mk (Kd.R_elder' (by (with_reducible repeat (first | apply Kd.R_alloc | apply Kd.R_drewN | apply Kd.R_drew)); exact HO268.out) (Kd.R_base ho0) hb); have n6_ := Aside0.mk (Kd.R_below (by (with_reducible repeat (first | apply Kd.R_alloc | apply Kd.R_drewN | apply Kd.R_drew)); exact HO273.out) hb); have n7_ := Aside0.mk (Kd.R_elder' (by (with_reducible repeat (first | apply Kd.R_alloc | apply Kd.R_drewN | apply Kd.R_drew)); exact HO275.out) (Kd.R_base ho0) hb); have n8_ := Aside0.mk (Kd.R_below (by (with_reducible repeat (first | apply Kd.R_alloc | apply Kd.R_drewN | apply Kd.R_drew)); exact HO279.out) hb); have n9_ := Aside0.mk (Kd.R_below (by (with_reducible repeat (first | apply Kd.R_alloc | apply Kd.R_drewN | apply Kd.R_drew)); exact HO283.out) hb); have n10_ := Aside0.mk (Kd.R_elder' (by (with_reducible repeat (first | apply Kd.R_alloc | apply Kd.R_drewN | apply Kd.R_drew)); exact HO294.out) (Kd.R_base ho0) hb); have n11_ := Aside0.mk (Kd.R_lower (Kd.R_new' (Kd.R_new' (Kd.R_new' ho0 (Kd.R_lt (by (with_reducible repeat (first | apply Kd.R_alloc | apply Kd.R_drewN | apply Kd.R_drew)); exact HO268.out))) (Kd.R_lt (by (with_reducible repeat (first | apply Kd.R_alloc | apply Kd.R_drewN | apply Kd.R_drew)); exact HO275.out))) (Kd.R_lt (by (with_reducible repeat (first | apply Kd.R_alloc | apply Kd.R_drewN | apply Kd.R_drew)); exact HO294.out))) (below_size (by repeat (first | (with_reducible first | exact HB.out | apply below_alloc | apply pw_below_drewN | apply below_drew1) | exact HB.out)))); have n12_ := Aside0.mk (below_step (by repeat (first | (with_reducible first | exact HB.out | apply below_alloc | apply pw_below_drewN | apply below_drew1) | exact HB.out)) hb); clear HO249; clear HO253; clear HO257; clear HO261; clear HO266; clear HO268; clear HO273; clear HO275; clear HO279; clear HO283; clear HO294; clear HB; have HO249 := n0_; have HO253 := n1_; have HO257 := n2_; have HO261 := n3_; have HO266 := n4_; have HO268 := n5_; have HO273 := n6_; have HO275 := n7_; have HO279 := n8_; have HO283 := n9_; have HO294 := n10_; have HO297 := n11_; have HB := n12_; clear n0_ n1_ n2_ n3_ n4_ n5_ n6_ n7_ n8_ n9_ n10_ n11_ n12_; (try clear hb); (try clear hb2); (try clear hk); (try clear hi); (try clear ho0); obtain ⟨Ao66, co66, eo66⟩ := Kd.R_slice HO294.out; subst eo66; obtain ⟨Ao67, co67, eo67⟩ := Kd.R_slice HO297.out; subst eo67) | (go_at_call 36; (with_reducible refine (caulkref05_Same.calls kj4 _ _ t292 _ _ t295 t298 _ ?side1 ?side2 ?side3 ?side4 A42.out).mono ?_); (case side1 => repeat (first | exact (Kd.R_reads' HO294.out).2.2 | (with_reducible refine Kd.C_alloc ?_ _) | (with_reducible refine Kd.C_drewN ?_ _) | (with_reducible refine Kd.C_drew ?_))); (case side2 => exact (Kd.R_reads' HO294.out).2.1); (case side3 => repeat (first | exact (Kd.R_reads' HO297.out).2.2 | (with_reducible refine Kd.C_alloc ?_ _) | (with_reducible refine Kd.C_drewN ?_ _) | (with_reducible refine Kd.C_drew ?_))); (case side4 => exact (Kd.R_reads' HO297.out).2.1); rintro e w' ⟨rfl, ⟨nd, rfl⟩⟩))
                              go_ret
                              exact ⟨by first | rfl | (simp [errW_none, errW_some] <;> rfl) | (simp [*, errW_none, errW_some] <;> rfl), by repeat (first | (with_reducible first | exact HB.out | apply below_alloc | apply pw_below_drewN | apply below_drew1) | exact HB.out)⟩
                            · rw [if_neg c39] at H
                              exact absurd H (by simp)
                          · rw [if_neg c36] at H
                            exact absurd H (by simp)
                        · replace c35 := Bool.eq_false_iff.mpr c35
                          subst c35
                          have H1 : (none) = some r := by rw [if_neg (show ¬ (false = true) by decide)] at H; exact H
                          clear H
                          have H := H1
                          clear H1
                          exact absurd H (by simp)
                      · rw [if_neg c33] at H
                        exact absurd H (by simp)
                    · replace c32 := Bool.eq_false_iff.mpr c32
                      subst c32
                      have H1 : (none) = some r := by rw [if_neg (show ¬ (false = true) by decide)] at H; exact H
                      clear H
                      have H := H1
                      clear H1
                      exact absurd H (by simp)
                  · replace c30 := Bool.eq_false_iff.mpr c30
                    subst c30
                    have H1 : (none) = some r := by rw [if_neg (show ¬ (false = true) by decide)] at H; exact H
                    clear H
                    have H := H1
                    clear H1
                    exact absurd H (by simp)
                · rw [if_neg c28] at H
                  exact absurd H (by simp)
              · replace c27 := Bool.eq_false_iff.mpr c27
                subst c27
                have H1 : (none) = some r := by rw [if_neg (show ¬ (false = true) by decide)] at H; exact H
                clear H
                have H := H1
                clear H1
                exact absurd H (by simp)
            · rw [if_neg c25] at H
              exact absurd H (by simp)
          · replace c24 := Bool.eq_false_iff.mpr c24
            subst c24
            have H1 : (none) = some r := by rw [if_neg (show ¬ (false = true) by decide)] at H; exact H
            clear H
            have H := H1
            clear H1
            exact absurd H (by simp)
        · replace c22 := Bool.eq_false_iff.mpr c22
          subst c22
          have H1 : (none) = some r := by rw [if_neg (show ¬ (false = true) by decide)] at H; exact H
          clear H
          have H := H1
          clear H1
          exact absurd H (by simp)

def caulklaw12_SpaceTells.Pure : Prop := ∀ (l0 : List Bool) (l1 : List Int) (a2 : Int) (a3 : Int), l0.length * 1 ≤ 140737488351232 → (l1.length * 8 ≤ 140737488351232 ∧ ∀ x0_ ∈ l1, (Lit.int .i64 x0_).wf = true) → (Lit.int .i64 a2).wf = true → (Lit.int .i64 a3).wf = true → ∃ k, caulklaw12_SpaceTells.f k l0 l1 a2 a3 = some true

end Go.Proofs.Ytgiljibkjccgfaa.G
