-- Written by a program of this session over the print of the translation (its own patch, foreign contracts, cut ways): not trusted: Lean checks it.
import Derived.Test.YtgiljibkjccgfabGx0
import Derived.Test.YtgiljibkjccgfabGx5
import Derived.Test.YtgiljibkjccgfabGx8
import Derived.Test.YtgiljibkjccgfabGx9
import Derived.Test.YtgiljibkjccgfabGx10
namespace Go.Proofs.Ytgiljibkjccgfab.G
open Go.RowKit Go.Proofs.YtgiljibkjccgfabW.PrintWords Go.Proofs.YtgiljibkjccgfabW.PrintLast Go.Proofs.YtgiljibkjccgfabW.PrintMore
attribute [local go_sem] max2_int min2_int max_two min_two max_three min_three max_four min_four   -- for this text's walks alone
set_option linter.unusedVariables false
set_option linter.unusedSimpArgs false

/-! ### caulkref13_ParseTable: function 36 -/
mutual
def caulkref13_ParseTable.j0 : Nat → ByteArray → Bool → Option ((List (S42)) × Int)
  | 0, _, _ => none
  | k + 1, x0, x17 => if x17 = true then (some (([] : List (S42)), 6)) else (caulkref13_ParseTable.l0 k x0 ([] : List (S42)) 0)
def caulkref13_ParseTable.l0 : Nat → ByteArray → List (S42) → Int → Option ((List (S42)) × Int)
  | 0, _, _, _ => none
  | k + 1, x0, x4, x5 => if x5 < (x0.size : Int) then (if 0 ≤ x5 then (if x5 ≤ (wrap64 (x5 + 8)) then (if (wrap64 (x5 + 8)) ≤ (x0.size : Int) then ((caulkref13_Parse.f k (x0.extract (x5 : Int).toNat ((wrap64 (x5 + 8)) : Int).toNat)).bind fun bt363 => (if bt363.2.2.2.2 = 0 then (if x4.length < 4398046511104 then (caulkref13_ParseTable.l0 k x0 (x4 ++ [(⟨bt363.1, (⟨bt363.2.1, bt363.2.2.1⟩ : S40), bt363.2.2.2.1⟩ : S42)]) (wrap64 (x5 + 8))) else (none)) else (some (([] : List (S42)), bt363.2.2.2.2)))) else (none)) else (none)) else (none)) else (some (x4, 0))
end
def caulkref13_ParseTable.f (k : Nat) (a0 : ByteArray) : Option ((List (S42)) × Int) := if ((a0.size : Int) % 8) = 0 then (caulkref13_ParseTable.j0 k a0 (decide ((wrap64 ((a0.size : Int) / 8)) > 8192))) else (caulkref13_ParseTable.j0 k a0 true)
theorem caulkref13_ParseTable.mono_l : ∀ k, (∀ y0 y1, LeO (caulkref13_ParseTable.j0 k y0 y1) (caulkref13_ParseTable.j0 (k + 1) y0 y1)) ∧ (∀ y0 y1 y2, LeO (caulkref13_ParseTable.l0 k y0 y1 y2) (caulkref13_ParseTable.l0 (k + 1) y0 y1 y2))
  | 0 => ⟨fun _ _ r h => by simp [caulkref13_ParseTable.j0] at h, fun _ _ _ r h => by simp [caulkref13_ParseTable.l0] at h⟩
  | k + 1 => by
    obtain ⟨ih0, ih1⟩ := caulkref13_ParseTable.mono_l k
    refine ⟨?_, ?_⟩
    · intro y0 y1
      unfold caulkref13_ParseTable.j0
      repeat' first
      | (with_reducible exact ih0 _ _)
      | (with_reducible exact ih1 _ _ _)
      | (with_reducible exact caulkref13_Parse.mono _ _)
      | (with_reducible exact LeO.refl _)
      | (with_reducible exact LeO.none _)
      | (with_reducible refine LeO.ite ?_ ?_)
      | (with_reducible refine LeO.bind ?_ (fun _ => ?_))
      | exact ih0 _ _
      | exact ih1 _ _ _
      | exact caulkref13_Parse.mono _ _
      | exact LeO.none _
      | refine LeO.ite ?_ ?_
      | refine LeO.bind ?_ (fun _ => ?_)
    · intro y0 y1 y2
      unfold caulkref13_ParseTable.l0
      repeat' first
      | (with_reducible exact ih0 _ _)
      | (with_reducible exact ih1 _ _ _)
      | (with_reducible exact caulkref13_Parse.mono _ _)
      | (with_reducible exact LeO.refl _)
      | (with_reducible exact LeO.none _)
      | (with_reducible refine LeO.ite ?_ ?_)
      | (with_reducible refine LeO.bind ?_ (fun _ => ?_))
      | exact ih0 _ _
      | exact ih1 _ _ _
      | exact caulkref13_Parse.mono _ _
      | exact LeO.none _
      | refine LeO.ite ?_ ?_
      | refine LeO.bind ?_ (fun _ => ?_)
theorem caulkref13_ParseTable.mono : ∀ a0 k, LeO (caulkref13_ParseTable.f k a0) (caulkref13_ParseTable.f (k + 1) a0) := by
  intro a0 k
  obtain ⟨ih0, ih1⟩ := caulkref13_ParseTable.mono_l k
  unfold caulkref13_ParseTable.f
  repeat' first
      | (with_reducible exact ih0 _ _)
      | (with_reducible exact ih1 _ _ _)
      | (with_reducible exact caulkref13_Parse.mono _ _)
      | (with_reducible exact LeO.refl _)
      | (with_reducible exact LeO.none _)
      | (with_reducible refine LeO.ite ?_ ?_)
      | (with_reducible refine LeO.bind ?_ (fun _ => ?_))
      | exact ih0 _ _
      | exact ih1 _ _ _
      | exact caulkref13_Parse.mono _ _
      | exact LeO.none _
      | refine LeO.ite ?_ ?_
      | refine LeO.bind ?_ (fun _ => ?_)
set_option maxHeartbeats 8000000 in
set_option maxRecDepth 100000 in
theorem caulkref13_ParseTable.calls (k : Nat) (a0 : ByteArray) (r1 : List (S42)) (r2 : Int) (w : World) (h : caulkref13_ParseTable.f k a0 = some (r1, r2)) :
    Calls Try.prog 36 #[.string a0] w fun e w' => ∃ v0_ : Value, e = .returned (.tuple #[v0_, .int .i64 r2]) ∧ Kd.R k42 42 w' w.heap.size (fun _ => True) v0_ r1 ∧ Below w.heap.size w w' := by
  have hu42 := Try.underlying42
  have HB := Aside0.mk (Below.refl w.heap.size w)
  have H : (if ((a0.size : Int) % 8) = 0 then (caulkref13_ParseTable.j0 k a0 (decide ((wrap64 ((a0.size : Int) / 8)) > 8192))) else (caulkref13_ParseTable.j0 k a0 true)) = some (r1, r2) := h
  clear h
  have HC2 := Aside0.mk H
  clear H
  go_enter Try.func36, Try.ntmps36
  go_upto_region 1 with (fail)
  go_cut [17] (fun v17 wc => ∃ (kq : Nat) (x17_1 : Bool), v17 = .bool x17_1 ∧ Aside0 (caulkref13_ParseTable.j0 kq a0 x17_1 = some (r1, r2)) ∧ Aside0 (kq ≤ k) ∧ Aside0 (Below w.heap.size w wc))
  case first =>
    have H := HC2.out
    clear HC2
    by_cases c3 : ((a0.size : Int) % 8) = 0
    · rw [if_pos c3] at H
      have c3b0 : (((a0.size : Int) % 8) == 0) = true := beq_iff_eq.mpr c3
      have c3b1 : (((a0.size : Int) % 8) != 0) = false := bne_eq_false_iff_eq.mpr c3
      clear c3
      (first | rw [c3b0] | (simp only [i64_w, i32_w]; rw [c3b0]) | skip)
      have H' := Aside0.mk H
      clear H
      go_wp2
      go_meet
      case rel => exact ⟨_, (decide ((wrap64 ((a0.size : Int) / 8)) > 8192)), (by first | rfl | (simp; done) | (simp [*]; done)), H', ⟨by first | omega | exact Nat.le_refl _⟩, ⟨by repeat (first | (with_reducible first | exact HB.out | apply below_alloc | apply pw_below_drewN | apply below_drew1) | exact HB.out)⟩⟩
    · rw [if_neg c3] at H
      have c3b0 : (((a0.size : Int) % 8) == 0) = false := beq_eq_false_iff_ne.mpr c3
      have c3b1 : (((a0.size : Int) % 8) != 0) = true := bne_iff_ne.mpr c3
      (first | rw [c3b0] | (simp only [i64_w, i32_w]; rw [c3b0]) | skip)
      have H' := Aside0.mk H
      clear H
      go_wp2
      go_meet
      case rel => exact ⟨_, (true), (by first | rfl | (simp; done) | (simp [*]; done)), H', ⟨by first | omega | exact Nat.le_refl _⟩, ⟨by repeat (first | (with_reducible first | exact HB.out | apply below_alloc | apply pw_below_drewN | apply below_drew1) | exact HB.out)⟩⟩
  case rest =>
    clear HC2
    try clear p2
    try clear c3
    try clear c3b0
    try clear c3b1
    obtain ⟨kq, x17_1, rfl, HA, HJ1, HB⟩ := hcut
    cases kq with
    | zero => exact absurd HA.out (by simp [caulkref13_ParseTable.j0])
    | succ kj1 =>
      have H := HA.out
      clear HA
      simp only [caulkref13_ParseTable.j0] at H
      by_cases c4 : x17_1 = true
      · subst c4
        have H1 : (some (([] : List (S42)), 6)) = some (r1, r2) := by rw [if_pos rfl] at H; exact H
        clear H
        have H := H1
        clear H1
        simp only [Option.some.injEq, Prod.mk.injEq] at H
        obtain ⟨rfl, rfl⟩ := H
        go_wp2
        go_ret2
        exact ⟨_, by first | rfl | (simp [errW_none, errW_some] <;> rfl) | (simp [*, errW_none, errW_some] <;> rfl), by first | exact Kd.R_nil _ _ _ _ _ | exact Kd.N_nil _ _ _ _ _ | exact Kd.V_nil _ _ _ _ _ | exact Kd.Q_nil _ _ _ _ _ | exact Kd.S_nil _ _ _ _ _, by repeat (first | (with_reducible first | exact HB.out | apply below_alloc | apply pw_below_drewN | apply below_drew1) | exact HB.out)⟩
      · replace c4 := Bool.eq_false_iff.mpr c4
        subst c4
        have H1 : (caulkref13_ParseTable.l0 kj1 a0 ([] : List (S42)) 0) = some (r1, r2) := by rw [if_neg (show ¬ (false = true) by decide)] at H; exact H
        clear H
        have H := H1
        clear H1
        have H' := Aside0.mk H
        clear H
        go_wp2
        go_loopg [4, 5] kj1 (fun kq v4 v5 w' => ∃ (x4_2 : List (S42)) (x5_2 : Int), v5 = .int .i64 x5_2 ∧ Aside0 (caulkref13_ParseTable.l0 kq a0 x4_2 x5_2 = some (r1, r2)) ∧ Aside0 (kq ≤ kj1) ∧ Aside0 (Kd.R k42 42 w' w.heap.size (fun _ => True) v4 x4_2) ∧ Aside0 (Below w.heap.size w w'))
        case atStart => exact ⟨(([] : List (S42))), (0), (by first | rfl | (simp; done) | (simp [*]; done)), H', ⟨Nat.le_refl _⟩, ⟨by first | exact Kd.R_nil _ _ _ _ _ | exact Kd.N_nil _ _ _ _ _ | exact Kd.V_nil _ _ _ _ _ | exact Kd.Q_nil _ _ _ _ _ | exact Kd.S_nil _ _ _ _ _⟩, ⟨by repeat (first | (with_reducible first | exact HB.out | apply below_alloc | apply pw_below_drewN | apply below_drew1) | exact HB.out)⟩⟩
        case round =>
          clear H'
          try clear p2
          try clear c3
          try clear c3b0
          try clear c3b1
          try clear c4
          try clear p2
          obtain ⟨x4_2, x5_2, rfl, HA, HK2, HO_4, HB⟩ := hrel
          cases gk with
          | zero => exact absurd HA.out (by simp [caulkref13_ParseTable.l0])
          | succ k2 =>
            have H := HA.out
            clear HA
            simp only [caulkref13_ParseTable.l0] at H
            by_cases c5 : x5_2 < (a0.size : Int)
            · rw [if_pos c5] at H
              have c5b0 : decide (x5_2 < (a0.size : Int)) = true := decide_eq_true c5
              clear c5
              by_cases c6 : 0 ≤ x5_2
              · rw [if_pos c6] at H
                have c6b0 := eq_true c6
                have c6b1 : decide (0 ≤ x5_2) = true := decide_eq_true c6
                clear c6
                by_cases c7 : x5_2 ≤ (wrap64 (x5_2 + 8))
                · rw [if_pos c7] at H
                  have c7b0 := eq_true c7
                  have c7b1 : decide (x5_2 ≤ (wrap64 (x5_2 + 8))) = true := decide_eq_true c7
                  by_cases c8 : (wrap64 (x5_2 + 8)) ≤ (a0.size : Int)
                  · rw [if_pos c8] at H
                    have c8b0 := eq_true c8
                    have c8b1 : decide ((wrap64 (x5_2 + 8)) ≤ (a0.size : Int)) = true := decide_eq_true c8
                    replace H := Option.bind_eq_some_iff.mp H
                    obtain ⟨⟨t363, t364, t365, t366, t367⟩, A90, H⟩ := H
                    replace H : (if t367 = 0 then (if x4_2.length < 4398046511104 then (caulkref13_ParseTable.l0 k2 a0 (x4_2 ++ [(⟨t363, (⟨t364, t365⟩ : S40), t366⟩ : S42)]) (wrap64 (x5_2 + 8))) else (none)) else (some (([] : List (S42)), t367))) = some (r1, r2) := H
                    have A9 := Aside0.mk A90
                    clear A90
                    by_cases c10 : t367 = 0
                    · rw [if_pos c10] at H
                      have c10b0 : (t367 == 0) = true := beq_iff_eq.mpr c10
                      have c10b1 : (t367 != 0) = false := bne_eq_false_iff_eq.mpr c10
                      clear c10
                      by_cases c11 : x4_2.length < 4398046511104
                      · rw [if_pos c11] at H
                        have LMc11 := Aside0.mk c11
                        clear c11
                        obtain ⟨y369, hy369⟩ : ∃ y_ : List (S42), y_ = (x4_2 ++ [(⟨t363, (⟨t364, t365⟩ : S40), t366⟩ : S42)]) := ⟨_, rfl⟩
                        replace H : (caulkref13_ParseTable.l0 k2 a0 y369 (wrap64 (x5_2 + 8))) = some (r1, r2) := by first | (rw [hy369]; with_reducible exact H) | (have H2_ := (Option.bind_some _ _).symm.trans H; rw [hy369]; with_reducible exact H2_) | (have H2_ := (Option.bind_some _ _).symm.trans H; with_reducible exact H2_) | with_reducible exact H | (rw [hy369]; exact H) | exact H
                        have Ny369 := Aside0.mk hy369
                        clear hy369
                        have H' := Aside0.mk H
                        clear H
                        go_wp2_with (first | ((with_reducible refine gate_callee (f := 27) rfl ?_); refine goesL_ (some 30) rfl rfl Try.func27 (by kernel_rfl) rfl #[.string (a0.extract (x5_2 : Int).toNat ((wrap64 (x5_2 + 8)) : Int).toNat)] rfl (by (try simp only [List.map_toArray, List.map_cons, List.map_nil]); first | done | rfl | (simp only [List.length_drop, List.length_take]; rfl)) ?_; (with_reducible refine (caulkref13_Parse.calls k2 (a0.extract (x5_2 : Int).toNat ((wrap64 (x5_2 + 8)) : Int).toNat) t363 t364 t365 t366 t367 _ A9.out).mono ?_); rintro e w12 ⟨rfl, hb⟩; refine ⟨_, rfl, ?_⟩; have n0_ := Aside0.mk (Kd.R_below (by (with_reducible repeat (first | apply Kd.R_alloc | apply Kd.R_drewN | apply Kd.R_drew)); exact HO_4.out) hb); have n1_ := Aside0.mk (below_step (by repeat (first | (with_reducible first | exact HB.out | apply below_alloc | apply pw_below_drewN | apply below_drew1) | exact HB.out)) hb); clear HO_4; clear HB; have HO_4 := n0_; have HB := n1_; clear n0_ n1_; (try clear hb); (try clear hb2); (try clear hk); (try clear hi)) | ((with_reducible refine gate_dst (N := 6) rfl ?_); (try (refine gate_guard (by rfl) ?_; dsimp only)); refine box_event ?hg (N := 6) ?hd (cs := #[.int .u8 0, .int .i64 0, .int .i64 0, .int .i64 0]) (t := 42) ?hr ?_; (case hd => rfl); (case hg => rfl); (case hr => first | (go_simp; done) | (go_simp; rfl)); intro gb368 hg w13 hbox hb; have n0_ := Aside0.mk (Kd.R_below (Kd.R_elderB (by (with_reducible repeat (first | apply Kd.R_alloc | apply Kd.R_drewN | apply Kd.R_drew)); exact HO_4.out) gb368 (Nat.le_of_eq hg.symm)) hb); have n1_ := Aside0.mk (below_step (by repeat (first | (with_reducible first | exact HB.out | apply below_alloc | apply pw_below_drewN | apply below_drew1) | exact HB.out)) hb); have n2_ := Aside0.mk (hbox); have n3_ := Aside0.mk ((by rw [hg]; exact (below_size (by repeat (first | (with_reducible first | exact HB.out | apply below_alloc | apply pw_below_drewN | apply below_drew1) | exact HB.out))) : w.heap.size ≤ gb368)); have n4_ := Aside0.mk ((by rw [hg]; exact (below_size (by repeat (first | (with_reducible first | exact HB.out | apply below_alloc | apply pw_below_drewN | apply below_drew1) | exact HB.out))) : w.heap.size ≤ gb368)); clear HO_4; clear HB; have HO_4 := n0_; have HB := n1_; have BK368 := n2_; have GW368 := n3_; have GE368 := n4_; clear n0_ n1_ n2_ n3_ n4_; clear hb hbox hg; have hcz14_0 : w13.cell? ⟨gb368, 0, none⟩ = some (.int .u8 0) := (blk_cell BK368.out 0).trans rfl; have hcz14_1 : w13.cell? ⟨gb368, 1, none⟩ = some (.int .i64 0) := (blk_cell BK368.out 1).trans rfl; have hcz14_2 : w13.cell? ⟨gb368, 2, none⟩ = some (.int .i64 0) := (blk_cell BK368.out 2).trans rfl; have hcz14_3 : w13.cell? ⟨gb368, 3, none⟩ = some (.int .i64 0) := (blk_cell BK368.out 3).trans rfl; have hfz14_0 := blk_frozen BK368.out 0; have hfz14_1 := blk_frozen BK368.out 1; have hfz14_2 := blk_frozen BK368.out 2; have hfz14_3 := blk_frozen BK368.out 3) | ((with_reducible refine gate_builtin (b := .append) (xs := #[.tmp 36, .tmp 38]) rfl ?_); (try (refine gate_guard (by rfl) ?_; dsimp only)); at_builtin; refine Kd.R_append k42 (w0 := w) w.heap.size rfl (.tmp 36) (.tmp 38) 50 42 (.agg #[(.int .u8 0), (.int .i64 0), (.int .i64 0), (.int .i64 0)]) 32 rfl Try.underlying50 info42 rfl (by decide) (by omega) u4 x4_2 (⟨t363, (⟨t364, t365⟩ : S40), t366⟩ : S42) [.int .u8 t363, .int .i64 t364, .int .i64 t365, .int .i64 t366] (fun k_ => k_ ≠ gb368) (fun _ => False) rfl (by first | (go_simp; done) | (go_simp; rfl)) ?aP (fun _ hk => hk.elim) ?aF ?aO ?aB ?aS ?aL ?_; (case aP => exact k42_mkM _ _ _ (⟨t363, (⟨t364, t365⟩ : S40), t366⟩ : S42)); (case aB => exact (by repeat (first | (with_reducible first | exact HB.out | apply below_alloc | apply pw_below_drewN | apply below_drew1 | refine below_set ?_ GE368.out) | exact HB.out))); (case aF => exact (fun k_ hk => Kd.freshB (g := gb368) (o := .cells #[.int .u8 t363, .int .i64 t364, .int .i64 t365, .int .i64 t366] 42 (0, 0)) (by (with_reducible repeat (first | refine blk_drewN ?_ _ | refine blk_drew ?_ | refine blk_alloc ?_ _)); refine blk_put (cs := #[.int .u8 t363, .int .i64 t364, .int .i64 t365, .int .i64 0]) ?_ 3 _ rfl; (with_reducible repeat (first | refine blk_drewN ?_ _ | refine blk_drew ?_ | refine blk_alloc ?_ _)); refine blk_put (cs := #[.int .u8 t363, .int .i64 t364, .int .i64 0, .int .i64 0]) ?_ 2 _ rfl; (with_reducible repeat (first | refine blk_drewN ?_ _ | refine blk_drew ?_ | refine blk_alloc ?_ _)); refine blk_put (cs := #[.int .u8 t363, .int .i64 0, .int .i64 0, .int .i64 0]) ?_ 1 _ rfl; (with_reducible repeat (first | refine blk_drewN ?_ _ | refine blk_drew ?_ | refine blk_alloc ?_ _)); refine blk_put (cs := #[.int .u8 0, .int .i64 0, .int .i64 0, .int .i64 0]) ?_ 0 _ rfl; (with_reducible repeat (first | refine blk_drewN ?_ _ | refine blk_drew ?_ | refine blk_alloc ?_ _)); exact BK368.out) k_ hk)); (case aO => exact (by (with_reducible repeat (first | apply Kd.R_alloc | apply Kd.R_drewN | apply Kd.R_drew)); exact Kd.R_mono (Kd.R_far (p := ⟨gb368, 3, none⟩) (Kd.R_far (p := ⟨gb368, 2, none⟩) (Kd.R_far (p := ⟨gb368, 1, none⟩) (Kd.R_far (p := ⟨gb368, 0, none⟩) (Kd.R_mono HO_4.out (fun k_ hk => (⟨hk, hk.2⟩ : _ ∧ k_ ≠ gb368))) (fun _ hk => hk.2) (.int .u8 t363)) (fun _ hk => hk.2) (.int .i64 t364)) (fun _ hk => hk.2) (.int .i64 t365)) (fun _ hk => hk.2) (.int .i64 t366)) (fun _ hk => hk.1.2))); (case aS => exact (below_size (by repeat (first | (with_reducible first | exact HB.out | apply below_alloc | apply pw_below_drewN | apply below_drew1 | refine below_set ?_ GE368.out) | exact HB.out)))); (case aL => have := LMc11.out; omega); intro v370 w15 ho hb hg hat; rw [← Ny369.out] at ho; have n0_ := Aside0.mk (blk_grown (g := gb368) (o := .cells #[.int .u8 t363, .int .i64 t364, .int .i64 t365, .int .i64 t366] 42 (0, 0)) (by (with_reducible repeat (first | refine blk_drewN ?_ _ | refine blk_drew ?_ | refine blk_alloc ?_ _)); refine blk_put (cs := #[.int .u8 t363, .int .i64 t364, .int .i64 t365, .int .i64 0]) ?_ 3 _ rfl; (with_reducible repeat (first | refine blk_drewN ?_ _ | refine blk_drew ?_ | refine blk_alloc ?_ _)); refine blk_put (cs := #[.int .u8 t363, .int .i64 t364, .int .i64 0, .int .i64 0]) ?_ 2 _ rfl; (with_reducible repeat (first | refine blk_drewN ?_ _ | refine blk_drew ?_ | refine blk_alloc ?_ _)); refine blk_put (cs := #[.int .u8 t363, .int .i64 0, .int .i64 0, .int .i64 0]) ?_ 1 _ rfl; (with_reducible repeat (first | refine blk_drewN ?_ _ | refine blk_drew ?_ | refine blk_alloc ?_ _)); refine blk_put (cs := #[.int .u8 0, .int .i64 0, .int .i64 0, .int .i64 0]) ?_ 0 _ rfl; (with_reducible repeat (first | refine blk_drewN ?_ _ | refine blk_drew ?_ | refine blk_alloc ?_ _)); exact BK368.out) hg (Kd.R_away HO_4.out (fun _ hk => hk.2))); have n1_ := Aside0.mk (hb); have n2_ := Aside0.mk (ho); clear BK368; clear HB; clear HO_4; have BK368 := n0_; have HB := n1_; have HO371 := n2_; clear n0_ n1_ n2_; clear ho hb hg hat))
                        go_roundg k2
                        case measure => have := HJ1.out; have := HK2.out; omega
                        case rel => exact ⟨(y369), (wrap64 (x5_2 + 8)), (by first | rfl | (simp; done) | (simp [*]; done)), H', ⟨by have := HJ1.out; have := HK2.out; omega⟩, ⟨by (with_reducible repeat (first | apply Kd.R_alloc | apply Kd.R_drewN | apply Kd.R_drew)); exact Kd.R_mono HO371.out (fun _ hk => trivial)⟩, ⟨by repeat (first | (with_reducible first | exact HB.out | apply below_alloc | apply pw_below_drewN | apply below_drew1 | refine below_set ?_ GE368.out) | exact HB.out)⟩⟩
                      · rw [if_neg c11] at H
                        exact absurd H (by simp)
                    · rw [if_neg c10] at H
                      have c10b0 : (t367 == 0) = false := beq_eq_false_iff_ne.mpr c10
                      have c10b1 : (t367 != 0) = true := bne_iff_ne.mpr c10
                      simp only [Option.some.injEq, Prod.mk.injEq] at H
                      obtain ⟨rfl, rfl⟩ := H
                      go_wp2_with (first | ((with_reducible refine gate_callee (f := 27) rfl ?_); refine goesL_ (some 30) rfl rfl Try.func27 (by kernel_rfl) rfl #[.string (a0.extract (x5_2 : Int).toNat ((wrap64 (x5_2 + 8)) : Int).toNat)] rfl (by (try simp only [List.map_toArray, List.map_cons, List.map_nil]); first | done | rfl | (simp only [List.length_drop, List.length_take]; rfl)) ?_; (with_reducible refine (caulkref13_Parse.calls k2 (a0.extract (x5_2 : Int).toNat ((wrap64 (x5_2 + 8)) : Int).toNat) t363 t364 t365 t366 t367 _ A9.out).mono ?_); rintro e w16 ⟨rfl, hb⟩; refine ⟨_, rfl, ?_⟩; have n0_ := Aside0.mk (Kd.R_below (by (with_reducible repeat (first | apply Kd.R_alloc | apply Kd.R_drewN | apply Kd.R_drew)); exact HO_4.out) hb); have n1_ := Aside0.mk (below_step (by repeat (first | (with_reducible first | exact HB.out | apply below_alloc | apply pw_below_drewN | apply below_drew1) | exact HB.out)) hb); clear HO_4; clear HB; have HO_4 := n0_; have HB := n1_; clear n0_ n1_; (try clear hb); (try clear hb2); (try clear hk); (try clear hi)) | ((with_reducible refine gate_dst (N := 6) rfl ?_); (try (refine gate_guard (by rfl) ?_; dsimp only)); refine box_event ?hg (N := 6) ?hd (cs := #[.int .u8 0, .int .i64 0, .int .i64 0, .int .i64 0]) (t := 42) ?hr ?_; (case hd => rfl); (case hg => rfl); (case hr => first | (go_simp; done) | (go_simp; rfl)); intro gb368 hg w17 hbox hb; have n0_ := Aside0.mk (Kd.R_below (Kd.R_elderB (by (with_reducible repeat (first | apply Kd.R_alloc | apply Kd.R_drewN | apply Kd.R_drew)); exact HO_4.out) gb368 (Nat.le_of_eq hg.symm)) hb); have n1_ := Aside0.mk (below_step (by repeat (first | (with_reducible first | exact HB.out | apply below_alloc | apply pw_below_drewN | apply below_drew1) | exact HB.out)) hb); have n2_ := Aside0.mk (hbox); have n3_ := Aside0.mk ((by rw [hg]; exact (below_size (by repeat (first | (with_reducible first | exact HB.out | apply below_alloc | apply pw_below_drewN | apply below_drew1) | exact HB.out))) : w.heap.size ≤ gb368)); have n4_ := Aside0.mk ((by rw [hg]; exact (below_size (by repeat (first | (with_reducible first | exact HB.out | apply below_alloc | apply pw_below_drewN | apply below_drew1) | exact HB.out))) : w.heap.size ≤ gb368)); clear HO_4; clear HB; have HO_4 := n0_; have HB := n1_; have BK368 := n2_; have GW368 := n3_; have GE368 := n4_; clear n0_ n1_ n2_ n3_ n4_; clear hb hbox hg; have hcz18_0 : w17.cell? ⟨gb368, 0, none⟩ = some (.int .u8 0) := (blk_cell BK368.out 0).trans rfl; have hcz18_1 : w17.cell? ⟨gb368, 1, none⟩ = some (.int .i64 0) := (blk_cell BK368.out 1).trans rfl; have hcz18_2 : w17.cell? ⟨gb368, 2, none⟩ = some (.int .i64 0) := (blk_cell BK368.out 2).trans rfl; have hcz18_3 : w17.cell? ⟨gb368, 3, none⟩ = some (.int .i64 0) := (blk_cell BK368.out 3).trans rfl; have hfz18_0 := blk_frozen BK368.out 0; have hfz18_1 := blk_frozen BK368.out 1; have hfz18_2 := blk_frozen BK368.out 2; have hfz18_3 := blk_frozen BK368.out 3))
                      go_ret2
                      exact ⟨_, by first | rfl | (simp [errW_none, errW_some] <;> rfl) | (simp [*, errW_none, errW_some] <;> rfl), by first | exact Kd.R_nil _ _ _ _ _ | exact Kd.N_nil _ _ _ _ _ | exact Kd.V_nil _ _ _ _ _ | exact Kd.Q_nil _ _ _ _ _ | exact Kd.S_nil _ _ _ _ _, by repeat (first | (with_reducible first | exact HB.out | apply below_alloc | apply pw_below_drewN | apply below_drew1 | refine below_set ?_ GE368.out) | exact HB.out)⟩
                  · rw [if_neg c8] at H
                    exact absurd H (by simp)
                · rw [if_neg c7] at H
                  exact absurd H (by simp)
              · rw [if_neg c6] at H
                exact absurd H (by simp)
            · rw [if_neg c5] at H
              have c5b0 : decide (x5_2 < (a0.size : Int)) = false := decide_eq_false c5
              clear c5
              simp only [Option.some.injEq, Prod.mk.injEq] at H
              obtain ⟨rfl, rfl⟩ := H
              go_wp2
              go_ret2
              exact ⟨_, by first | rfl | (simp [errW_none, errW_some] <;> rfl) | (simp [*, errW_none, errW_some] <;> rfl), by (with_reducible repeat (first | apply Kd.R_alloc | apply Kd.R_drewN | apply Kd.R_drew)); exact HO_4.out, by repeat (first | (with_reducible first | exact HB.out | apply below_alloc | apply pw_below_drewN | apply below_drew1) | exact HB.out)⟩

/-! ### caulklaw13_EntryTables: function 8 -/
def caulklaw13_EntryTables.f (k : Nat) (l0 : List (S42)) (a1 : ByteArray) : Option (Bool) := if (a1.size : Int) > 131072 then ((caulklaw13_lives.f k).bind fun t372 => (some t372)) else ((entry_Table.f k l0).bind fun bt373 => ((caulkref13_Table.f k l0).bind fun bt375 => ((entry_ParseTable.f k a1).bind fun bt377 => ((caulkref13_ParseTable.f k a1).bind fun bt381 => ((caulklaw13_lives.f k).bind fun t385 => (if t385 = true then (if bt373.1.toList = bt375.1.toList then (if bt373.2 = bt375.2 then ((caulkref13_Same.f k bt377.1 bt381.1).bind fun t386 => (if t386 = true then (some (bt377.2 == bt381.2)) else (none))) else (none)) else (none)) else (none)))))))
theorem caulklaw13_EntryTables.mono : ∀ a0 a1 k, LeO (caulklaw13_EntryTables.f k a0 a1) (caulklaw13_EntryTables.f (k + 1) a0 a1) := by
  intro a0 a1 k
  unfold caulklaw13_EntryTables.f
  repeat' first
      | (with_reducible exact caulklaw13_lives.mono _)
      | (with_reducible exact caulkref13_ParseTable.mono _ _)
      | (with_reducible exact caulkref13_Same.mono _ _ _)
      | (with_reducible exact caulkref13_Table.mono _ _)
      | (with_reducible exact entry_ParseTable.mono _ _)
      | (with_reducible exact entry_Table.mono _ _)
      | (with_reducible exact LeO.refl _)
      | (with_reducible exact LeO.none _)
      | (with_reducible refine LeO.ite ?_ ?_)
      | (with_reducible refine LeO.bind ?_ (fun _ => ?_))
      | exact caulklaw13_lives.mono _
      | exact caulkref13_ParseTable.mono _ _
      | exact caulkref13_Same.mono _ _ _
      | exact caulkref13_Table.mono _ _
      | exact entry_ParseTable.mono _ _
      | exact entry_Table.mono _ _
      | exact LeO.none _
      | refine LeO.ite ?_ ?_
      | refine LeO.bind ?_ (fun _ => ?_)
set_option maxHeartbeats 8000000 in
set_option maxRecDepth 100000 in
theorem caulklaw13_EntryTables.calls (k : Nat) (A0 : Option Addr) (c0 : Nat) (l0 : List (S42)) (a1 : ByteArray) (r : Bool) (w : World) (hr0 : Kd.C k42 w A0 l0.length l0) (hc0 : l0.length ≤ c0) (h : caulklaw13_EntryTables.f k l0 a1 = some r) :
    Calls Try.prog 8 #[.slice A0 l0.length c0, .string a1] w fun e w' => e = .returned (.bool r) ∧ Below w.heap.size w w' := by
  have HR0 := Aside0.mk hr0
  have HC0 := Aside0.mk hc0
  clear hr0 hc0
  have HB := Aside0.mk (Below.refl w.heap.size w)
  have H : (if (a1.size : Int) > 131072 then ((caulklaw13_lives.f k).bind fun t372 => (some t372)) else ((entry_Table.f k l0).bind fun bt373 => ((caulkref13_Table.f k l0).bind fun bt375 => ((entry_ParseTable.f k a1).bind fun bt377 => ((caulkref13_ParseTable.f k a1).bind fun bt381 => ((caulklaw13_lives.f k).bind fun t385 => (if t385 = true then (if bt373.1.toList = bt375.1.toList then (if bt373.2 = bt375.2 then ((caulkref13_Same.f k bt377.1 bt381.1).bind fun t386 => (if t386 = true then (some (bt377.2 == bt381.2)) else (none))) else (none)) else (none)) else (none)))))))) = some r := h
  clear h
  by_cases c3 : (a1.size : Int) > 131072
  · rw [if_pos c3] at H
    have c3b0 : decide (131072 < (a1.size : Int)) = true := decide_eq_true c3
    have c3b1 : decide (131072 < a1.size) = true := decide_eq_true (by omega)
    clear c3
    replace H := Option.bind_eq_some_iff.mp H
    obtain ⟨t372, A40, H⟩ := H
    replace H : (some t372) = some r := H
    have A4 := Aside0.mk A40
    clear A40
    obtain rfl := Option.some.inj H
    go_enter Try.func8, Try.ntmps8
    go_wp2_with (first | ((with_reducible refine gate_callee (f := 28) rfl ?_); refine goesL_ (some 16) rfl rfl Try.func28 (by kernel_rfl) rfl #[] rfl (by (try simp only [List.map_toArray, List.map_cons, List.map_nil]); first | done | rfl | (simp only [List.length_drop, List.length_take]; rfl)) ?_; (with_reducible refine (caulklaw13_lives.calls k  t372 _ A4.out).mono ?_); rintro e w5 ⟨rfl, hb⟩; refine ⟨_, rfl, ?_⟩; have n0_ := Aside0.mk (below_step (by repeat (first | (with_reducible first | exact HB.out | apply below_alloc | apply pw_below_drewN | apply below_drew1) | exact HB.out)) hb); clear HB; have HB := n0_; clear n0_; (try clear hb); (try clear hb2); (try clear hk); (try clear hi)))
    go_ret
    exact ⟨by first | rfl | (simp [errW_none, errW_some] <;> rfl) | (simp [*, errW_none, errW_some] <;> rfl), by repeat (first | (with_reducible first | exact HB.out | apply below_alloc | apply pw_below_drewN | apply below_drew1) | exact HB.out)⟩
  · rw [if_neg c3] at H
    have c3b0 : decide (131072 < (a1.size : Int)) = false := decide_eq_false c3
    have c3b1 : decide (131072 < a1.size) = false := decide_eq_false (by omega)
    clear c3
    replace H := Option.bind_eq_some_iff.mp H
    obtain ⟨⟨t373, t374⟩, A60, H⟩ := H
    replace H : ((caulkref13_Table.f k l0).bind fun bt375 => ((entry_ParseTable.f k a1).bind fun bt377 => ((caulkref13_ParseTable.f k a1).bind fun bt381 => ((caulklaw13_lives.f k).bind fun t385 => (if t385 = true then (if t373.toList = bt375.1.toList then (if t374 = bt375.2 then ((caulkref13_Same.f k bt377.1 bt381.1).bind fun t386 => (if t386 = true then (some (bt377.2 == bt381.2)) else (none))) else (none)) else (none)) else (none)))))) = some r := H
    have A6 := Aside0.mk A60
    clear A60
    replace H := Option.bind_eq_some_iff.mp H
    obtain ⟨⟨t375, t376⟩, A70, H⟩ := H
    replace H : ((entry_ParseTable.f k a1).bind fun bt377 => ((caulkref13_ParseTable.f k a1).bind fun bt381 => ((caulklaw13_lives.f k).bind fun t385 => (if t385 = true then (if t373.toList = t375.toList then (if t374 = t376 then ((caulkref13_Same.f k bt377.1 bt381.1).bind fun t386 => (if t386 = true then (some (bt377.2 == bt381.2)) else (none))) else (none)) else (none)) else (none))))) = some r := H
    have A7 := Aside0.mk A70
    clear A70
    replace H := Option.bind_eq_some_iff.mp H
    obtain ⟨⟨t377, t378⟩, A80, H⟩ := H
    replace H : ((caulkref13_ParseTable.f k a1).bind fun bt381 => ((caulklaw13_lives.f k).bind fun t385 => (if t385 = true then (if t373.toList = t375.toList then (if t374 = t376 then ((caulkref13_Same.f k t377 bt381.1).bind fun t386 => (if t386 = true then (some (t378 == bt381.2)) else (none))) else (none)) else (none)) else (none)))) = some r := H
    have A8 := Aside0.mk A80
    clear A80
    replace H := Option.bind_eq_some_iff.mp H
    obtain ⟨⟨t381, t382⟩, A90, H⟩ := H
    replace H : ((caulklaw13_lives.f k).bind fun t385 => (if t385 = true then (if t373.toList = t375.toList then (if t374 = t376 then ((caulkref13_Same.f k t377 t381).bind fun t386 => (if t386 = true then (some (t378 == t382)) else (none))) else (none)) else (none)) else (none))) = some r := H
    have A9 := Aside0.mk A90
    clear A90
    replace H := Option.bind_eq_some_iff.mp H
    obtain ⟨t385, A100, H⟩ := H
    replace H : (if t385 = true then (if t373.toList = t375.toList then (if t374 = t376 then ((caulkref13_Same.f k t377 t381).bind fun t386 => (if t386 = true then (some (t378 == t382)) else (none))) else (none)) else (none)) else (none)) = some r := H
    have A10 := Aside0.mk A100
    clear A100
    by_cases c11 : t385 = true
    · subst c11
      have H1 : (if t373.toList = t375.toList then (if t374 = t376 then ((caulkref13_Same.f k t377 t381).bind fun t386 => (if t386 = true then (some (t378 == t382)) else (none))) else (none)) else (none)) = some r := by rw [if_pos rfl] at H; exact H
      clear H
      have H := H1
      clear H1
      by_cases c12 : t373.toList = t375.toList
      · rw [if_pos c12] at H
        have c12b0 : (t373.toList == t375.toList) = true := beq_iff_eq.mpr c12
        have c12b1 : (t373.toList != t375.toList) = false := bne_eq_false_iff_eq.mpr c12
        clear c12
        by_cases c13 : t374 = t376
        · rw [if_pos c13] at H
          have c13b0 : (t374 == t376) = true := beq_iff_eq.mpr c13
          have c13b1 : (t374 != t376) = false := bne_eq_false_iff_eq.mpr c13
          clear c13
          replace H := Option.bind_eq_some_iff.mp H
          obtain ⟨t386, A140, H⟩ := H
          replace H : (if t386 = true then (some (t378 == t382)) else (none)) = some r := H
          have A14 := Aside0.mk A140
          clear A140
          by_cases c15 : t386 = true
          · subst c15
            have H1 : (some (t378 == t382)) = some r := by rw [if_pos rfl] at H; exact H
            clear H
            have H := H1
            clear H1
            obtain rfl := Option.some.inj H
            go_enter Try.func8, Try.ntmps8
            go_wp2_with (first | ((with_reducible refine gate_callee (f := 33) rfl ?_); refine goesL_ (some 19) rfl rfl Try.func33 (by kernel_rfl) rfl #[.slice A0 l0.length c0] rfl (by (try simp only [List.map_toArray, List.map_cons, List.map_nil]); first | done | rfl | (simp only [List.length_drop, List.length_take]; rfl)) ?_; (with_reducible refine (entry_Table.calls k _ _ l0 t373 t374 _ ?side1 ?side2 A6.out).mono ?_); (case side1 => repeat (first | exact HR0.out | (with_reducible refine Kd.C_alloc ?_ _) | (with_reducible refine Kd.C_drewN ?_ _) | (with_reducible refine Kd.C_drew ?_))); (case side2 => exact HC0.out); rintro e w16 ⟨rfl, hb⟩; refine ⟨_, rfl, ?_⟩; have n0_ := Aside0.mk (below_step (by repeat (first | (with_reducible first | exact HB.out | apply below_alloc | apply pw_below_drewN | apply below_drew1) | exact HB.out)) hb); clear HB; have HB := n0_; clear n0_; (try clear hb); (try clear hb2); (try clear hk); (try clear hi)) | ((with_reducible refine gate_callee (f := 34) rfl ?_); refine goesL_ (some 24) rfl rfl Try.func34 (by kernel_rfl) rfl #[.slice A0 l0.length c0] rfl (by (try simp only [List.map_toArray, List.map_cons, List.map_nil]); first | done | rfl | (simp only [List.length_drop, List.length_take]; rfl)) ?_; (with_reducible refine (caulkref13_Table.calls k _ _ l0 t375 t376 _ ?side1 ?side2 A7.out).mono ?_); (case side1 => repeat (first | exact (Kd.C_below HR0.out HB.out) | (with_reducible refine Kd.C_alloc ?_ _) | (with_reducible refine Kd.C_drewN ?_ _) | (with_reducible refine Kd.C_drew ?_))); (case side2 => exact HC0.out); rintro e w17 ⟨rfl, hb⟩; refine ⟨_, rfl, ?_⟩; have n0_ := Aside0.mk (below_step (by repeat (first | (with_reducible first | exact HB.out | apply below_alloc | apply pw_below_drewN | apply below_drew1) | exact HB.out)) hb); clear HB; have HB := n0_; clear n0_; (try clear hb); (try clear hb2); (try clear hk); (try clear hi)) | ((with_reducible refine gate_callee (f := 35) rfl ?_); refine goesL_ (some 29) rfl rfl Try.func35 (by kernel_rfl) rfl #[.string a1] rfl (by (try simp only [List.map_toArray, List.map_cons, List.map_nil]); first | done | rfl | (simp only [List.length_drop, List.length_take]; rfl)) ?_; (with_reducible refine (entry_ParseTable.calls k a1 t377 t378 _ A8.out).mono ?_); rintro e w18 ⟨v379, rfl, ho0, hb⟩; refine ⟨_, rfl, ?_⟩; have n0_ := Aside0.mk (Kd.R_lower ho0 (below_size (by repeat (first | (with_reducible first | exact HB.out | apply below_alloc | apply pw_below_drewN | apply below_drew1) | exact HB.out)))); have n1_ := Aside0.mk (below_step (by repeat (first | (with_reducible first | exact HB.out | apply below_alloc | apply pw_below_drewN | apply below_drew1) | exact HB.out)) hb); clear HB; have HO380 := n0_; have HB := n1_; clear n0_ n1_; (try clear hb); (try clear hb2); (try clear hk); (try clear hi); (try clear ho0)) | ((with_reducible refine gate_callee (f := 36) rfl ?_); refine goesL_ (some 34) rfl rfl Try.func36 (by kernel_rfl) rfl #[.string a1] rfl (by (try simp only [List.map_toArray, List.map_cons, List.map_nil]); first | done | rfl | (simp only [List.length_drop, List.length_take]; rfl)) ?_; (with_reducible refine (caulkref13_ParseTable.calls k a1 t381 t382 _ A9.out).mono ?_); rintro e w19 ⟨v383, rfl, ho0, hb⟩; refine ⟨_, rfl, ?_⟩; have n0_ := Aside0.mk (Kd.R_elder' (by (with_reducible repeat (first | apply Kd.R_alloc | apply Kd.R_drewN | apply Kd.R_drew)); exact HO380.out) (Kd.R_base ho0) hb); have n1_ := Aside0.mk (Kd.R_lower (Kd.R_new' ho0 (Kd.R_lt (by (with_reducible repeat (first | apply Kd.R_alloc | apply Kd.R_drewN | apply Kd.R_drew)); exact HO380.out))) (below_size (by repeat (first | (with_reducible first | exact HB.out | apply below_alloc | apply pw_below_drewN | apply below_drew1) | exact HB.out)))); have n2_ := Aside0.mk (below_step (by repeat (first | (with_reducible first | exact HB.out | apply below_alloc | apply pw_below_drewN | apply below_drew1) | exact HB.out)) hb); clear HO380; clear HB; have HO380 := n0_; have HO384 := n1_; have HB := n2_; clear n0_ n1_ n2_; (try clear hb); (try clear hb2); (try clear hk); (try clear hi); (try clear ho0)) | ((with_reducible refine gate_callee (f := 28) rfl ?_); refine goesL_ (some 37) rfl rfl Try.func28 (by kernel_rfl) rfl #[] rfl (by (try simp only [List.map_toArray, List.map_cons, List.map_nil]); first | done | rfl | (simp only [List.length_drop, List.length_take]; rfl)) ?_; (with_reducible refine (caulklaw13_lives.calls k  true _ A10.out).mono ?_); rintro e w20 ⟨rfl, hb⟩; refine ⟨_, rfl, ?_⟩; have n0_ := Aside0.mk (Kd.R_below (by (with_reducible repeat (first | apply Kd.R_alloc | apply Kd.R_drewN | apply Kd.R_drew)); exact HO380.out) hb); have n1_ := Aside0.mk (Kd.R_below (by (with_reducible repeat (first | apply Kd.R_alloc | apply Kd.R_drewN | apply Kd.R_drew)); exact HO384.out) hb); have n2_ := Aside0.mk (below_step (by repeat (first | (with_reducible first | exact HB.out | apply below_alloc | apply pw_below_drewN | apply below_drew1) | exact HB.out)) hb); clear HO380; clear HO384; clear HB; have HO380 := n0_; have HO384 := n1_; have HB := n2_; clear n0_ n1_ n2_; (try clear hb); (try clear hb2); (try clear hk); (try clear hi); obtain ⟨Ao21, co21, eo21⟩ := Kd.R_slice HO380.out; subst eo21; obtain ⟨Ao22, co22, eo22⟩ := Kd.R_slice HO384.out; subst eo22) | (go_at_call 37; (with_reducible refine (caulkref13_Same.calls k _ _ t377 _ _ t381 true _ ?side1 ?side2 ?side3 ?side4 A14.out).mono ?_); (case side1 => repeat (first | exact (Kd.R_reads' HO380.out).2.2 | (with_reducible refine Kd.C_alloc ?_ _) | (with_reducible refine Kd.C_drewN ?_ _) | (with_reducible refine Kd.C_drew ?_))); (case side2 => exact (Kd.R_reads' HO380.out).2.1); (case side3 => repeat (first | exact (Kd.R_reads' HO384.out).2.2 | (with_reducible refine Kd.C_alloc ?_ _) | (with_reducible refine Kd.C_drewN ?_ _) | (with_reducible refine Kd.C_drew ?_))); (case side4 => exact (Kd.R_reads' HO384.out).2.1); rintro e w' ⟨rfl, ⟨nd, rfl⟩⟩))
            go_ret
            exact ⟨by first | rfl | (simp [errW_none, errW_some] <;> rfl) | (simp [*, errW_none, errW_some] <;> rfl), by repeat (first | (with_reducible first | exact HB.out | apply below_alloc | apply pw_below_drewN | apply below_drew1) | exact HB.out)⟩
          · replace c15 := Bool.eq_false_iff.mpr c15
            subst c15
            have H1 : (none) = some r := by rw [if_neg (show ¬ (false = true) by decide)] at H; exact H
            clear H
            have H := H1
            clear H1
            exact absurd H (by simp)
        · rw [if_neg c13] at H
          exact absurd H (by simp)
      · rw [if_neg c12] at H
        exact absurd H (by simp)
    · replace c11 := Bool.eq_false_iff.mpr c11
      subst c11
      have H1 : (none) = some r := by rw [if_neg (show ¬ (false = true) by decide)] at H; exact H
      clear H
      have H := H1
      clear H1
      exact absurd H (by simp)

def caulklaw13_EntryTables.Pure : Prop := ∀ (l0 : List (S42)) (a1 : ByteArray), (l0.length * 32 ≤ 140737488351232 ∧ ∀ x0_ ∈ l0, ((Lit.int .u8 x0_.f0).wf = true ∧ ((Lit.int .i64 x0_.f1.f0).wf = true ∧ (Lit.int .i64 x0_.f1.f1).wf = true) ∧ (Lit.int .i64 x0_.f2).wf = true)) → a1.size ≤ 140737488351232 → ∃ k, caulklaw13_EntryTables.f k l0 a1 = some true

/-! ### caulklaw13_EntryBack: function 9 -/
mutual
def caulklaw13_EntryBack.j0 : Nat → ByteArray → List (S42) → Int → ByteArray → Int → Bool → Option (Bool)
  | 0, _, _, _, _, _, _ => none
  | k + 1, x1, x9, x10, x11, x12, x56 => if x56 = true then (none) else (caulklaw13_EntryBack.l0 k x1 x10 x11 x12 x9 (x9.length : Int) 0)
def caulklaw13_EntryBack.l0 : Nat → ByteArray → Int → ByteArray → Int → List (S42) → Int → Int → Option (Bool)
  | 0, _, _, _, _, _, _, _ => none
  | k + 1, x1, x10, x11, x12, x57, x58, x59 => if x59 < x58 then (if 0 ≤ x59 then (if x59 < (x57.length : Int) then ((entry_Check.f ((rd_T42 x57 x59).f0) ((rd_T42 x57 x59).f1.f0) ((rd_T42 x57 x59).f1.f1) ((rd_T42 x57 x59).f2)).bind fun t403 => (if t403 = 0 then (caulklaw13_EntryBack.l0 k x1 x10 x11 x12 x57 x58 (wrap64 (x59 + 1))) else (none))) else (none)) else (none)) else (if x10 = 0 then (if x12 = 0 then (some (x11.toList == x1.toList)) else (none)) else (some true))
end
def caulklaw13_EntryBack.f (k : Nat) (l0 : List (S42)) (a1 : ByteArray) : Option (Bool) := (caulklaw13_lives.f k).bind fun t387 => (if t387 = true then ((entry_Table.f k l0).bind fun bt388 => ((entry_ParseTable.f k bt388.1).bind fun bt390 => ((entry_ParseTable.f k a1).bind fun bt394 => ((entry_Table.f k bt394.1).bind fun bt398 => (if bt388.2 = 0 then (if bt390.2 = 0 then ((caulkref13_Same.f k bt390.1 l0).bind fun t400 => (if t400 = true then (caulklaw13_EntryBack.j0 k a1 bt394.1 bt394.2 bt398.1 bt398.2 ((bt388.1.size : Int) != (wrap64 (8 * (l0.length : Int))))) else (caulklaw13_EntryBack.j0 k a1 bt394.1 bt394.2 bt398.1 bt398.2 true))) else (caulklaw13_EntryBack.j0 k a1 bt394.1 bt394.2 bt398.1 bt398.2 true)) else (caulklaw13_EntryBack.j0 k a1 bt394.1 bt394.2 bt398.1 bt398.2 false)))))) else (none))
theorem caulklaw13_EntryBack.mono_l : ∀ k, (∀ y0 y1 y2 y3 y4 y5, LeO (caulklaw13_EntryBack.j0 k y0 y1 y2 y3 y4 y5) (caulklaw13_EntryBack.j0 (k + 1) y0 y1 y2 y3 y4 y5)) ∧ (∀ y0 y1 y2 y3 y4 y5 y6, LeO (caulklaw13_EntryBack.l0 k y0 y1 y2 y3 y4 y5 y6) (caulklaw13_EntryBack.l0 (k + 1) y0 y1 y2 y3 y4 y5 y6))
  | 0 => ⟨fun _ _ _ _ _ _ r h => by simp [caulklaw13_EntryBack.j0] at h, fun _ _ _ _ _ _ _ r h => by simp [caulklaw13_EntryBack.l0] at h⟩
  | k + 1 => by
    obtain ⟨ih0, ih1⟩ := caulklaw13_EntryBack.mono_l k
    refine ⟨?_, ?_⟩
    · intro y0 y1 y2 y3 y4 y5
      unfold caulklaw13_EntryBack.j0
      repeat' first
      | (with_reducible exact ih0 _ _ _ _ _ _)
      | (with_reducible exact ih1 _ _ _ _ _ _ _)
      | (with_reducible exact caulklaw13_lives.mono _)
      | (with_reducible exact caulkref13_Same.mono _ _ _)
      | (with_reducible exact entry_ParseTable.mono _ _)
      | (with_reducible exact entry_Table.mono _ _)
      | (with_reducible exact LeO.refl _)
      | (with_reducible exact LeO.none _)
      | (with_reducible refine LeO.ite ?_ ?_)
      | (with_reducible refine LeO.bind ?_ (fun _ => ?_))
      | exact ih0 _ _ _ _ _ _
      | exact ih1 _ _ _ _ _ _ _
      | exact caulklaw13_lives.mono _
      | exact caulkref13_Same.mono _ _ _
      | exact entry_ParseTable.mono _ _
      | exact entry_Table.mono _ _
      | exact LeO.none _
      | refine LeO.ite ?_ ?_
      | refine LeO.bind ?_ (fun _ => ?_)
    · intro y0 y1 y2 y3 y4 y5 y6
      unfold caulklaw13_EntryBack.l0
      repeat' first
      | (with_reducible exact ih0 _ _ _ _ _ _)
      | (with_reducible exact ih1 _ _ _ _ _ _ _)
      | (with_reducible exact caulklaw13_lives.mono _)
      | (with_reducible exact caulkref13_Same.mono _ _ _)
      | (with_reducible exact entry_ParseTable.mono _ _)
      | (with_reducible exact entry_Table.mono _ _)
      | (with_reducible exact LeO.refl _)
      | (with_reducible exact LeO.none _)
      | (with_reducible refine LeO.ite ?_ ?_)
      | (with_reducible refine LeO.bind ?_ (fun _ => ?_))
      | exact ih0 _ _ _ _ _ _
      | exact ih1 _ _ _ _ _ _ _
      | exact caulklaw13_lives.mono _
      | exact caulkref13_Same.mono _ _ _
      | exact entry_ParseTable.mono _ _
      | exact entry_Table.mono _ _
      | exact LeO.none _
      | refine LeO.ite ?_ ?_
      | refine LeO.bind ?_ (fun _ => ?_)
theorem caulklaw13_EntryBack.mono : ∀ a0 a1 k, LeO (caulklaw13_EntryBack.f k a0 a1) (caulklaw13_EntryBack.f (k + 1) a0 a1) := by
  intro a0 a1 k
  obtain ⟨ih0, ih1⟩ := caulklaw13_EntryBack.mono_l k
  unfold caulklaw13_EntryBack.f
  repeat' first
      | (with_reducible exact ih0 _ _ _ _ _ _)
      | (with_reducible exact ih1 _ _ _ _ _ _ _)
      | (with_reducible exact caulklaw13_lives.mono _)
      | (with_reducible exact caulkref13_Same.mono _ _ _)
      | (with_reducible exact entry_ParseTable.mono _ _)
      | (with_reducible exact entry_Table.mono _ _)
      | (with_reducible exact LeO.refl _)
      | (with_reducible exact LeO.none _)
      | (with_reducible refine LeO.ite ?_ ?_)
      | (with_reducible refine LeO.bind ?_ (fun _ => ?_))
      | exact ih0 _ _ _ _ _ _
      | exact ih1 _ _ _ _ _ _ _
      | exact caulklaw13_lives.mono _
      | exact caulkref13_Same.mono _ _ _
      | exact entry_ParseTable.mono _ _
      | exact entry_Table.mono _ _
      | exact LeO.none _
      | refine LeO.ite ?_ ?_
      | refine LeO.bind ?_ (fun _ => ?_)
set_option maxHeartbeats 8000000 in
set_option maxRecDepth 100000 in
theorem caulklaw13_EntryBack.calls (k : Nat) (A0 : Option Addr) (c0 : Nat) (l0 : List (S42)) (a1 : ByteArray) (r : Bool) (w : World) (hr0 : Kd.C k42 w A0 l0.length l0) (hc0 : l0.length ≤ c0) (h : caulklaw13_EntryBack.f k l0 a1 = some r) :
    Calls Try.prog 9 #[.slice A0 l0.length c0, .string a1] w fun e w' => e = .returned (.bool r) ∧ Below w.heap.size w w' := by
  have hu42 := Try.underlying42
  have HR0 := Aside0.mk hr0
  have HC0 := Aside0.mk hc0
  clear hr0 hc0
  have HB := Aside0.mk (Below.refl w.heap.size w)
  have H : ((caulklaw13_lives.f k).bind fun t387 => (if t387 = true then ((entry_Table.f k l0).bind fun bt388 => ((entry_ParseTable.f k bt388.1).bind fun bt390 => ((entry_ParseTable.f k a1).bind fun bt394 => ((entry_Table.f k bt394.1).bind fun bt398 => (if bt388.2 = 0 then (if bt390.2 = 0 then ((caulkref13_Same.f k bt390.1 l0).bind fun t400 => (if t400 = true then (caulklaw13_EntryBack.j0 k a1 bt394.1 bt394.2 bt398.1 bt398.2 ((bt388.1.size : Int) != (wrap64 (8 * (l0.length : Int))))) else (caulklaw13_EntryBack.j0 k a1 bt394.1 bt394.2 bt398.1 bt398.2 true))) else (caulklaw13_EntryBack.j0 k a1 bt394.1 bt394.2 bt398.1 bt398.2 true)) else (caulklaw13_EntryBack.j0 k a1 bt394.1 bt394.2 bt398.1 bt398.2 false)))))) else (none))) = some r := h
  clear h
  replace H := Option.bind_eq_some_iff.mp H
  obtain ⟨t387, A30, H⟩ := H
  replace H : (if t387 = true then ((entry_Table.f k l0).bind fun bt388 => ((entry_ParseTable.f k bt388.1).bind fun bt390 => ((entry_ParseTable.f k a1).bind fun bt394 => ((entry_Table.f k bt394.1).bind fun bt398 => (if bt388.2 = 0 then (if bt390.2 = 0 then ((caulkref13_Same.f k bt390.1 l0).bind fun t400 => (if t400 = true then (caulklaw13_EntryBack.j0 k a1 bt394.1 bt394.2 bt398.1 bt398.2 ((bt388.1.size : Int) != (wrap64 (8 * (l0.length : Int))))) else (caulklaw13_EntryBack.j0 k a1 bt394.1 bt394.2 bt398.1 bt398.2 true))) else (caulklaw13_EntryBack.j0 k a1 bt394.1 bt394.2 bt398.1 bt398.2 true)) else (caulklaw13_EntryBack.j0 k a1 bt394.1 bt394.2 bt398.1 bt398.2 false)))))) else (none)) = some r := H
  have A3 := Aside0.mk A30
  clear A30
  by_cases c4 : t387 = true
  · subst c4
    have H1 : ((entry_Table.f k l0).bind fun bt388 => ((entry_ParseTable.f k bt388.1).bind fun bt390 => ((entry_ParseTable.f k a1).bind fun bt394 => ((entry_Table.f k bt394.1).bind fun bt398 => (if bt388.2 = 0 then (if bt390.2 = 0 then ((caulkref13_Same.f k bt390.1 l0).bind fun t400 => (if t400 = true then (caulklaw13_EntryBack.j0 k a1 bt394.1 bt394.2 bt398.1 bt398.2 ((bt388.1.size : Int) != (wrap64 (8 * (l0.length : Int))))) else (caulklaw13_EntryBack.j0 k a1 bt394.1 bt394.2 bt398.1 bt398.2 true))) else (caulklaw13_EntryBack.j0 k a1 bt394.1 bt394.2 bt398.1 bt398.2 true)) else (caulklaw13_EntryBack.j0 k a1 bt394.1 bt394.2 bt398.1 bt398.2 false)))))) = some r := by rw [if_pos rfl] at H; exact H
    clear H
    have H := H1
    clear H1
    replace H := Option.bind_eq_some_iff.mp H
    obtain ⟨⟨t388, t389⟩, A50, H⟩ := H
    replace H : ((entry_ParseTable.f k t388).bind fun bt390 => ((entry_ParseTable.f k a1).bind fun bt394 => ((entry_Table.f k bt394.1).bind fun bt398 => (if t389 = 0 then (if bt390.2 = 0 then ((caulkref13_Same.f k bt390.1 l0).bind fun t400 => (if t400 = true then (caulklaw13_EntryBack.j0 k a1 bt394.1 bt394.2 bt398.1 bt398.2 ((t388.size : Int) != (wrap64 (8 * (l0.length : Int))))) else (caulklaw13_EntryBack.j0 k a1 bt394.1 bt394.2 bt398.1 bt398.2 true))) else (caulklaw13_EntryBack.j0 k a1 bt394.1 bt394.2 bt398.1 bt398.2 true)) else (caulklaw13_EntryBack.j0 k a1 bt394.1 bt394.2 bt398.1 bt398.2 false))))) = some r := H
    have A5 := Aside0.mk A50
    clear A50
    replace H := Option.bind_eq_some_iff.mp H
    obtain ⟨⟨t390, t391⟩, A60, H⟩ := H
    replace H : ((entry_ParseTable.f k a1).bind fun bt394 => ((entry_Table.f k bt394.1).bind fun bt398 => (if t389 = 0 then (if t391 = 0 then ((caulkref13_Same.f k t390 l0).bind fun t400 => (if t400 = true then (caulklaw13_EntryBack.j0 k a1 bt394.1 bt394.2 bt398.1 bt398.2 ((t388.size : Int) != (wrap64 (8 * (l0.length : Int))))) else (caulklaw13_EntryBack.j0 k a1 bt394.1 bt394.2 bt398.1 bt398.2 true))) else (caulklaw13_EntryBack.j0 k a1 bt394.1 bt394.2 bt398.1 bt398.2 true)) else (caulklaw13_EntryBack.j0 k a1 bt394.1 bt394.2 bt398.1 bt398.2 false)))) = some r := H
    have A6 := Aside0.mk A60
    clear A60
    replace H := Option.bind_eq_some_iff.mp H
    obtain ⟨⟨t394, t395⟩, A70, H⟩ := H
    replace H : ((entry_Table.f k t394).bind fun bt398 => (if t389 = 0 then (if t391 = 0 then ((caulkref13_Same.f k t390 l0).bind fun t400 => (if t400 = true then (caulklaw13_EntryBack.j0 k a1 t394 t395 bt398.1 bt398.2 ((t388.size : Int) != (wrap64 (8 * (l0.length : Int))))) else (caulklaw13_EntryBack.j0 k a1 t394 t395 bt398.1 bt398.2 true))) else (caulklaw13_EntryBack.j0 k a1 t394 t395 bt398.1 bt398.2 true)) else (caulklaw13_EntryBack.j0 k a1 t394 t395 bt398.1 bt398.2 false))) = some r := H
    have A7 := Aside0.mk A70
    clear A70
    replace H := Option.bind_eq_some_iff.mp H
    obtain ⟨⟨t398, t399⟩, A80, H⟩ := H
    replace H : (if t389 = 0 then (if t391 = 0 then ((caulkref13_Same.f k t390 l0).bind fun t400 => (if t400 = true then (caulklaw13_EntryBack.j0 k a1 t394 t395 t398 t399 ((t388.size : Int) != (wrap64 (8 * (l0.length : Int))))) else (caulklaw13_EntryBack.j0 k a1 t394 t395 t398 t399 true))) else (caulklaw13_EntryBack.j0 k a1 t394 t395 t398 t399 true)) else (caulklaw13_EntryBack.j0 k a1 t394 t395 t398 t399 false)) = some r := H
    have A8 := Aside0.mk A80
    clear A80
    have HC9 := Aside0.mk H
    clear H
    go_enter Try.func9, Try.ntmps9
    go_upto_region 7 with (first | ((with_reducible refine gate_callee (f := 28) rfl ?_); refine goesL_ (some 15) rfl rfl Try.func28 (by kernel_rfl) rfl #[] rfl (by (try simp only [List.map_toArray, List.map_cons, List.map_nil]); first | done | rfl | (simp only [List.length_drop, List.length_take]; rfl)) ?_; (with_reducible refine (caulklaw13_lives.calls k  true _ A3.out).mono ?_); rintro e w10 ⟨rfl, hb⟩; refine ⟨_, rfl, ?_⟩; have n0_ := Aside0.mk (below_step (by repeat (first | (with_reducible first | exact HB.out | apply below_alloc | apply pw_below_drewN | apply below_drew1) | exact HB.out)) hb); clear HB; have HB := n0_; clear n0_; (try clear hb); (try clear hb2); (try clear hk); (try clear hi)) | ((with_reducible refine gate_callee (f := 33) rfl ?_); refine goesL_ (some 19) rfl rfl Try.func33 (by kernel_rfl) rfl #[.slice A0 l0.length c0] rfl (by (try simp only [List.map_toArray, List.map_cons, List.map_nil]); first | done | rfl | (simp only [List.length_drop, List.length_take]; rfl)) ?_; (with_reducible refine (entry_Table.calls k _ _ l0 t388 t389 _ ?side1 ?side2 A5.out).mono ?_); (case side1 => repeat (first | exact (Kd.C_below HR0.out HB.out) | (with_reducible refine Kd.C_alloc ?_ _) | (with_reducible refine Kd.C_drewN ?_ _) | (with_reducible refine Kd.C_drew ?_))); (case side2 => exact HC0.out); rintro e w11 ⟨rfl, hb⟩; refine ⟨_, rfl, ?_⟩; have n0_ := Aside0.mk (below_step (by repeat (first | (with_reducible first | exact HB.out | apply below_alloc | apply pw_below_drewN | apply below_drew1) | exact HB.out)) hb); clear HB; have HB := n0_; clear n0_; (try clear hb); (try clear hb2); (try clear hk); (try clear hi)) | ((with_reducible refine gate_callee (f := 35) rfl ?_); refine goesL_ (some 24) rfl rfl Try.func35 (by kernel_rfl) rfl #[.string t388] rfl (by (try simp only [List.map_toArray, List.map_cons, List.map_nil]); first | done | rfl | (simp only [List.length_drop, List.length_take]; rfl)) ?_; (with_reducible refine (entry_ParseTable.calls k t388 t390 t391 _ A6.out).mono ?_); rintro e w12 ⟨v392, rfl, ho0, hb⟩; refine ⟨_, rfl, ?_⟩; have n0_ := Aside0.mk (Kd.R_lower ho0 (below_size (by repeat (first | (with_reducible first | exact HB.out | apply below_alloc | apply pw_below_drewN | apply below_drew1) | exact HB.out)))); have n1_ := Aside0.mk (below_step (by repeat (first | (with_reducible first | exact HB.out | apply below_alloc | apply pw_below_drewN | apply below_drew1) | exact HB.out)) hb); clear HB; have HO393 := n0_; have HB := n1_; clear n0_ n1_; (try clear hb); (try clear hb2); (try clear hk); (try clear hi); (try clear ho0)) | ((with_reducible refine gate_callee (f := 35) rfl ?_); refine goesL_ (some 29) rfl rfl Try.func35 (by kernel_rfl) rfl #[.string a1] rfl (by (try simp only [List.map_toArray, List.map_cons, List.map_nil]); first | done | rfl | (simp only [List.length_drop, List.length_take]; rfl)) ?_; (with_reducible refine (entry_ParseTable.calls k a1 t394 t395 _ A7.out).mono ?_); rintro e w13 ⟨v396, rfl, ho0, hb⟩; refine ⟨_, rfl, ?_⟩; have n0_ := Aside0.mk (Kd.R_elder' (by (with_reducible repeat (first | apply Kd.R_alloc | apply Kd.R_drewN | apply Kd.R_drew)); exact HO393.out) (Kd.R_base ho0) hb); have n1_ := Aside0.mk (Kd.R_lower (Kd.R_new' ho0 (Kd.R_lt (by (with_reducible repeat (first | apply Kd.R_alloc | apply Kd.R_drewN | apply Kd.R_drew)); exact HO393.out))) (below_size (by repeat (first | (with_reducible first | exact HB.out | apply below_alloc | apply pw_below_drewN | apply below_drew1) | exact HB.out)))); have n2_ := Aside0.mk (below_step (by repeat (first | (with_reducible first | exact HB.out | apply below_alloc | apply pw_below_drewN | apply below_drew1) | exact HB.out)) hb); clear HO393; clear HB; have HO393 := n0_; have HO397 := n1_; have HB := n2_; clear n0_ n1_ n2_; (try clear hb); (try clear hb2); (try clear hk); (try clear hi); (try clear ho0); obtain ⟨Ao14, co14, eo14⟩ := Kd.R_slice HO397.out; subst eo14) | ((with_reducible refine gate_callee (f := 33) rfl ?_); refine goesL_ (some 34) rfl rfl Try.func33 (by kernel_rfl) rfl #[.slice Ao14 t394.length co14] rfl (by (try simp only [List.map_toArray, List.map_cons, List.map_nil]); first | done | rfl | (simp only [List.length_drop, List.length_take]; rfl)) ?_; (with_reducible refine (entry_Table.calls k _ _ t394 t398 t399 _ ?side1 ?side2 A8.out).mono ?_); (case side1 => repeat (first | exact (Kd.R_reads' HO397.out).2.2 | (with_reducible refine Kd.C_alloc ?_ _) | (with_reducible refine Kd.C_drewN ?_ _) | (with_reducible refine Kd.C_drew ?_))); (case side2 => exact (Kd.R_reads' HO397.out).2.1); rintro e w15 ⟨rfl, hb⟩; refine ⟨_, rfl, ?_⟩; have n0_ := Aside0.mk (Kd.R_below (by (with_reducible repeat (first | apply Kd.R_alloc | apply Kd.R_drewN | apply Kd.R_drew)); exact HO393.out) hb); have n1_ := Aside0.mk (Kd.R_below (by (with_reducible repeat (first | apply Kd.R_alloc | apply Kd.R_drewN | apply Kd.R_drew)); exact HO397.out) hb); have n2_ := Aside0.mk (below_step (by repeat (first | (with_reducible first | exact HB.out | apply below_alloc | apply pw_below_drewN | apply below_drew1) | exact HB.out)) hb); clear HO393; clear HO397; clear HB; have HO393 := n0_; have HO397 := n1_; have HB := n2_; clear n0_ n1_ n2_; (try clear hb); (try clear hb2); (try clear hk); (try clear hi)))
    (try simp only [Act.put, List.setIfInBounds_toArray, List.set_cons_zero, List.set_cons_succ])
    go_cut [56] (fun v56 wc => ∃ (kq : Nat) (x56_8 : Bool), v56 = .bool x56_8 ∧ Aside0 (caulklaw13_EntryBack.j0 kq a1 t394 t395 t398 t399 x56_8 = some r) ∧ Aside0 (kq ≤ k) ∧ Aside0 (Kd.R k42 42 wc w.heap.size (fun _ => True) (.slice Ao14 t394.length co14) t394) ∧ Aside0 (Below w.heap.size w wc))
    case first =>
      have H := HC9.out
      clear HC9
      by_cases c16 : t389 = 0
      · rw [if_pos c16] at H
        have c16b0 : (t389 == 0) = true := beq_iff_eq.mpr c16
        have c16b1 : (t389 != 0) = false := bne_eq_false_iff_eq.mpr c16
        clear c16
        (first | rw [c16b0] | (simp only [i64_w, i32_w]; rw [c16b0]) | skip)
        by_cases c17 : t391 = 0
        · rw [if_pos c17] at H
          have c17b0 : (t391 == 0) = true := beq_iff_eq.mpr c17
          have c17b1 : (t391 != 0) = false := bne_eq_false_iff_eq.mpr c17
          clear c17
          replace H := Option.bind_eq_some_iff.mp H
          obtain ⟨t400, A180, H⟩ := H
          replace H : (if t400 = true then (caulklaw13_EntryBack.j0 k a1 t394 t395 t398 t399 ((t388.size : Int) != (wrap64 (8 * (l0.length : Int))))) else (caulklaw13_EntryBack.j0 k a1 t394 t395 t398 t399 true)) = some r := H
          have A18 := Aside0.mk A180
          clear A180
          by_cases c19 : t400 = true
          · subst c19
            have H1 : (caulklaw13_EntryBack.j0 k a1 t394 t395 t398 t399 ((t388.size : Int) != (wrap64 (8 * (l0.length : Int))))) = some r := by rw [if_pos rfl] at H; exact H
            clear H
            have H := H1
            clear H1
            have H' := Aside0.mk H
            clear H
            obtain ⟨Ao20, co20, eo20⟩ := Kd.R_slice HO393.out
            subst eo20
            go_wp2_with (first | (go_at_call 37; (with_reducible refine (caulkref13_Same.calls k _ _ t390 _ _ l0 true _ ?side1 ?side2 ?side3 ?side4 A18.out).mono ?_); (case side1 => repeat (first | exact (Kd.R_reads' HO393.out).2.2 | (with_reducible refine Kd.C_alloc ?_ _) | (with_reducible refine Kd.C_drewN ?_ _) | (with_reducible refine Kd.C_drew ?_))); (case side2 => exact (Kd.R_reads' HO393.out).2.1); (case side3 => repeat (first | exact (Kd.C_below HR0.out HB.out) | (with_reducible refine Kd.C_alloc ?_ _) | (with_reducible refine Kd.C_drewN ?_ _) | (with_reducible refine Kd.C_drew ?_))); (case side4 => exact HC0.out); rintro e w' ⟨rfl, ⟨nd, rfl⟩⟩))
            go_meet
            case rel => exact ⟨_, (((t388.size : Int) != (wrap64 (8 * (l0.length : Int))))), (by first | rfl | (simp; done) | (simp [*]; done)), H', ⟨by first | omega | exact Nat.le_refl _⟩, ⟨by (with_reducible repeat (first | apply Kd.R_alloc | apply Kd.R_drewN | apply Kd.R_drew)); exact Kd.R_mono HO397.out (fun _ hk => trivial)⟩, ⟨by repeat (first | (with_reducible first | exact HB.out | apply below_alloc | apply pw_below_drewN | apply below_drew1) | exact HB.out)⟩⟩
          · replace c19 := Bool.eq_false_iff.mpr c19
            subst c19
            have H1 : (caulklaw13_EntryBack.j0 k a1 t394 t395 t398 t399 true) = some r := by rw [if_neg (show ¬ (false = true) by decide)] at H; exact H
            clear H
            have H := H1
            clear H1
            have H' := Aside0.mk H
            clear H
            obtain ⟨Ao21, co21, eo21⟩ := Kd.R_slice HO393.out
            subst eo21
            go_wp2_with (first | (go_at_call 37; (with_reducible refine (caulkref13_Same.calls k _ _ t390 _ _ l0 false _ ?side1 ?side2 ?side3 ?side4 A18.out).mono ?_); (case side1 => repeat (first | exact (Kd.R_reads' HO393.out).2.2 | (with_reducible refine Kd.C_alloc ?_ _) | (with_reducible refine Kd.C_drewN ?_ _) | (with_reducible refine Kd.C_drew ?_))); (case side2 => exact (Kd.R_reads' HO393.out).2.1); (case side3 => repeat (first | exact (Kd.C_below HR0.out HB.out) | (with_reducible refine Kd.C_alloc ?_ _) | (with_reducible refine Kd.C_drewN ?_ _) | (with_reducible refine Kd.C_drew ?_))); (case side4 => exact HC0.out); rintro e w' ⟨rfl, ⟨nd, rfl⟩⟩))
            go_meet
            case rel => exact ⟨_, (true), (by first | rfl | (simp; done) | (simp [*]; done)), H', ⟨by first | omega | exact Nat.le_refl _⟩, ⟨by (with_reducible repeat (first | apply Kd.R_alloc | apply Kd.R_drewN | apply Kd.R_drew)); exact Kd.R_mono HO397.out (fun _ hk => trivial)⟩, ⟨by repeat (first | (with_reducible first | exact HB.out | apply below_alloc | apply pw_below_drewN | apply below_drew1) | exact HB.out)⟩⟩
        · rw [if_neg c17] at H
          have c17b0 : (t391 == 0) = false := beq_eq_false_iff_ne.mpr c17
          have c17b1 : (t391 != 0) = true := bne_iff_ne.mpr c17
          have H' := Aside0.mk H
          clear H
          go_wp2
          go_meet
          case rel => exact ⟨_, (true), (by first | rfl | (simp; done) | (simp [*]; done)), H', ⟨by first | omega | exact Nat.le_refl _⟩, ⟨by (with_reducible repeat (first | apply Kd.R_alloc | apply Kd.R_drewN | apply Kd.R_drew)); exact Kd.R_mono HO397.out (fun _ hk => trivial)⟩, ⟨by repeat (first | (with_reducible first | exact HB.out | apply below_alloc | apply pw_below_drewN | apply below_drew1) | exact HB.out)⟩⟩
      · rw [if_neg c16] at H
        have c16b0 : (t389 == 0) = false := beq_eq_false_iff_ne.mpr c16
        have c16b1 : (t389 != 0) = true := bne_iff_ne.mpr c16
        (first | rw [c16b0] | (simp only [i64_w, i32_w]; rw [c16b0]) | skip)
        have H' := Aside0.mk H
        clear H
        go_wp2
        go_meet
        case rel => exact ⟨_, (false), (by first | rfl | (simp; done) | (simp [*]; done)), H', ⟨by first | omega | exact Nat.le_refl _⟩, ⟨by (with_reducible repeat (first | apply Kd.R_alloc | apply Kd.R_drewN | apply Kd.R_drew)); exact Kd.R_mono HO397.out (fun _ hk => trivial)⟩, ⟨by repeat (first | (with_reducible first | exact HB.out | apply below_alloc | apply pw_below_drewN | apply below_drew1) | exact HB.out)⟩⟩
    case rest =>
      clear HC9
      try clear c1
      try clear c2
      try clear p2
      try clear c3
      try clear c4
      try clear p6
      try clear c9
      try clear c16
      try clear c16b0
      try clear c16b1
      try clear c17
      try clear c17b0
      try clear c17b1
      try clear c19
      obtain ⟨kq, x56_8, rfl, HA, HJ8, HO_9, HB⟩ := hcut
      cases kq with
      | zero => exact absurd HA.out (by simp [caulklaw13_EntryBack.j0])
      | succ kj8 =>
        have H := HA.out
        clear HA
        simp only [caulklaw13_EntryBack.j0] at H
        by_cases c22 : x56_8 = true
        · subst c22
          have H1 : (none) = some r := by rw [if_pos rfl] at H; exact H
          clear H
          have H := H1
          clear H1
          exact absurd H (by simp)
        · replace c22 := Bool.eq_false_iff.mpr c22
          subst c22
          have H1 : (caulklaw13_EntryBack.l0 kj8 a1 t395 t398 t399 t394 (t394.length : Int) 0) = some r := by rw [if_neg (show ¬ (false = true) by decide)] at H; exact H
          clear H
          have H := H1
          clear H1
          have H' := Aside0.mk H
          clear H
          go_wp2
          go_loopg [59] kj8 (fun kq v59 w' => ∃ (x59_2 : Int), v59 = .int .i64 x59_2 ∧ Aside0 (caulklaw13_EntryBack.l0 kq a1 t395 t398 t399 t394 (t394.length : Int) x59_2 = some r) ∧ Aside0 (kq ≤ kj8) ∧ Aside0 (Kd.R k42 42 w' w.heap.size (fun _ => True) (.slice Ao14 t394.length co14) t394) ∧ Aside0 (Below w.heap.size w w'))
          case atStart => exact ⟨(0), (by first | rfl | (simp; done) | (simp [*]; done)), H', ⟨Nat.le_refl _⟩, ⟨by (with_reducible repeat (first | apply Kd.R_alloc | apply Kd.R_drewN | apply Kd.R_drew)); exact HO_9.out⟩, ⟨by repeat (first | (with_reducible first | exact HB.out | apply below_alloc | apply pw_below_drewN | apply below_drew1) | exact HB.out)⟩⟩
          case round =>
            clear H'
            try clear c1
            try clear c2
            try clear p2
            try clear c3
            try clear c4
            try clear p6
            try clear c9
            try clear c16
            try clear c16b0
            try clear c16b1
            try clear c17
            try clear c17b0
            try clear c17b1
            try clear c19
            try clear c22
            try clear p2
            try clear p6
            obtain ⟨x59_2, rfl, HA, HK2, HO_57, HB⟩ := hrel
            cases gk with
            | zero => exact absurd HA.out (by simp [caulklaw13_EntryBack.l0])
            | succ k2 =>
              have H := HA.out
              clear HA
              simp only [caulklaw13_EntryBack.l0] at H
              by_cases c23 : x59_2 < (t394.length : Int)
              · rw [if_pos c23] at H
                have c23b0 : decide (x59_2 < (t394.length : Int)) = true := decide_eq_true c23
                clear c23
                by_cases c24 : 0 ≤ x59_2
                · rw [if_pos c24] at H
                  have c24b0 : decide (0 ≤ x59_2) = true := decide_eq_true c24
                  clear c24
                  by_cases c25 : x59_2 < (t394.length : Int)
                  · rw [if_pos c25] at H
                    have c25b0 : decide (x59_2 < (t394.length : Int)) = true := decide_eq_true c25
                    clear c25
                    replace H := Option.bind_eq_some_iff.mp H
                    obtain ⟨t403, A260, H⟩ := H
                    replace H : (if t403 = 0 then (caulklaw13_EntryBack.l0 k2 a1 t395 t398 t399 t394 (t394.length : Int) (wrap64 (x59_2 + 1))) else (none)) = some r := H
                    have A26 := Aside0.mk A260
                    clear A260
                    by_cases c27 : t403 = 0
                    · rw [if_pos c27] at H
                      have c27b0 : (t403 == 0) = true := beq_iff_eq.mpr c27
                      have c27b1 : (t403 != 0) = false := bne_eq_false_iff_eq.mpr c27
                      clear c27
                      have H' := Aside0.mk H
                      clear H
                      have p401 : 0 ≤ (x59_2 : Int) := of_decide_eq_true (by first | (with_reducible assumption) | assumption)
                      have q401 : x59_2 < (t394.length : Int) := of_decide_eq_true (by first | (with_reducible assumption) | assumption)
                      obtain ⟨ad401, e401, hx401_0, hx401_1, hx401_2, hx401_3⟩ := at_T42 (Kd.R_reads' HO_57.out).2.2 x59_2 p401 q401
                      cases e401
                      replace p401 := eq_true p401
                      replace q401 := eq_true q401
                      go_wp2_with (first | ((with_reducible refine gate_dst (N := 14) rfl ?_); (try (refine gate_guard (by rfl) ?_; dsimp only)); refine box_event ?hg (N := 14) ?hd (cs := #[.int .u8 0, .int .i64 0, .int .i64 0, .int .i64 0]) (t := 42) ?hr ?_; (case hd => rfl); (case hg => rfl); (case hr => first | (go_simp; done) | (go_simp; rfl)); intro gb402 hg w28 hbox hb; have n0_ := Aside0.mk (Kd.R_below (Kd.R_elderB (by (with_reducible repeat (first | apply Kd.R_alloc | apply Kd.R_drewN | apply Kd.R_drew)); exact HO_57.out) gb402 (Nat.le_of_eq hg.symm)) hb); have n1_ := Aside0.mk (below_step (by repeat (first | (with_reducible first | exact HB.out | apply below_alloc | apply pw_below_drewN | apply below_drew1) | exact HB.out)) hb); have n2_ := Aside0.mk (hbox); have n3_ := Aside0.mk ((by rw [hg]; exact (below_size (by repeat (first | (with_reducible first | exact HB.out | apply below_alloc | apply pw_below_drewN | apply below_drew1) | exact HB.out))) : w.heap.size ≤ gb402)); have n4_ := Aside0.mk ((by rw [hg]; exact (below_size (by repeat (first | (with_reducible first | exact HB.out | apply below_alloc | apply pw_below_drewN | apply below_drew1) | exact HB.out))) : w.heap.size ≤ gb402)); clear HO_57; clear HB; have HO_57 := n0_; have HB := n1_; have BK402 := n2_; have GW402 := n3_; have GE402 := n4_; clear n0_ n1_ n2_ n3_ n4_; clear hb hbox hg; have hcz29_0 : w28.cell? ⟨gb402, 0, none⟩ = some (.int .u8 0) := (blk_cell BK402.out 0).trans rfl; have hcz29_1 : w28.cell? ⟨gb402, 1, none⟩ = some (.int .i64 0) := (blk_cell BK402.out 1).trans rfl; have hcz29_2 : w28.cell? ⟨gb402, 2, none⟩ = some (.int .i64 0) := (blk_cell BK402.out 2).trans rfl; have hcz29_3 : w28.cell? ⟨gb402, 3, none⟩ = some (.int .i64 0) := (blk_cell BK402.out 3).trans rfl; have hfz29_0 := blk_frozen BK402.out 0; have hfz29_1 := blk_frozen BK402.out 1; have hfz29_2 := blk_frozen BK402.out 2; have hfz29_3 := blk_frozen BK402.out 3) | ((with_reducible refine gate_callee (f := 29) rfl ?_); refine goesL_ (some 64) rfl rfl Try.func29 (by kernel_rfl) rfl #[.agg #[.int .u8 ((rd_T42 t394 x59_2).f0), .int .i64 ((rd_T42 t394 x59_2).f1.f0), .int .i64 ((rd_T42 t394 x59_2).f1.f1), .int .i64 ((rd_T42 t394 x59_2).f2)]] rfl (by (try simp only [List.map_toArray, List.map_cons, List.map_nil]); first | done | rfl | (simp only [List.length_drop, List.length_take]; rfl)) ?_; (with_reducible refine (entry_Check.calls ((rd_T42 t394 x59_2).f0) ((rd_T42 t394 x59_2).f1.f0) ((rd_T42 t394 x59_2).f1.f1) ((rd_T42 t394 x59_2).f2) t403 _ A26.out).mono ?_); rintro e w30 ⟨rfl, hb⟩; refine ⟨_, rfl, ?_⟩; have n0_ := Aside0.mk (Kd.R_below (by (with_reducible repeat (first | apply Kd.R_alloc | apply Kd.R_drewN | apply Kd.R_drew)); exact (Kd.R_mono (Kd.R_far (p := ⟨gb402, 3, none⟩) (Kd.R_far (p := ⟨gb402, 2, none⟩) (Kd.R_far (p := ⟨gb402, 1, none⟩) (Kd.R_far (p := ⟨gb402, 0, none⟩) (Kd.R_mono HO_57.out (fun k_ hk => (⟨hk, hk.2⟩ : _ ∧ k_ ≠ gb402))) (fun _ hk => hk.2) (.int .u8 ((rd_T42 t394 x59_2).f0))) (fun _ hk => hk.2) (.int .i64 ((rd_T42 t394 x59_2).f1.f0))) (fun _ hk => hk.2) (.int .i64 ((rd_T42 t394 x59_2).f1.f1))) (fun _ hk => hk.2) (.int .i64 ((rd_T42 t394 x59_2).f2))) (fun _ h_ => h_.1))) hb); have n1_ := Aside0.mk (blk_below (g := gb402) (o := .cells #[.int .u8 ((rd_T42 t394 x59_2).f0), .int .i64 ((rd_T42 t394 x59_2).f1.f0), .int .i64 ((rd_T42 t394 x59_2).f1.f1), .int .i64 ((rd_T42 t394 x59_2).f2)] 42 (0, 0)) (by (with_reducible repeat (first | refine blk_drewN ?_ _ | refine blk_drew ?_ | refine blk_alloc ?_ _)); refine blk_put (cs := #[.int .u8 ((rd_T42 t394 x59_2).f0), .int .i64 ((rd_T42 t394 x59_2).f1.f0), .int .i64 ((rd_T42 t394 x59_2).f1.f1), .int .i64 0]) ?_ 3 _ rfl; (with_reducible repeat (first | refine blk_drewN ?_ _ | refine blk_drew ?_ | refine blk_alloc ?_ _)); refine blk_put (cs := #[.int .u8 ((rd_T42 t394 x59_2).f0), .int .i64 ((rd_T42 t394 x59_2).f1.f0), .int .i64 0, .int .i64 0]) ?_ 2 _ rfl; (with_reducible repeat (first | refine blk_drewN ?_ _ | refine blk_drew ?_ | refine blk_alloc ?_ _)); refine blk_put (cs := #[.int .u8 ((rd_T42 t394 x59_2).f0), .int .i64 0, .int .i64 0, .int .i64 0]) ?_ 1 _ rfl; (with_reducible repeat (first | refine blk_drewN ?_ _ | refine blk_drew ?_ | refine blk_alloc ?_ _)); refine blk_put (cs := #[.int .u8 0, .int .i64 0, .int .i64 0, .int .i64 0]) ?_ 0 _ rfl; (with_reducible repeat (first | refine blk_drewN ?_ _ | refine blk_drew ?_ | refine blk_alloc ?_ _)); exact BK402.out) hb); have n2_ := Aside0.mk (below_step (by repeat (first | (with_reducible first | exact HB.out | apply below_alloc | apply pw_below_drewN | apply below_drew1 | refine below_set ?_ GE402.out) | exact HB.out)) hb); clear HO_57; clear BK402; clear HB; have HO_57 := n0_; have BK402 := n1_; have HB := n2_; clear n0_ n1_ n2_; (try clear hb); (try clear hb2); (try clear hk); (try clear hi)))
                      go_roundg k2
                      case measure => have := HJ8.out; have := HK2.out; omega
                      case rel => exact ⟨(wrap64 (x59_2 + 1)), (by first | rfl | (simp; done) | (simp [*]; done)), H', ⟨by have := HJ8.out; have := HK2.out; omega⟩, ⟨by (with_reducible repeat (first | apply Kd.R_alloc | apply Kd.R_drewN | apply Kd.R_drew)); exact Kd.R_mono HO_57.out (fun _ hk => trivial)⟩, ⟨by repeat (first | (with_reducible first | exact HB.out | apply below_alloc | apply pw_below_drewN | apply below_drew1 | refine below_set ?_ GE402.out) | exact HB.out)⟩⟩
                    · rw [if_neg c27] at H
                      exact absurd H (by simp)
                  · rw [if_neg c25] at H
                    exact absurd H (by simp)
                · rw [if_neg c24] at H
                  exact absurd H (by simp)
              · rw [if_neg c23] at H
                have c23b0 : decide (x59_2 < (t394.length : Int)) = false := decide_eq_false c23
                clear c23
                by_cases c31 : t395 = 0
                · rw [if_pos c31] at H
                  have c31b0 : (t395 == 0) = true := beq_iff_eq.mpr c31
                  have c31b1 : (t395 != 0) = false := bne_eq_false_iff_eq.mpr c31
                  clear c31
                  by_cases c32 : t399 = 0
                  · rw [if_pos c32] at H
                    have c32b0 : (t399 == 0) = true := beq_iff_eq.mpr c32
                    have c32b1 : (t399 != 0) = false := bne_eq_false_iff_eq.mpr c32
                    clear c32
                    obtain rfl := Option.some.inj H
                    go_wp2
                    go_ret
                    exact ⟨by first | rfl | (simp [errW_none, errW_some] <;> rfl) | (simp [*, errW_none, errW_some] <;> rfl), by repeat (first | (with_reducible first | exact HB.out | apply below_alloc | apply pw_below_drewN | apply below_drew1) | exact HB.out)⟩
                  · rw [if_neg c32] at H
                    exact absurd H (by simp)
                · rw [if_neg c31] at H
                  have c31b0 : (t395 == 0) = false := beq_eq_false_iff_ne.mpr c31
                  have c31b1 : (t395 != 0) = true := bne_iff_ne.mpr c31
                  obtain rfl := Option.some.inj H
                  go_wp2
                  go_ret
                  exact ⟨by first | rfl | (simp [errW_none, errW_some] <;> rfl) | (simp [*, errW_none, errW_some] <;> rfl), by repeat (first | (with_reducible first | exact HB.out | apply below_alloc | apply pw_below_drewN | apply below_drew1) | exact HB.out)⟩
  · replace c4 := Bool.eq_false_iff.mpr c4
    subst c4
    have H1 : (none) = some r := by rw [if_neg (show ¬ (false = true) by decide)] at H; exact H
    clear H
    have H := H1
    clear H1
    exact absurd H (by simp)

def caulklaw13_EntryBack.Pure : Prop := ∀ (l0 : List (S42)) (a1 : ByteArray), (l0.length * 32 ≤ 140737488351232 ∧ ∀ x0_ ∈ l0, ((Lit.int .u8 x0_.f0).wf = true ∧ ((Lit.int .i64 x0_.f1.f0).wf = true ∧ (Lit.int .i64 x0_.f1.f1).wf = true) ∧ (Lit.int .i64 x0_.f2).wf = true)) → a1.size ≤ 140737488351232 → ∃ k, caulklaw13_EntryBack.f k l0 a1 = some true

end Go.Proofs.Ytgiljibkjccgfab.G
