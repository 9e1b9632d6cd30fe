-- Written by a program of this session over the print of the translation (its own patch, foreign contracts, cut ways): not trusted: Lean checks it.
import Derived.Test.YtlobaomleocpjabDoorGx0
import Derived.Test.YtlobaomleocpjabDoorGx1
import Derived.Test.YtlobaomleocpjabDoorGx2
namespace Go.Proofs.YtlobaomleocpjabDoor.G
open Go.RowKit Go.Proofs.YtlobaomleocpjabDoorW.PrintWords Go.Proofs.YtlobaomleocpjabDoorW.PrintLast Go.Proofs.YtlobaomleocpjabDoorW.PrintMore
attribute [local go_sem] max2_int min2_int max_two min_two max_three min_three max_four min_four   -- for this text's walks alone
set_option linter.unusedVariables false
set_option linter.unusedSimpArgs false

/-! ### zeros_Unpack: function 20 -/
def zeros_Unpack.l0 : Nat → List Int → List (S88) → Int → Int → Option (ByteArray × Int)
  | 0, _, _, _, _ => none
  | k + 1, x7, x25, x26, x27 => if x27 < x26 then (if 0 ≤ x27 then (if x27 < (x25.length : Int) then (if 0 ≤ ((rd_T88 x25 x27).f0) then (if x7.length + ((rd_T88 x25 x27).f0 : Int).toNat < 140737488355328 then ((some (x7 ++ List.replicate ((rd_T88 x25 x27).f0 : Int).toNat 0 : List Int)).bind fun y170 => (if y170.length + ((rd_T88 x25 x27).f1).size < 140737488355328 then (zeros_Unpack.l0 k (y170 ++ bytesOf ((rd_T88 x25 x27).f1)) x25 x26 (wrap64 (x27 + 1))) else (none))) else (none)) else (none)) else (none)) else (none)) else (some (strOfNums x7, 0))
def zeros_Unpack.f (k : Nat) (a0 : ByteArray) : Option (ByteArray × Int) := (zeros_parts.f k a0).bind fun bt160 => (if bt160.2.2 = 0 then (if bt160.2.1 > 1048576 then (some ((⟨#[]⟩ : ByteArray), 7)) else (if 0 ≤ bt160.2.1 then (if (bt160.2.1 : Int).toNat ≤ 281474976710656 then (zeros_Unpack.l0 k (([] : List Int)) bt160.1 (bt160.1.length : Int) 0) else (none)) else (none))) else (some ((⟨#[]⟩ : ByteArray), bt160.2.2)))
theorem zeros_Unpack.mono_l : ∀ k, (∀ y0 y1 y2 y3, LeO (zeros_Unpack.l0 k y0 y1 y2 y3) (zeros_Unpack.l0 (k + 1) y0 y1 y2 y3))
  | 0 => fun _ _ _ _ r h => by simp [zeros_Unpack.l0] at h
  | k + 1 => by
    have ih0 := zeros_Unpack.mono_l k
    · intro y0 y1 y2 y3
      unfold zeros_Unpack.l0
      repeat' first
      | (with_reducible exact ih0 _ _ _ _)
      | (with_reducible exact zeros_parts.mono _ _)
      | (with_reducible exact LeO.refl _)
      | (with_reducible exact LeO.none _)
      | (with_reducible refine LeO.ite ?_ ?_)
      | (with_reducible refine LeO.bind ?_ (fun _ => ?_))
      | exact ih0 _ _ _ _
      | exact zeros_parts.mono _ _
      | exact LeO.none _
      | refine LeO.ite ?_ ?_
      | refine LeO.bind ?_ (fun _ => ?_)
theorem zeros_Unpack.mono : ∀ a0 k, LeO (zeros_Unpack.f k a0) (zeros_Unpack.f (k + 1) a0) := by
  intro a0 k
  have ih0 := zeros_Unpack.mono_l k
  unfold zeros_Unpack.f
  repeat' first
      | (with_reducible exact ih0 _ _ _ _)
      | (with_reducible exact zeros_parts.mono _ _)
      | (with_reducible exact LeO.refl _)
      | (with_reducible exact LeO.none _)
      | (with_reducible refine LeO.ite ?_ ?_)
      | (with_reducible refine LeO.bind ?_ (fun _ => ?_))
      | exact ih0 _ _ _ _
      | exact zeros_parts.mono _ _
      | exact LeO.none _
      | refine LeO.ite ?_ ?_
      | refine LeO.bind ?_ (fun _ => ?_)
set_option maxHeartbeats 8000000 in
set_option maxRecDepth 100000 in
theorem zeros_Unpack.calls (k : Nat) (a0 : ByteArray) (r1 : ByteArray) (r2 : Int) (w : World) (h : zeros_Unpack.f k a0 = some (r1, r2)) :
    Calls Tryd.prog 20 #[.string a0] w fun e w' => e = .returned (.tuple #[.string r1, .int .i64 r2]) ∧ Below w.heap.size w w' := by
  have hu88 := Tryd.underlying88
  have HB := Aside0.mk (Below.refl w.heap.size w)
  have H : ((zeros_parts.f k a0).bind fun bt160 => (if bt160.2.2 = 0 then (if bt160.2.1 > 1048576 then (some ((⟨#[]⟩ : ByteArray), 7)) else (if 0 ≤ bt160.2.1 then (if (bt160.2.1 : Int).toNat ≤ 281474976710656 then (zeros_Unpack.l0 k (([] : List Int)) bt160.1 (bt160.1.length : Int) 0) else (none)) else (none))) else (some ((⟨#[]⟩ : ByteArray), bt160.2.2)))) = some (r1, r2) := h
  clear h
  replace H := Option.bind_eq_some_iff.mp H
  obtain ⟨⟨t160, t161, t162⟩, A20, H⟩ := H
  replace H : (if t162 = 0 then (if t161 > 1048576 then (some ((⟨#[]⟩ : ByteArray), 7)) else (if 0 ≤ t161 then (if (t161 : Int).toNat ≤ 281474976710656 then (zeros_Unpack.l0 k (([] : List Int)) t160 (t160.length : Int) 0) else (none)) else (none))) else (some ((⟨#[]⟩ : ByteArray), t162))) = some (r1, r2) := H
  have A2 := Aside0.mk A20
  clear A20
  by_cases c3 : t162 = 0
  · rw [if_pos c3] at H
    have c3b0 : (t162 == 0) = true := beq_iff_eq.mpr c3
    have c3b1 : (t162 != 0) = false := bne_eq_false_iff_eq.mpr c3
    clear c3
    by_cases c4 : t161 > 1048576
    · rw [if_pos c4] at H
      have c4b0 : decide (1048576 < t161) = true := decide_eq_true c4
      clear c4
      simp only [Option.some.injEq, Prod.mk.injEq] at H
      obtain ⟨rfl, rfl⟩ := H
      go_enter Tryd.func20, Tryd.ntmps20
      go_wp2_with (first | ((with_reducible refine gate_callee (f := 53) rfl ?_); refine goesL_ (some 12) rfl rfl Tryd.func53 (by kernel_rfl) rfl #[.string a0] rfl (by (try simp only [List.map_toArray, List.map_cons, List.map_nil]); first | done | rfl | (simp only [List.length_drop, List.length_take]; rfl)) ?_; (with_reducible refine (zeros_parts.calls k a0 t160 t161 t162 _ A2.out).mono ?_); rintro e w5 ⟨v163, rfl, ho0, hb⟩; refine ⟨_, rfl, ?_⟩; have n0_ := Aside0.mk (Kd.R_lower ho0 (below_size (by repeat (first | (with_reducible first | exact HB.out | apply below_alloc | apply pw_below_drewN | apply below_drew1) | exact HB.out)))); have n1_ := Aside0.mk (below_step (by repeat (first | (with_reducible first | exact HB.out | apply below_alloc | apply pw_below_drewN | apply below_drew1) | exact HB.out)) hb); clear HB; have HO164 := n0_; have HB := n1_; clear n0_ n1_; (try clear hb); (try clear hb2); (try clear hk); (try clear hi); (try clear ho0)))
      go_ret2
      exact ⟨by first | rfl | (simp [errW_none, errW_some] <;> rfl) | (simp [*, errW_none, errW_some] <;> rfl), by repeat (first | (with_reducible first | exact HB.out | apply below_alloc | apply pw_below_drewN | apply below_drew1) | exact HB.out)⟩
    · rw [if_neg c4] at H
      have c4b0 : decide (1048576 < t161) = false := decide_eq_false c4
      clear c4
      by_cases c6 : 0 ≤ t161
      · rw [if_pos c6] at H
        have c6b0 := eq_true c6
        have c6b1 : decide (0 ≤ t161) = true := decide_eq_true c6
        clear c6
        by_cases c7 : (t161 : Int).toNat ≤ 281474976710656
        · rw [if_pos c7] at H
          have c7b0 := eq_true c7
          have c7b1 : decide ((t161 : Int).toNat ≤ 281474976710656) = true := decide_eq_true c7
          clear c7
          obtain ⟨y165, hy165⟩ : ∃ y_ : List Int, y_ = (([] : List Int)) := ⟨_, rfl⟩
          replace H : (zeros_Unpack.l0 k y165 t160 (t160.length : Int) 0) = some (r1, r2) := by first | (rw [hy165]; with_reducible exact H) | (have H2_ := (Option.bind_some _ _).symm.trans H; rw [hy165]; with_reducible exact H2_) | (have H2_ := (Option.bind_some _ _).symm.trans H; with_reducible exact H2_) | with_reducible exact H | (rw [hy165]; exact H) | exact H
          have Ny165 := Aside0.mk hy165
          clear hy165
          have H' := Aside0.mk H
          clear H
          go_enter Tryd.func20, Tryd.ntmps20
          go_wp2_with (first | ((with_reducible refine gate_callee (f := 53) rfl ?_); refine goesL_ (some 12) rfl rfl Tryd.func53 (by kernel_rfl) rfl #[.string a0] rfl (by (try simp only [List.map_toArray, List.map_cons, List.map_nil]); first | done | rfl | (simp only [List.length_drop, List.length_take]; rfl)) ?_; (with_reducible refine (zeros_parts.calls k a0 t160 t161 t162 _ A2.out).mono ?_); rintro e w8 ⟨v163, rfl, ho0, hb⟩; refine ⟨_, rfl, ?_⟩; have n0_ := Aside0.mk (Kd.R_lower ho0 (below_size (by repeat (first | (with_reducible first | exact HB.out | apply below_alloc | apply pw_below_drewN | apply below_drew1) | exact HB.out)))); have n1_ := Aside0.mk (below_step (by repeat (first | (with_reducible first | exact HB.out | apply below_alloc | apply pw_below_drewN | apply below_drew1) | exact HB.out)) hb); clear HB; have HO164 := n0_; have HB := n1_; clear n0_ n1_; (try clear hb); (try clear hb2); (try clear hk); (try clear hi); (try clear ho0)) | ((with_reducible refine gate_dst (N := 24) rfl ?_); refine Kd.R_make0 (Kd.int .u8) _ 5 rfl (N := 24) rfl 40 _ _ rfl t161 rfl rfl Tryd.underlying40 (.int .u8 0) 1 info5 rfl (by decide) (by omega) 0 (ok := fun _ => True) (okp := fun _ => True) rfl (fun _ hk => hk) trivial (of_decide_eq_true (by first | (with_reducible assumption) | assumption)) (Nat.le_trans (Nat.mul_le_mul_right _ (of_decide_eq_true (by first | (with_reducible assumption) | assumption) : t161.toNat ≤ 281474976710656)) (by omega)) (Below.refl _ _) (Nat.le_refl _) ?_; intro v166 w9 ho10 hb hg_ hnew_; clear hg_ hnew_; (first | rw [← Ny165.out] at ho10 | (simp only [Int.reduceToNat] at ho10; rw [← Ny165.out] at ho10)); have n0_ := Aside0.mk (Kd.R_below (by (with_reducible repeat (first | apply Kd.R_alloc | apply Kd.R_drewN | apply Kd.R_drew)); exact HO164.out) hb); have n1_ := Aside0.mk (Kd.R_lower ho10 (below_size (by repeat (first | (with_reducible first | exact HB.out | apply below_alloc | apply pw_below_drewN | apply below_drew1) | exact HB.out)))); have n2_ := Aside0.mk (below_step (by repeat (first | (with_reducible first | exact HB.out | apply below_alloc | apply pw_below_drewN | apply below_drew1) | exact HB.out)) hb); clear HO164; clear HB; have HO164 := n0_; have HO167 := n1_; have HB := n2_; clear n0_ n1_ n2_; clear hb ho10; obtain ⟨Ao11, co11, eo11⟩ := Kd.R_slice HO164.out; subst eo11))
          go_loopg [7, 27] k (fun kq v7 v27 w' => ∃ (x7_1 : List Int) (x27_1 : Int), v27 = .int .i64 x27_1 ∧ Aside0 (zeros_Unpack.l0 kq x7_1 t160 (t160.length : Int) x27_1 = some (r1, r2)) ∧ Aside0 (kq ≤ k) ∧ Aside0 (Kd.R (Kd.int .u8) 5 w' w.heap.size (fun _ => True) v7 x7_1) ∧ Aside0 (Kd.R k88 88 w' w.heap.size (fun _ => True) (.slice Ao11 t160.length co11) t160) ∧ Aside0 (Below w.heap.size w w'))
          case atStart => exact ⟨(y165), (0), (by first | rfl | (simp; done) | (simp [*]; done)), H', ⟨Nat.le_refl _⟩, ⟨by (with_reducible repeat (first | apply Kd.R_alloc | apply Kd.R_drewN | apply Kd.R_drew)); exact HO167.out⟩, ⟨by (with_reducible repeat (first | apply Kd.R_alloc | apply Kd.R_drewN | apply Kd.R_drew)); exact HO164.out⟩, ⟨by repeat (first | (with_reducible first | exact HB.out | apply below_alloc | apply pw_below_drewN | apply below_drew1) | exact HB.out)⟩⟩
          case round =>
            clear H'
            try clear c2
            try clear p2
            try clear c3
            try clear c3b0
            try clear c3b1
            try clear c4
            try clear c4b0
            try clear c5
            try clear c6
            try clear c6b0
            try clear c6b1
            try clear c7
            try clear c7b0
            try clear c7b1
            obtain ⟨x7_1, x27_1, rfl, HA, HK1, HO_7, HO_25, HB⟩ := hrel
            cases gk with
            | zero => exact absurd HA.out (by simp [zeros_Unpack.l0])
            | succ k1 =>
              have H := HA.out
              clear HA
              simp only [zeros_Unpack.l0] at H
              by_cases c12 : x27_1 < (t160.length : Int)
              · rw [if_pos c12] at H
                have c12b0 : decide (x27_1 < (t160.length : Int)) = true := decide_eq_true c12
                clear c12
                by_cases c13 : 0 ≤ x27_1
                · rw [if_pos c13] at H
                  have c13b0 : decide (0 ≤ x27_1) = true := decide_eq_true c13
                  clear c13
                  by_cases c14 : x27_1 < (t160.length : Int)
                  · rw [if_pos c14] at H
                    have c14b0 : decide (x27_1 < (t160.length : Int)) = true := decide_eq_true c14
                    clear c14
                    by_cases c15 : 0 ≤ ((rd_T88 t160 x27_1).f0)
                    · rw [if_pos c15] at H
                      have c15b0 := eq_true c15
                      have c15b1 : decide (0 ≤ ((rd_T88 t160 x27_1).f0)) = true := decide_eq_true c15
                      clear c15
                      by_cases c16 : x7_1.length + ((rd_T88 t160 x27_1).f0 : Int).toNat < 140737488355328
                      · rw [if_pos c16] at H
                        have LMc16 := Aside0.mk c16
                        clear c16
                        obtain ⟨y170, hy170⟩ : ∃ y_ : List Int, y_ = (x7_1 ++ List.replicate ((rd_T88 t160 x27_1).f0 : Int).toNat 0) := ⟨_, rfl⟩
                        replace H : (if y170.length + ((rd_T88 t160 x27_1).f1).size < 140737488355328 then (zeros_Unpack.l0 k1 (y170 ++ bytesOf ((rd_T88 t160 x27_1).f1)) t160 (t160.length : Int) (wrap64 (x27_1 + 1))) else (none)) = some (r1, r2) := by first | (rw [hy170]; with_reducible exact H) | (have H2_ := (Option.bind_some _ _).symm.trans H; rw [hy170]; with_reducible exact H2_) | (have H2_ := (Option.bind_some _ _).symm.trans H; with_reducible exact H2_) | with_reducible exact H | (rw [hy170]; exact H) | exact H
                        have Ny170 := Aside0.mk hy170
                        clear hy170
                        by_cases c17 : y170.length + ((rd_T88 t160 x27_1).f1).size < 140737488355328
                        · rw [if_pos c17] at H
                          have LMc17 := Aside0.mk c17
                          clear c17
                          obtain ⟨y173, hy173⟩ : ∃ y_ : List Int, y_ = (y170 ++ bytesOf ((rd_T88 t160 x27_1).f1)) := ⟨_, rfl⟩
                          replace H : (zeros_Unpack.l0 k1 y173 t160 (t160.length : Int) (wrap64 (x27_1 + 1))) = some (r1, r2) := by first | (rw [hy173]; with_reducible exact H) | (have H2_ := (Option.bind_some _ _).symm.trans H; rw [hy173]; with_reducible exact H2_) | (have H2_ := (Option.bind_some _ _).symm.trans H; with_reducible exact H2_) | with_reducible exact H | (rw [hy173]; exact H) | exact H
                          have Ny173 := Aside0.mk hy173
                          clear hy173
                          have H' := Aside0.mk H
                          clear H
                          have p168 : 0 ≤ (x27_1 : Int) := of_decide_eq_true (by first | (with_reducible assumption) | assumption)
                          have q168 : x27_1 < (t160.length : Int) := of_decide_eq_true (by first | (with_reducible assumption) | assumption)
                          obtain ⟨ad168, e168, hx168_0, hx168_1⟩ := at_T88 (Kd.R_reads' HO_25.out).2.2 x27_1 p168 q168
                          cases e168
                          replace p168 := eq_true p168
                          replace q168 := eq_true q168
                          go_wp2_with (first | ((with_reducible refine gate_dst (N := 9) rfl ?_); refine box_event ?hg (N := 9) ?hd (cs := #[.int .i64 0, .string (⟨#[]⟩ : ByteArray)]) (t := 88) ?hr ?_; (case hd => rfl); (case hg => rfl); (case hr => first | (go_simp; done) | (go_simp; rfl)); intro gb169 hg w18 hbox hb; have n0_ := Aside0.mk (Kd.R_below (by (with_reducible repeat (first | apply Kd.R_alloc | apply Kd.R_drewN | apply Kd.R_drew)); exact HO_7.out) hb); have n1_ := Aside0.mk (Kd.R_below (Kd.R_elderB (by (with_reducible repeat (first | apply Kd.R_alloc | apply Kd.R_drewN | apply Kd.R_drew)); exact HO_25.out) gb169 (Nat.le_of_eq hg.symm)) hb); have n2_ := Aside0.mk (below_step (by repeat (first | (with_reducible first | exact HB.out | apply below_alloc | apply pw_below_drewN | apply below_drew1) | exact HB.out)) hb); have n3_ := Aside0.mk (hbox); have n4_ := Aside0.mk ((by rw [hg]; exact (below_size (by repeat (first | (with_reducible first | exact HB.out | apply below_alloc | apply pw_below_drewN | apply below_drew1) | exact HB.out))) : w.heap.size ≤ gb169)); have n5_ := Aside0.mk ((by rw [hg]; exact (below_size (by repeat (first | (with_reducible first | exact HB.out | apply below_alloc | apply pw_below_drewN | apply below_drew1) | exact HB.out))) : w.heap.size ≤ gb169)); clear HO_7; clear HO_25; clear HB; have HO_7 := n0_; have HO_25 := n1_; have HB := n2_; have BK169 := n3_; have GW169 := n4_; have GE169 := n5_; clear n0_ n1_ n2_ n3_ n4_ n5_; clear hb hbox hg; have hcz19_0 : w18.cell? ⟨gb169, 0, none⟩ = some (.int .i64 0) := (blk_cell BK169.out 0).trans rfl; have hcz19_1 : w18.cell? ⟨gb169, 1, none⟩ = some (.string (⟨#[]⟩ : ByteArray)) := (blk_cell BK169.out 1).trans rfl; have hfz19_0 := blk_frozen BK169.out 0; have hfz19_1 := blk_frozen BK169.out 1) | (at_builtin; refine Kd.R_append_zeros (Kd.int .u8) (w0 := w) w.heap.size rfl (.tmp 31) (.tmp 33) 40 3 5 (.int .u8 0) 1 rfl Tryd.underlying40 Tryd.underlying3 info5 rfl (by decide) (by omega) u7 x7_1 0 ((rd_T88 t160 x27_1).f0 : Int) (fun _ => True) rfl rfl rfl ?aF ?aO (of_decide_eq_true (by first | (with_reducible assumption) | assumption)) ?aB ?aS ?aL ?_; (case aB => exact (by repeat (first | (with_reducible first | exact HB.out | apply below_alloc | apply pw_below_drewN | apply below_drew1 | refine below_set ?_ GE169.out) | exact HB.out))); (case aF => exact (fun _ _ => trivial)); (case aO => exact (by (with_reducible repeat (first | apply Kd.R_alloc | apply Kd.R_drewN | apply Kd.R_drew)); exact Kd.R_mono (Kd.R_far (p := ⟨gb169, 1, none⟩) (Kd.R_far (p := ⟨gb169, 0, none⟩) (Kd.R_types HO_7.out BK169.out (by decide)) (fun _ hk => hk.2) (.int .i64 ((rd_T88 t160 x27_1).f0))) (fun _ hk => hk.2) (.string ((rd_T88 t160 x27_1).f1))) (fun _ hk => trivial))); (case aS => exact (below_size (by repeat (first | (with_reducible first | exact HB.out | apply below_alloc | apply pw_below_drewN | apply below_drew1 | refine below_set ?_ GE169.out) | exact HB.out)))); (case aL => have := LMc16.out; omega); intro v171 w20 ho hb hg hat; rw [← Ny170.out] at ho; have n0_ := Aside0.mk (Kd.R_over' (by (with_reducible repeat (first | apply Kd.R_alloc | apply Kd.R_drewN | apply Kd.R_drew)); exact (Kd.R_mono (Kd.R_far (p := ⟨gb169, 1, none⟩) (Kd.R_far (p := ⟨gb169, 0, none⟩) (Kd.R_mono HO_25.out (fun k_ hk => (⟨hk, hk.2⟩ : _ ∧ k_ ≠ gb169))) (fun _ hk => hk.2) (.int .i64 ((rd_T88 t160 x27_1).f0))) (fun _ hk => hk.2) (.string ((rd_T88 t160 x27_1).f1))) (fun _ h_ => h_.1))) (Kd.R_typed (by (with_reducible repeat (first | apply Kd.R_alloc | apply Kd.R_drewN | apply Kd.R_drew)); exact (Kd.R_mono (Kd.R_far (p := ⟨gb169, 1, none⟩) (Kd.R_far (p := ⟨gb169, 0, none⟩) (Kd.R_types HO_7.out BK169.out (by decide)) (fun _ hk => hk.2) (.int .i64 ((rd_T88 t160 x27_1).f0))) (fun _ hk => hk.2) (.string ((rd_T88 t160 x27_1).f1))) (fun _ h_ => h_.1)))) (by decide) hg); have n1_ := Aside0.mk (blk_grown (g := gb169) (o := .cells #[.int .i64 ((rd_T88 t160 x27_1).f0), .string ((rd_T88 t160 x27_1).f1)] 88 (0, 0)) (by (with_reducible repeat (first | refine blk_drewN ?_ _ | refine blk_drew ?_ | refine blk_alloc ?_ _)); refine blk_put (cs := #[.int .i64 ((rd_T88 t160 x27_1).f0), .string (⟨#[]⟩ : ByteArray)]) ?_ 1 _ rfl; (with_reducible repeat (first | refine blk_drewN ?_ _ | refine blk_drew ?_ | refine blk_alloc ?_ _)); refine blk_put (cs := #[.int .i64 0, .string (⟨#[]⟩ : ByteArray)]) ?_ 0 _ rfl; (with_reducible repeat (first | refine blk_drewN ?_ _ | refine blk_drew ?_ | refine blk_alloc ?_ _)); exact BK169.out) hg (Kd.R_ne HO_7.out BK169.out (by decide))); have n2_ := Aside0.mk (hb); have n3_ := Aside0.mk (ho); clear HO_25; clear BK169; clear HB; clear HO_7; have HO_25 := n0_; have BK169 := n1_; have HB := n2_; have HO172 := n3_; clear n0_ n1_ n2_ n3_; clear ho hb hg hat; have hcz21_0 : w20.cell? ⟨gb169, 0, none⟩ = some (.int .i64 ((rd_T88 t160 x27_1).f0)) := (blk_cell BK169.out 0).trans rfl; have hcz21_1 : w20.cell? ⟨gb169, 1, none⟩ = some (.string ((rd_T88 t160 x27_1).f1)) := (blk_cell BK169.out 1).trans rfl; have hfz21_0 := blk_frozen BK169.out 0; have hfz21_1 := blk_frozen BK169.out 1) | (at_builtin; refine print_append_str (w0 := w) w.heap.size rfl (.tmp 35) _ 40 9 5 rfl Tryd.underlying40 Tryd.underlying9 info5 v171 y170 ((rd_T88 t160 x27_1).f1) rfl rfl ?aO ?aB ?aS ?aL ?_; (case aB => exact (by repeat (first | (with_reducible first | exact HB.out | apply below_alloc | apply pw_below_drewN | apply below_drew1 | refine below_set ?_ GE169.out) | exact HB.out))); (case aO => exact (Kd.own_of_R (by (with_reducible repeat (first | apply Kd.R_alloc | apply Kd.R_drewN | apply Kd.R_drew)); exact HO172.out))); (case aS => exact (below_size (by repeat (first | (with_reducible first | exact HB.out | apply below_alloc | apply pw_below_drewN | apply below_drew1 | refine below_set ?_ GE169.out) | exact HB.out)))); (case aL => have := LMc17.out; omega); intro v174 w22 ho0 hb hg; have ho := Kd.R_of_own (h1 := fun _ => rfl) (ok := fun _ => True) ho0 (fun _ _ => trivial); clear ho0; have hat := True.intro; rw [← Ny173.out] at ho; change Kd.R (Kd.int .u8) 5 w22 w.heap.size (fun _ => True) v174 y173 at ho; have n0_ := Aside0.mk (Kd.R_over' (by (with_reducible repeat (first | apply Kd.R_alloc | apply Kd.R_drewN | apply Kd.R_drew)); exact HO_25.out) (Kd.R_typed (by (with_reducible repeat (first | apply Kd.R_alloc | apply Kd.R_drewN | apply Kd.R_drew)); exact HO172.out)) (by decide) hg); have n1_ := Aside0.mk (blk_grown (g := gb169) (o := .cells #[.int .i64 ((rd_T88 t160 x27_1).f0), .string ((rd_T88 t160 x27_1).f1)] 88 (0, 0)) (by (with_reducible repeat (first | refine blk_drewN ?_ _ | refine blk_drew ?_ | refine blk_alloc ?_ _)); exact BK169.out) hg (Kd.R_ne HO172.out BK169.out (by decide))); have n2_ := Aside0.mk (hb); have n3_ := Aside0.mk (ho); clear HO_25; clear BK169; clear HB; clear HO172; have HO_25 := n0_; have BK169 := n1_; have HB := n2_; have HO175 := n3_; clear n0_ n1_ n2_ n3_; clear ho hb hg hat))
                          go_roundg k1
                          case measure => have := HK1.out; omega
                          case rel => exact ⟨(y173), (wrap64 (x27_1 + 1)), (by first | rfl | (simp; done) | (simp [*]; done)), H', ⟨by have := HK1.out; omega⟩, ⟨by (with_reducible repeat (first | apply Kd.R_alloc | apply Kd.R_drewN | apply Kd.R_drew)); exact HO175.out⟩, ⟨by (with_reducible repeat (first | apply Kd.R_alloc | apply Kd.R_drewN | apply Kd.R_drew)); exact Kd.R_mono HO_25.out (fun _ hk => trivial)⟩, ⟨by repeat (first | (with_reducible first | exact HB.out | apply below_alloc | apply pw_below_drewN | apply below_drew1 | refine below_set ?_ GE169.out) | exact HB.out)⟩⟩
                        · rw [if_neg c17] at H
                          exact absurd H (by simp)
                      · rw [if_neg c16] at H
                        exact absurd H (by simp)
                    · rw [if_neg c15] at H
                      exact absurd H (by simp)
                  · rw [if_neg c14] at H
                    exact absurd H (by simp)
                · rw [if_neg c13] at H
                  exact absurd H (by simp)
              · rw [if_neg c12] at H
                have c12b0 : decide (x27_1 < (t160.length : Int)) = false := decide_eq_false c12
                clear c12
                simp only [Option.some.injEq, Prod.mk.injEq] at H
                obtain ⟨rfl, rfl⟩ := H
                have hcv23 := own_string (P := Tryd.prog) Tryd.underlying40 Tryd.underlying5 Tryd.underlying9 (Kd.own_of_R HO_7.out)
                go_wp2
                go_ret2
                exact ⟨by first | rfl | (simp [errW_none, errW_some] <;> rfl) | (simp [*, errW_none, errW_some] <;> rfl), by repeat (first | (with_reducible first | exact HB.out | apply below_alloc | apply pw_below_drewN | apply below_drew1) | exact HB.out)⟩
        · rw [if_neg c7] at H
          exact absurd H (by simp)
      · rw [if_neg c6] at H
        exact absurd H (by simp)
  · rw [if_neg c3] at H
    have c3b0 : (t162 == 0) = false := beq_eq_false_iff_ne.mpr c3
    have c3b1 : (t162 != 0) = true := bne_iff_ne.mpr c3
    simp only [Option.some.injEq, Prod.mk.injEq] at H
    obtain ⟨rfl, rfl⟩ := H
    go_enter Tryd.func20, Tryd.ntmps20
    go_wp2_with (first | ((with_reducible refine gate_callee (f := 53) rfl ?_); refine goesL_ (some 12) rfl rfl Tryd.func53 (by kernel_rfl) rfl #[.string a0] rfl (by (try simp only [List.map_toArray, List.map_cons, List.map_nil]); first | done | rfl | (simp only [List.length_drop, List.length_take]; rfl)) ?_; (with_reducible refine (zeros_parts.calls k a0 t160 t161 t162 _ A2.out).mono ?_); rintro e w24 ⟨v163, rfl, ho0, hb⟩; refine ⟨_, rfl, ?_⟩; have n0_ := Aside0.mk (Kd.R_lower ho0 (below_size (by repeat (first | (with_reducible first | exact HB.out | apply below_alloc | apply pw_below_drewN | apply below_drew1) | exact HB.out)))); have n1_ := Aside0.mk (below_step (by repeat (first | (with_reducible first | exact HB.out | apply below_alloc | apply pw_below_drewN | apply below_drew1) | exact HB.out)) hb); clear HB; have HO164 := n0_; have HB := n1_; clear n0_ n1_; (try clear hb); (try clear hb2); (try clear hk); (try clear hi); (try clear ho0)))
    go_ret2
    exact ⟨by first | rfl | (simp [errW_none, errW_some] <;> rfl) | (simp [*, errW_none, errW_some] <;> rfl), by repeat (first | (with_reducible first | exact HB.out | apply below_alloc | apply pw_below_drewN | apply below_drew1) | exact HB.out)⟩

/-! ### zeros_Form: function 21 -/
def zeros_Form.f (k : Nat) (a0 : ByteArray) : Option (Bool) := (zeros_Unpack.f k a0).bind fun bt176 => (if bt176.2 = 0 then ((zeros_Pack.f k bt176.1).bind fun bt178 => (if bt178.2 = 0 then (some (bt178.1.toList == a0.toList)) else (some false))) else (some false))
theorem zeros_Form.mono : ∀ a0 k, LeO (zeros_Form.f k a0) (zeros_Form.f (k + 1) a0) := by
  intro a0 k
  unfold zeros_Form.f
  repeat' first
      | (with_reducible exact zeros_Pack.mono _ _)
      | (with_reducible exact zeros_Unpack.mono _ _)
      | (with_reducible exact LeO.refl _)
      | (with_reducible exact LeO.none _)
      | (with_reducible refine LeO.ite ?_ ?_)
      | (with_reducible refine LeO.bind ?_ (fun _ => ?_))
      | exact zeros_Pack.mono _ _
      | exact zeros_Unpack.mono _ _
      | exact LeO.none _
      | refine LeO.ite ?_ ?_
      | refine LeO.bind ?_ (fun _ => ?_)
set_option maxHeartbeats 8000000 in
set_option maxRecDepth 100000 in
theorem zeros_Form.calls (k : Nat) (a0 : ByteArray) (r : Bool) (w : World) (hG : GT w) (h : zeros_Form.f k a0 = some r) :
    Calls Tryd.prog 21 #[.string a0] w fun e w' => e = .returned (.bool r) ∧ Below w.heap.size w w' := by
  have HB := Aside0.mk (Below.refl w.heap.size w)
  have HG := Aside0.mk hG
  clear hG
  have H : ((zeros_Unpack.f k a0).bind fun bt176 => (if bt176.2 = 0 then ((zeros_Pack.f k bt176.1).bind fun bt178 => (if bt178.2 = 0 then (some (bt178.1.toList == a0.toList)) else (some false))) else (some false))) = some r := h
  clear h
  replace H := Option.bind_eq_some_iff.mp H
  obtain ⟨⟨t176, t177⟩, A20, H⟩ := H
  replace H : (if t177 = 0 then ((zeros_Pack.f k t176).bind fun bt178 => (if bt178.2 = 0 then (some (bt178.1.toList == a0.toList)) else (some false))) else (some false)) = some r := H
  have A2 := Aside0.mk A20
  clear A20
  by_cases c3 : t177 = 0
  · rw [if_pos c3] at H
    have c3b0 : (t177 == 0) = true := beq_iff_eq.mpr c3
    have c3b1 : (t177 != 0) = false := bne_eq_false_iff_eq.mpr c3
    clear c3
    replace H := Option.bind_eq_some_iff.mp H
    obtain ⟨⟨t178, t179⟩, A40, H⟩ := H
    replace H : (if t179 = 0 then (some (t178.toList == a0.toList)) else (some false)) = some r := H
    have A4 := Aside0.mk A40
    clear A40
    by_cases c5 : t179 = 0
    · rw [if_pos c5] at H
      have c5b0 : (t179 == 0) = true := beq_iff_eq.mpr c5
      have c5b1 : (t179 != 0) = false := bne_eq_false_iff_eq.mpr c5
      clear c5
      obtain rfl := Option.some.inj H
      go_enter Tryd.func21, Tryd.ntmps21
      go_wp2_with (first | ((with_reducible refine gate_callee (f := 20) rfl ?_); refine goesL_ (some 8) rfl rfl Tryd.func20 (by kernel_rfl) rfl #[.string a0] rfl (by (try simp only [List.map_toArray, List.map_cons, List.map_nil]); first | done | rfl | (simp only [List.length_drop, List.length_take]; rfl)) ?_; (with_reducible refine (zeros_Unpack.calls k a0 t176 t177 _ A2.out).mono ?_); rintro e w6 ⟨rfl, hb⟩; refine ⟨_, rfl, ?_⟩; have n0_ := Aside0.mk (below_step (by repeat (first | (with_reducible first | exact HB.out | apply below_alloc | apply pw_below_drewN | apply below_drew1) | exact HB.out)) hb); clear HB; have HB := n0_; clear n0_; (try clear hb); (try clear hb2); (try clear hk); (try clear hi)) | ((with_reducible refine gate_callee (f := 19) rfl ?_); refine goesL_ (some 15) rfl rfl Tryd.func19 (by kernel_rfl) rfl #[.string t176] rfl (by (try simp only [List.map_toArray, List.map_cons, List.map_nil]); first | done | rfl | (simp only [List.length_drop, List.length_take]; rfl)) ?_; (with_reducible refine (zeros_Pack.calls k t176 t178 t179 _ ?side1 A4.out).mono ?_); (case side1 => first | exact HG.out | exact GT.below HG.out (by repeat (first | (with_reducible first | exact HB.out | apply below_alloc | apply pw_below_drewN | apply below_drew1) | exact HB.out))); rintro e w7 ⟨rfl, hb⟩; refine ⟨_, rfl, ?_⟩; have n0_ := Aside0.mk (below_step (by repeat (first | (with_reducible first | exact HB.out | apply below_alloc | apply pw_below_drewN | apply below_drew1) | exact HB.out)) hb); clear HB; have HB := n0_; clear n0_; (try clear hb); (try clear hb2); (try clear hk); (try clear hi)))
      go_ret
      exact ⟨by first | rfl | (simp [errW_none, errW_some] <;> rfl) | (simp [*, errW_none, errW_some] <;> rfl), by repeat (first | (with_reducible first | exact HB.out | apply below_alloc | apply pw_below_drewN | apply below_drew1) | exact HB.out)⟩
    · rw [if_neg c5] at H
      have c5b0 : (t179 == 0) = false := beq_eq_false_iff_ne.mpr c5
      have c5b1 : (t179 != 0) = true := bne_iff_ne.mpr c5
      obtain rfl := Option.some.inj H
      go_enter Tryd.func21, Tryd.ntmps21
      go_wp2_with (first | ((with_reducible refine gate_callee (f := 20) rfl ?_); refine goesL_ (some 8) rfl rfl Tryd.func20 (by kernel_rfl) rfl #[.string a0] rfl (by (try simp only [List.map_toArray, List.map_cons, List.map_nil]); first | done | rfl | (simp only [List.length_drop, List.length_take]; rfl)) ?_; (with_reducible refine (zeros_Unpack.calls k a0 t176 t177 _ A2.out).mono ?_); rintro e w8 ⟨rfl, hb⟩; refine ⟨_, rfl, ?_⟩; have n0_ := Aside0.mk (below_step (by repeat (first | (with_reducible first | exact HB.out | apply below_alloc | apply pw_below_drewN | apply below_drew1) | exact HB.out)) hb); clear HB; have HB := n0_; clear n0_; (try clear hb); (try clear hb2); (try clear hk); (try clear hi)) | ((with_reducible refine gate_callee (f := 19) rfl ?_); refine goesL_ (some 15) rfl rfl Tryd.func19 (by kernel_rfl) rfl #[.string t176] rfl (by (try simp only [List.map_toArray, List.map_cons, List.map_nil]); first | done | rfl | (simp only [List.length_drop, List.length_take]; rfl)) ?_; (with_reducible refine (zeros_Pack.calls k t176 t178 t179 _ ?side1 A4.out).mono ?_); (case side1 => first | exact HG.out | exact GT.below HG.out (by repeat (first | (with_reducible first | exact HB.out | apply below_alloc | apply pw_below_drewN | apply below_drew1) | exact HB.out))); rintro e w9 ⟨rfl, hb⟩; refine ⟨_, rfl, ?_⟩; have n0_ := Aside0.mk (below_step (by repeat (first | (with_reducible first | exact HB.out | apply below_alloc | apply pw_below_drewN | apply below_drew1) | exact HB.out)) hb); clear HB; have HB := n0_; clear n0_; (try clear hb); (try clear hb2); (try clear hk); (try clear hi)))
      go_ret
      exact ⟨by first | rfl | (simp [errW_none, errW_some] <;> rfl) | (simp [*, errW_none, errW_some] <;> rfl), by repeat (first | (with_reducible first | exact HB.out | apply below_alloc | apply pw_below_drewN | apply below_drew1) | exact HB.out)⟩
  · rw [if_neg c3] at H
    have c3b0 : (t177 == 0) = false := beq_eq_false_iff_ne.mpr c3
    have c3b1 : (t177 != 0) = true := bne_iff_ne.mpr c3
    obtain rfl := Option.some.inj H
    go_enter Tryd.func21, Tryd.ntmps21
    go_wp2_with (first | ((with_reducible refine gate_callee (f := 20) rfl ?_); refine goesL_ (some 8) rfl rfl Tryd.func20 (by kernel_rfl) rfl #[.string a0] rfl (by (try simp only [List.map_toArray, List.map_cons, List.map_nil]); first | done | rfl | (simp only [List.length_drop, List.length_take]; rfl)) ?_; (with_reducible refine (zeros_Unpack.calls k a0 t176 t177 _ A2.out).mono ?_); rintro e w10 ⟨rfl, hb⟩; refine ⟨_, rfl, ?_⟩; have n0_ := Aside0.mk (below_step (by repeat (first | (with_reducible first | exact HB.out | apply below_alloc | apply pw_below_drewN | apply below_drew1) | exact HB.out)) hb); clear HB; have HB := n0_; clear n0_; (try clear hb); (try clear hb2); (try clear hk); (try clear hi)))
    go_ret
    exact ⟨by first | rfl | (simp [errW_none, errW_some] <;> rfl) | (simp [*, errW_none, errW_some] <;> rfl), by repeat (first | (with_reducible first | exact HB.out | apply below_alloc | apply pw_below_drewN | apply below_drew1) | exact HB.out)⟩

/-! ### zeros_Gain: function 22 -/
def zeros_Gain.f (k : Nat) (a0 : ByteArray) : Option (Int) := (zeros_Pack.f k a0).bind fun bt180 => (if bt180.2 = 0 then (some (wrap64 ((a0.size : Int) - (bt180.1.size : Int)))) else (some 0))
theorem zeros_Gain.mono : ∀ a0 k, LeO (zeros_Gain.f k a0) (zeros_Gain.f (k + 1) a0) := by
  intro a0 k
  unfold zeros_Gain.f
  repeat' first
      | (with_reducible exact zeros_Pack.mono _ _)
      | (with_reducible exact LeO.refl _)
      | (with_reducible exact LeO.none _)
      | (with_reducible refine LeO.ite ?_ ?_)
      | (with_reducible refine LeO.bind ?_ (fun _ => ?_))
      | exact zeros_Pack.mono _ _
      | exact LeO.none _
      | refine LeO.ite ?_ ?_
      | refine LeO.bind ?_ (fun _ => ?_)
set_option maxHeartbeats 8000000 in
set_option maxRecDepth 100000 in
theorem zeros_Gain.calls (k : Nat) (a0 : ByteArray) (r : Int) (w : World) (hG : GT w) (h : zeros_Gain.f k a0 = some r) :
    Calls Tryd.prog 22 #[.string a0] w fun e w' => e = .returned (.int .i64 r) ∧ Below w.heap.size w w' := by
  have HB := Aside0.mk (Below.refl w.heap.size w)
  have HG := Aside0.mk hG
  clear hG
  have H : ((zeros_Pack.f k a0).bind fun bt180 => (if bt180.2 = 0 then (some (wrap64 ((a0.size : Int) - (bt180.1.size : Int)))) else (some 0))) = some r := h
  clear h
  replace H := Option.bind_eq_some_iff.mp H
  obtain ⟨⟨t180, t181⟩, A20, H⟩ := H
  replace H : (if t181 = 0 then (some (wrap64 ((a0.size : Int) - (t180.size : Int)))) else (some 0)) = some r := H
  have A2 := Aside0.mk A20
  clear A20
  by_cases c3 : t181 = 0
  · rw [if_pos c3] at H
    have c3b0 : (t181 == 0) = true := beq_iff_eq.mpr c3
    have c3b1 : (t181 != 0) = false := bne_eq_false_iff_eq.mpr c3
    clear c3
    obtain rfl := Option.some.inj H
    go_enter Tryd.func22, Tryd.ntmps22
    go_wp2_with (first | ((with_reducible refine gate_callee (f := 19) rfl ?_); refine goesL_ (some 7) rfl rfl Tryd.func19 (by kernel_rfl) rfl #[.string a0] rfl (by (try simp only [List.map_toArray, List.map_cons, List.map_nil]); first | done | rfl | (simp only [List.length_drop, List.length_take]; rfl)) ?_; (with_reducible refine (zeros_Pack.calls k a0 t180 t181 _ ?side1 A2.out).mono ?_); (case side1 => first | exact HG.out | exact GT.below HG.out (by repeat (first | (with_reducible first | exact HB.out | apply below_alloc | apply pw_below_drewN | apply below_drew1) | exact HB.out))); rintro e w4 ⟨rfl, hb⟩; refine ⟨_, rfl, ?_⟩; have n0_ := Aside0.mk (below_step (by repeat (first | (with_reducible first | exact HB.out | apply below_alloc | apply pw_below_drewN | apply below_drew1) | exact HB.out)) hb); clear HB; have HB := n0_; clear n0_; (try clear hb); (try clear hb2); (try clear hk); (try clear hi)))
    go_ret
    exact ⟨by first | rfl | (simp [errW_none, errW_some] <;> rfl) | (simp [*, errW_none, errW_some] <;> rfl), by repeat (first | (with_reducible first | exact HB.out | apply below_alloc | apply pw_below_drewN | apply below_drew1) | exact HB.out)⟩
  · rw [if_neg c3] at H
    have c3b0 : (t181 == 0) = false := beq_eq_false_iff_ne.mpr c3
    have c3b1 : (t181 != 0) = true := bne_iff_ne.mpr c3
    obtain rfl := Option.some.inj H
    go_enter Tryd.func22, Tryd.ntmps22
    go_wp2_with (first | ((with_reducible refine gate_callee (f := 19) rfl ?_); refine goesL_ (some 7) rfl rfl Tryd.func19 (by kernel_rfl) rfl #[.string a0] rfl (by (try simp only [List.map_toArray, List.map_cons, List.map_nil]); first | done | rfl | (simp only [List.length_drop, List.length_take]; rfl)) ?_; (with_reducible refine (zeros_Pack.calls k a0 t180 t181 _ ?side1 A2.out).mono ?_); (case side1 => first | exact HG.out | exact GT.below HG.out (by repeat (first | (with_reducible first | exact HB.out | apply below_alloc | apply pw_below_drewN | apply below_drew1) | exact HB.out))); rintro e w5 ⟨rfl, hb⟩; refine ⟨_, rfl, ?_⟩; have n0_ := Aside0.mk (below_step (by repeat (first | (with_reducible first | exact HB.out | apply below_alloc | apply pw_below_drewN | apply below_drew1) | exact HB.out)) hb); clear HB; have HB := n0_; clear n0_; (try clear hb); (try clear hb2); (try clear hk); (try clear hi)))
    go_ret
    exact ⟨by first | rfl | (simp [errW_none, errW_some] <;> rfl) | (simp [*, errW_none, errW_some] <;> rfl), by repeat (first | (with_reducible first | exact HB.out | apply below_alloc | apply pw_below_drewN | apply below_drew1) | exact HB.out)⟩

/-! ### caulklaw35_lives: function 18 -/
def caulklaw35_lives.f (k : Nat)  : Option (Bool) := (zeros_Pack.f k (⟨#[97, 98, 0, 0, 99, 0, 0, 0, 0, 0, 100]⟩ : ByteArray)).bind fun bt182 => ((zeros_Unpack.f k bt182.1).bind fun bt184 => ((zeros_Unpack.f k (⟨#[0, 0, 2, 0, 97]⟩ : ByteArray)).bind fun bt186 => ((zeros_Pack.f k (⟨#[]⟩ : ByteArray)).bind fun bt188 => (if bt182.1.toList = ([0, 0, 5, 0, 97, 98, 0, 0, 99, 5, 0, 1, 0, 100] : List UInt8) then (if bt182.2 = 0 then (if bt184.1.toList = ([97, 98, 0, 0, 99, 0, 0, 0, 0, 0, 100] : List UInt8) then (if bt184.2 = 0 then (if bt186.2 = 6 then (if bt188.1.toList = ([] : List UInt8) then (if bt188.2 = 0 then ((zeros_Form.f k bt182.1).bind fun t190 => (if t190 = true then ((zeros_Form.f k (⟨#[0, 0, 0, 0]⟩ : ByteArray)).bind fun t191 => (if t191 = true then (none) else (if 20 ≤ 281474976710656 then ((zeros_Gain.f k (strOfNums (List.replicate 20 0))).bind fun t195 => (some (t195 == 16))) else (none)))) else (none))) else (none)) else (none)) else (none)) else (none)) else (none)) else (none)) else (none)))))
theorem caulklaw35_lives.mono : ∀ k, LeO (caulklaw35_lives.f k ) (caulklaw35_lives.f (k + 1) ) := by
  intro  k
  unfold caulklaw35_lives.f
  repeat' first
      | (with_reducible exact zeros_Form.mono _ _)
      | (with_reducible exact zeros_Gain.mono _ _)
      | (with_reducible exact zeros_Pack.mono _ _)
      | (with_reducible exact zeros_Unpack.mono _ _)
      | (with_reducible exact LeO.refl _)
      | (with_reducible exact LeO.none _)
      | (with_reducible refine LeO.ite ?_ ?_)
      | (with_reducible refine LeO.bind ?_ (fun _ => ?_))
      | exact zeros_Form.mono _ _
      | exact zeros_Gain.mono _ _
      | exact zeros_Pack.mono _ _
      | exact zeros_Unpack.mono _ _
      | exact LeO.none _
      | refine LeO.ite ?_ ?_
      | refine LeO.bind ?_ (fun _ => ?_)
set_option maxHeartbeats 8000000 in
set_option maxRecDepth 100000 in
theorem caulklaw35_lives.calls (k : Nat)  (r : Bool) (w : World) (hG : GT w) (h : caulklaw35_lives.f k  = some r) :
    Calls Tryd.prog 18 #[] w fun e w' => e = .returned (.bool r) ∧ Below w.heap.size w w' := by
  have HB := Aside0.mk (Below.refl w.heap.size w)
  have HG := Aside0.mk hG
  clear hG
  have H : ((zeros_Pack.f k (⟨#[97, 98, 0, 0, 99, 0, 0, 0, 0, 0, 100]⟩ : ByteArray)).bind fun bt182 => ((zeros_Unpack.f k bt182.1).bind fun bt184 => ((zeros_Unpack.f k (⟨#[0, 0, 2, 0, 97]⟩ : ByteArray)).bind fun bt186 => ((zeros_Pack.f k (⟨#[]⟩ : ByteArray)).bind fun bt188 => (if bt182.1.toList = ([0, 0, 5, 0, 97, 98, 0, 0, 99, 5, 0, 1, 0, 100] : List UInt8) then (if bt182.2 = 0 then (if bt184.1.toList = ([97, 98, 0, 0, 99, 0, 0, 0, 0, 0, 100] : List UInt8) then (if bt184.2 = 0 then (if bt186.2 = 6 then (if bt188.1.toList = ([] : List UInt8) then (if bt188.2 = 0 then ((zeros_Form.f k bt182.1).bind fun t190 => (if t190 = true then ((zeros_Form.f k (⟨#[0, 0, 0, 0]⟩ : ByteArray)).bind fun t191 => (if t191 = true then (none) else (if 20 ≤ 281474976710656 then ((zeros_Gain.f k (strOfNums (List.replicate 20 0))).bind fun t195 => (some (t195 == 16))) else (none)))) else (none))) else (none)) else (none)) else (none)) else (none)) else (none)) else (none)) else (none)))))) = some r := h
  clear h
  replace H := Option.bind_eq_some_iff.mp H
  obtain ⟨⟨t182, t183⟩, A10, H⟩ := H
  replace H : ((zeros_Unpack.f k t182).bind fun bt184 => ((zeros_Unpack.f k (⟨#[0, 0, 2, 0, 97]⟩ : ByteArray)).bind fun bt186 => ((zeros_Pack.f k (⟨#[]⟩ : ByteArray)).bind fun bt188 => (if t182.toList = ([0, 0, 5, 0, 97, 98, 0, 0, 99, 5, 0, 1, 0, 100] : List UInt8) then (if t183 = 0 then (if bt184.1.toList = ([97, 98, 0, 0, 99, 0, 0, 0, 0, 0, 100] : List UInt8) then (if bt184.2 = 0 then (if bt186.2 = 6 then (if bt188.1.toList = ([] : List UInt8) then (if bt188.2 = 0 then ((zeros_Form.f k t182).bind fun t190 => (if t190 = true then ((zeros_Form.f k (⟨#[0, 0, 0, 0]⟩ : ByteArray)).bind fun t191 => (if t191 = true then (none) else (if 20 ≤ 281474976710656 then ((zeros_Gain.f k (strOfNums (List.replicate 20 0))).bind fun t195 => (some (t195 == 16))) else (none)))) else (none))) else (none)) else (none)) else (none)) else (none)) else (none)) else (none)) else (none))))) = some r := H
  have A1 := Aside0.mk A10
  clear A10
  replace H := Option.bind_eq_some_iff.mp H
  obtain ⟨⟨t184, t185⟩, A20, H⟩ := H
  replace H : ((zeros_Unpack.f k (⟨#[0, 0, 2, 0, 97]⟩ : ByteArray)).bind fun bt186 => ((zeros_Pack.f k (⟨#[]⟩ : ByteArray)).bind fun bt188 => (if t182.toList = ([0, 0, 5, 0, 97, 98, 0, 0, 99, 5, 0, 1, 0, 100] : List UInt8) then (if t183 = 0 then (if t184.toList = ([97, 98, 0, 0, 99, 0, 0, 0, 0, 0, 100] : List UInt8) then (if t185 = 0 then (if bt186.2 = 6 then (if bt188.1.toList = ([] : List UInt8) then (if bt188.2 = 0 then ((zeros_Form.f k t182).bind fun t190 => (if t190 = true then ((zeros_Form.f k (⟨#[0, 0, 0, 0]⟩ : ByteArray)).bind fun t191 => (if t191 = true then (none) else (if 20 ≤ 281474976710656 then ((zeros_Gain.f k (strOfNums (List.replicate 20 0))).bind fun t195 => (some (t195 == 16))) else (none)))) else (none))) else (none)) else (none)) else (none)) else (none)) else (none)) else (none)) else (none)))) = some r := H
  have A2 := Aside0.mk A20
  clear A20
  replace H := Option.bind_eq_some_iff.mp H
  obtain ⟨⟨t186, t187⟩, A30, H⟩ := H
  replace H : ((zeros_Pack.f k (⟨#[]⟩ : ByteArray)).bind fun bt188 => (if t182.toList = ([0, 0, 5, 0, 97, 98, 0, 0, 99, 5, 0, 1, 0, 100] : List UInt8) then (if t183 = 0 then (if t184.toList = ([97, 98, 0, 0, 99, 0, 0, 0, 0, 0, 100] : List UInt8) then (if t185 = 0 then (if t187 = 6 then (if bt188.1.toList = ([] : List UInt8) then (if bt188.2 = 0 then ((zeros_Form.f k t182).bind fun t190 => (if t190 = true then ((zeros_Form.f k (⟨#[0, 0, 0, 0]⟩ : ByteArray)).bind fun t191 => (if t191 = true then (none) else (if 20 ≤ 281474976710656 then ((zeros_Gain.f k (strOfNums (List.replicate 20 0))).bind fun t195 => (some (t195 == 16))) else (none)))) else (none))) else (none)) else (none)) else (none)) else (none)) else (none)) else (none)) else (none))) = some r := H
  have A3 := Aside0.mk A30
  clear A30
  replace H := Option.bind_eq_some_iff.mp H
  obtain ⟨⟨t188, t189⟩, A40, H⟩ := H
  replace H : (if t182.toList = ([0, 0, 5, 0, 97, 98, 0, 0, 99, 5, 0, 1, 0, 100] : List UInt8) then (if t183 = 0 then (if t184.toList = ([97, 98, 0, 0, 99, 0, 0, 0, 0, 0, 100] : List UInt8) then (if t185 = 0 then (if t187 = 6 then (if t188.toList = ([] : List UInt8) then (if t189 = 0 then ((zeros_Form.f k t182).bind fun t190 => (if t190 = true then ((zeros_Form.f k (⟨#[0, 0, 0, 0]⟩ : ByteArray)).bind fun t191 => (if t191 = true then (none) else (if 20 ≤ 281474976710656 then ((zeros_Gain.f k (strOfNums (List.replicate 20 0))).bind fun t195 => (some (t195 == 16))) else (none)))) else (none))) else (none)) else (none)) else (none)) else (none)) else (none)) else (none)) else (none)) = some r := H
  have A4 := Aside0.mk A40
  clear A40
  by_cases c5 : t182.toList = ([0, 0, 5, 0, 97, 98, 0, 0, 99, 5, 0, 1, 0, 100] : List UInt8)
  · rw [if_pos c5] at H
    have c5b0 : (t182.toList == ([0, 0, 5, 0, 97, 98, 0, 0, 99, 5, 0, 1, 0, 100] : List UInt8)) = true := beq_iff_eq.mpr c5
    have c5b1 : (t182.toList != ([0, 0, 5, 0, 97, 98, 0, 0, 99, 5, 0, 1, 0, 100] : List UInt8)) = false := bne_eq_false_iff_eq.mpr c5
    clear c5
    by_cases c6 : t183 = 0
    · rw [if_pos c6] at H
      have c6b0 : (t183 == 0) = true := beq_iff_eq.mpr c6
      have c6b1 : (t183 != 0) = false := bne_eq_false_iff_eq.mpr c6
      clear c6
      by_cases c7 : t184.toList = ([97, 98, 0, 0, 99, 0, 0, 0, 0, 0, 100] : List UInt8)
      · rw [if_pos c7] at H
        have c7b0 : (t184.toList == ([97, 98, 0, 0, 99, 0, 0, 0, 0, 0, 100] : List UInt8)) = true := beq_iff_eq.mpr c7
        have c7b1 : (t184.toList != ([97, 98, 0, 0, 99, 0, 0, 0, 0, 0, 100] : List UInt8)) = false := bne_eq_false_iff_eq.mpr c7
        clear c7
        by_cases c8 : t185 = 0
        · rw [if_pos c8] at H
          have c8b0 : (t185 == 0) = true := beq_iff_eq.mpr c8
          have c8b1 : (t185 != 0) = false := bne_eq_false_iff_eq.mpr c8
          clear c8
          by_cases c9 : t187 = 6
          · rw [if_pos c9] at H
            have c9b0 : (t187 == 6) = true := beq_iff_eq.mpr c9
            have c9b1 : (t187 != 6) = false := bne_eq_false_iff_eq.mpr c9
            clear c9
            by_cases c10 : t188.toList = ([] : List UInt8)
            · rw [if_pos c10] at H
              have c10b0 : (t188.toList == ([] : List UInt8)) = true := beq_iff_eq.mpr c10
              have c10b1 : (t188.toList != ([] : List UInt8)) = false := bne_eq_false_iff_eq.mpr c10
              clear c10
              by_cases c11 : t189 = 0
              · rw [if_pos c11] at H
                have c11b0 : (t189 == 0) = true := beq_iff_eq.mpr c11
                have c11b1 : (t189 != 0) = false := bne_eq_false_iff_eq.mpr c11
                clear c11
                replace H := Option.bind_eq_some_iff.mp H
                obtain ⟨t190, A120, H⟩ := H
                replace H : (if t190 = true then ((zeros_Form.f k (⟨#[0, 0, 0, 0]⟩ : ByteArray)).bind fun t191 => (if t191 = true then (none) else (if 20 ≤ 281474976710656 then ((zeros_Gain.f k (strOfNums (List.replicate 20 0))).bind fun t195 => (some (t195 == 16))) else (none)))) else (none)) = some r := H
                have A12 := Aside0.mk A120
                clear A120
                by_cases c13 : t190 = true
                · subst c13
                  have H1 : ((zeros_Form.f k (⟨#[0, 0, 0, 0]⟩ : ByteArray)).bind fun t191 => (if t191 = true then (none) else (if 20 ≤ 281474976710656 then ((zeros_Gain.f k (strOfNums (List.replicate 20 0))).bind fun t195 => (some (t195 == 16))) else (none)))) = some r := by rw [if_pos rfl] at H; exact H
                  clear H
                  have H := H1
                  clear H1
                  replace H := Option.bind_eq_some_iff.mp H
                  obtain ⟨t191, A140, H⟩ := H
                  replace H : (if t191 = true then (none) else (if 20 ≤ 281474976710656 then ((zeros_Gain.f k (strOfNums (List.replicate 20 0))).bind fun t195 => (some (t195 == 16))) else (none))) = some r := H
                  have A14 := Aside0.mk A140
                  clear A140
                  by_cases c15 : t191 = true
                  · subst c15
                    have H1 : (none) = some r := by rw [if_pos rfl] at H; exact H
                    clear H
                    have H := H1
                    clear H1
                    exact absurd H (by simp)
                  · replace c15 := Bool.eq_false_iff.mpr c15
                    subst c15
                    have H1 : (if 20 ≤ 281474976710656 then ((zeros_Gain.f k (strOfNums (List.replicate 20 0))).bind fun t195 => (some (t195 == 16))) else (none)) = some r := by rw [if_neg (show ¬ (false = true) by decide)] at H; exact H
                    clear H
                    have H := H1
                    clear H1
                    by_cases c16 : 20 ≤ 281474976710656
                    · rw [if_pos c16] at H
                      have c16b0 := eq_true c16
                      have c16b1 : decide (20 ≤ 281474976710656) = true := decide_eq_true c16
                      clear c16
                      obtain ⟨y192, hy192⟩ : ∃ y_ : List Int, y_ = (List.replicate 20 0) := ⟨_, rfl⟩
                      replace H : ((zeros_Gain.f k (strOfNums y192)).bind fun t195 => (some (t195 == 16))) = some r := by first | (rw [hy192]; with_reducible exact H) | (have H2_ := (Option.bind_some _ _).symm.trans H; rw [hy192]; with_reducible exact H2_) | (have H2_ := (Option.bind_some _ _).symm.trans H; with_reducible exact H2_) | with_reducible exact H | (rw [hy192]; exact H) | exact H
                      have Ny192 := Aside0.mk hy192
                      clear hy192
                      replace H := Option.bind_eq_some_iff.mp H
                      obtain ⟨t195, A170, H⟩ := H
                      replace H : (some (t195 == 16)) = some r := H
                      have A17 := Aside0.mk A170
                      clear A170
                      obtain rfl := Option.some.inj H
                      go_enter Tryd.func18, Tryd.ntmps18
                      go_wp2_with (first | ((with_reducible refine gate_callee (f := 19) rfl ?_); refine goesL_ (some 10) rfl rfl Tryd.func19 (by kernel_rfl) rfl #[.string (⟨#[97, 98, 0, 0, 99, 0, 0, 0, 0, 0, 100]⟩ : ByteArray)] rfl (by (try simp only [List.map_toArray, List.map_cons, List.map_nil]); first | done | rfl | (simp only [List.length_drop, List.length_take]; rfl)) ?_; (with_reducible refine (zeros_Pack.calls k (⟨#[97, 98, 0, 0, 99, 0, 0, 0, 0, 0, 100]⟩ : ByteArray) t182 t183 _ ?side1 A1.out).mono ?_); (case side1 => first | exact HG.out | exact GT.below HG.out (by repeat (first | (with_reducible first | exact HB.out | apply below_alloc | apply pw_below_drewN | apply below_drew1) | exact HB.out))); rintro e w18 ⟨rfl, hb⟩; refine ⟨_, rfl, ?_⟩; have n0_ := Aside0.mk (below_step (by repeat (first | (with_reducible first | exact HB.out | apply below_alloc | apply pw_below_drewN | apply below_drew1) | exact HB.out)) hb); clear HB; have HB := n0_; clear n0_; (try clear hb); (try clear hb2); (try clear hk); (try clear hi)) | ((with_reducible refine gate_callee (f := 20) rfl ?_); refine goesL_ (some 15) rfl rfl Tryd.func20 (by kernel_rfl) rfl #[.string t182] rfl (by (try simp only [List.map_toArray, List.map_cons, List.map_nil]); first | done | rfl | (simp only [List.length_drop, List.length_take]; rfl)) ?_; (with_reducible refine (zeros_Unpack.calls k t182 t184 t185 _ A2.out).mono ?_); rintro e w19 ⟨rfl, hb⟩; refine ⟨_, rfl, ?_⟩; have n0_ := Aside0.mk (below_step (by repeat (first | (with_reducible first | exact HB.out | apply below_alloc | apply pw_below_drewN | apply below_drew1) | exact HB.out)) hb); clear HB; have HB := n0_; clear n0_; (try clear hb); (try clear hb2); (try clear hk); (try clear hi)) | ((with_reducible refine gate_callee (f := 20) rfl ?_); refine goesL_ (some 19) rfl rfl Tryd.func20 (by kernel_rfl) rfl #[.string (⟨#[0, 0, 2, 0, 97]⟩ : ByteArray)] rfl (by (try simp only [List.map_toArray, List.map_cons, List.map_nil]); first | done | rfl | (simp only [List.length_drop, List.length_take]; rfl)) ?_; (with_reducible refine (zeros_Unpack.calls k (⟨#[0, 0, 2, 0, 97]⟩ : ByteArray) t186 t187 _ A3.out).mono ?_); rintro e w20 ⟨rfl, hb⟩; refine ⟨_, rfl, ?_⟩; have n0_ := Aside0.mk (below_step (by repeat (first | (with_reducible first | exact HB.out | apply below_alloc | apply pw_below_drewN | apply below_drew1) | exact HB.out)) hb); clear HB; have HB := n0_; clear n0_; (try clear hb); (try clear hb2); (try clear hk); (try clear hi)) | ((with_reducible refine gate_callee (f := 19) rfl ?_); refine goesL_ (some 23) rfl rfl Tryd.func19 (by kernel_rfl) rfl #[.string (⟨#[]⟩ : ByteArray)] rfl (by (try simp only [List.map_toArray, List.map_cons, List.map_nil]); first | done | rfl | (simp only [List.length_drop, List.length_take]; rfl)) ?_; (with_reducible refine (zeros_Pack.calls k (⟨#[]⟩ : ByteArray) t188 t189 _ ?side1 A4.out).mono ?_); (case side1 => first | exact HG.out | exact GT.below HG.out (by repeat (first | (with_reducible first | exact HB.out | apply below_alloc | apply pw_below_drewN | apply below_drew1) | exact HB.out))); rintro e w21 ⟨rfl, hb⟩; refine ⟨_, rfl, ?_⟩; have n0_ := Aside0.mk (below_step (by repeat (first | (with_reducible first | exact HB.out | apply below_alloc | apply pw_below_drewN | apply below_drew1) | exact HB.out)) hb); clear HB; have HB := n0_; clear n0_; (try clear hb); (try clear hb2); (try clear hk); (try clear hi)) | (go_at_call 21; (with_reducible refine (zeros_Form.calls k t182 true _ ?side1 A12.out).mono ?_); (case side1 => first | exact HG.out | exact GT.below HG.out (by repeat (first | (with_reducible first | exact HB.out | apply below_alloc | apply pw_below_drewN | apply below_drew1) | exact HB.out))); rintro e w22 ⟨rfl, hb⟩; have n0_ := Aside0.mk (below_step (by repeat (first | (with_reducible first | exact HB.out | apply below_alloc | apply pw_below_drewN | apply below_drew1) | exact HB.out)) hb); clear HB; have HB := n0_; clear n0_; (try clear hb); (try clear hb2); (try clear hk); (try clear hi)) | (go_at_call 21; (with_reducible refine (zeros_Form.calls k (⟨#[0, 0, 0, 0]⟩ : ByteArray) false _ ?side1 A14.out).mono ?_); (case side1 => first | exact HG.out | exact GT.below HG.out (by repeat (first | (with_reducible first | exact HB.out | apply below_alloc | apply pw_below_drewN | apply below_drew1) | exact HB.out))); rintro e w23 ⟨rfl, hb⟩; have n0_ := Aside0.mk (below_step (by repeat (first | (with_reducible first | exact HB.out | apply below_alloc | apply pw_below_drewN | apply below_drew1) | exact HB.out)) hb); clear HB; have HB := n0_; clear n0_; (try clear hb); (try clear hb2); (try clear hk); (try clear hi)) | ((with_reducible refine gate_dst (N := 61) rfl ?_); (try (refine gate_guard (by rfl) ?_; dsimp only)); refine Kd.R_make (Kd.int .u8) _ 5 rfl (N := 61) rfl 40 _ _ rfl 20 rfl rfl Tryd.underlying40 (.int .u8 0) 1 info5 rfl (by decide) (by omega) 0 (ok := fun _ => True) (okp := fun _ => True) rfl (fun _ hk => hk) trivial (by omega) (by omega) (Below.refl _ _) (Nat.le_refl _) ?_; intro v193 w24 ho25 hb hg_ hnew_; clear hg_ hnew_; (first | rw [← Ny192.out] at ho25 | (simp only [Int.reduceToNat] at ho25; rw [← Ny192.out] at ho25)); have n0_ := Aside0.mk (Kd.R_lower ho25 (below_size (by repeat (first | (with_reducible first | exact HB.out | apply below_alloc | apply pw_below_drewN | apply below_drew1) | exact HB.out)))); have n1_ := Aside0.mk (below_step (by repeat (first | (with_reducible first | exact HB.out | apply below_alloc | apply pw_below_drewN | apply below_drew1) | exact HB.out)) hb); clear HB; have HO194 := n0_; have HB := n1_; clear n0_ n1_; clear hb ho25; have hcv26 := own_string (P := Tryd.prog) Tryd.underlying40 Tryd.underlying5 Tryd.underlying9 (Kd.own_of_R HO194.out)) | (go_at_call 22; (with_reducible refine (zeros_Gain.calls k (strOfNums y192) t195 _ ?side1 A17.out).mono ?_); (case side1 => first | exact HG.out | exact GT.below HG.out (by repeat (first | (with_reducible first | exact HB.out | apply below_alloc | apply pw_below_drewN | apply below_drew1) | exact HB.out))); rintro e w27 ⟨rfl, hb⟩; have n0_ := Aside0.mk (Kd.R_below (by (with_reducible repeat (first | apply Kd.R_alloc | apply Kd.R_drewN | apply Kd.R_drew)); exact HO194.out) hb); have n1_ := Aside0.mk (below_step (by repeat (first | (with_reducible first | exact HB.out | apply below_alloc | apply pw_below_drewN | apply below_drew1) | exact HB.out)) hb); clear HO194; clear HB; have HO194 := n0_; have HB := n1_; clear n0_ n1_; (try clear hb); (try clear hb2); (try clear hk); (try clear hi)))
                      go_ret
                      exact ⟨by first | rfl | (simp [errW_none, errW_some] <;> rfl) | (simp [*, errW_none, errW_some] <;> rfl), by repeat (first | (with_reducible first | exact HB.out | apply below_alloc | apply pw_below_drewN | apply below_drew1) | exact HB.out)⟩
                    · rw [if_neg c16] at H
                      exact absurd H (by simp)
                · replace c13 := Bool.eq_false_iff.mpr c13
                  subst c13
                  have H1 : (none) = some r := by rw [if_neg (show ¬ (false = true) by decide)] at H; exact H
                  clear H
                  have H := H1
                  clear H1
                  exact absurd H (by simp)
              · rw [if_neg c11] at H
                exact absurd H (by simp)
            · rw [if_neg c10] at H
              exact absurd H (by simp)
          · rw [if_neg c9] at H
            exact absurd H (by simp)
        · rw [if_neg c8] at H
          exact absurd H (by simp)
      · rw [if_neg c7] at H
        exact absurd H (by simp)
    · rw [if_neg c6] at H
      exact absurd H (by simp)
  · rw [if_neg c5] at H
    exact absurd H (by simp)

/-! ### caulklaw35_ZerosBack: function 4 -/
def caulklaw35_ZerosBack.f (k : Nat) (a0 : ByteArray) : Option (Bool) := (caulklaw35_lives.f k).bind fun t196 => (if t196 = true then (if (a0.size : Int) > 16384 then (some true) else ((zeros_Pack.f k a0).bind fun bt197 => ((zeros_Unpack.f k bt197.1).bind fun bt199 => (if bt197.2 = 0 then (if bt199.2 = 0 then (if bt199.1.toList = a0.toList then ((zeros_Form.f k bt197.1).bind fun t201 => (if t201 = true then (if (bt197.1.size : Int) ≤ (wrap64 ((a0.size : Int) + 4)) then ((zeros_Gain.f k a0).bind fun t202 => (some (t202 == (wrap64 ((a0.size : Int) - (bt197.1.size : Int)))))) else (none)) else (none))) else (none)) else (none)) else (none))))) else (none))
theorem caulklaw35_ZerosBack.mono : ∀ a0 k, LeO (caulklaw35_ZerosBack.f k a0) (caulklaw35_ZerosBack.f (k + 1) a0) := by
  intro a0 k
  unfold caulklaw35_ZerosBack.f
  repeat' first
      | (with_reducible exact caulklaw35_lives.mono _)
      | (with_reducible exact zeros_Form.mono _ _)
      | (with_reducible exact zeros_Gain.mono _ _)
      | (with_reducible exact zeros_Pack.mono _ _)
      | (with_reducible exact zeros_Unpack.mono _ _)
      | (with_reducible exact LeO.refl _)
      | (with_reducible exact LeO.none _)
      | (with_reducible refine LeO.ite ?_ ?_)
      | (with_reducible refine LeO.bind ?_ (fun _ => ?_))
      | exact caulklaw35_lives.mono _
      | exact zeros_Form.mono _ _
      | exact zeros_Gain.mono _ _
      | exact zeros_Pack.mono _ _
      | exact zeros_Unpack.mono _ _
      | exact LeO.none _
      | refine LeO.ite ?_ ?_
      | refine LeO.bind ?_ (fun _ => ?_)
set_option maxHeartbeats 8000000 in
set_option maxRecDepth 100000 in
theorem caulklaw35_ZerosBack.calls (k : Nat) (a0 : ByteArray) (r : Bool) (w : World) (hG : GT w) (h : caulklaw35_ZerosBack.f k a0 = some r) :
    Calls Tryd.prog 4 #[.string a0] w fun e w' => e = .returned (.bool r) ∧ Below w.heap.size w w' := by
  have HB := Aside0.mk (Below.refl w.heap.size w)
  have HG := Aside0.mk hG
  clear hG
  have H : ((caulklaw35_lives.f k).bind fun t196 => (if t196 = true then (if (a0.size : Int) > 16384 then (some true) else ((zeros_Pack.f k a0).bind fun bt197 => ((zeros_Unpack.f k bt197.1).bind fun bt199 => (if bt197.2 = 0 then (if bt199.2 = 0 then (if bt199.1.toList = a0.toList then ((zeros_Form.f k bt197.1).bind fun t201 => (if t201 = true then (if (bt197.1.size : Int) ≤ (wrap64 ((a0.size : Int) + 4)) then ((zeros_Gain.f k a0).bind fun t202 => (some (t202 == (wrap64 ((a0.size : Int) - (bt197.1.size : Int)))))) else (none)) else (none))) else (none)) else (none)) else (none))))) else (none))) = some r := h
  clear h
  replace H := Option.bind_eq_some_iff.mp H
  obtain ⟨t196, A20, H⟩ := H
  replace H : (if t196 = true then (if (a0.size : Int) > 16384 then (some true) else ((zeros_Pack.f k a0).bind fun bt197 => ((zeros_Unpack.f k bt197.1).bind fun bt199 => (if bt197.2 = 0 then (if bt199.2 = 0 then (if bt199.1.toList = a0.toList then ((zeros_Form.f k bt197.1).bind fun t201 => (if t201 = true then (if (bt197.1.size : Int) ≤ (wrap64 ((a0.size : Int) + 4)) then ((zeros_Gain.f k a0).bind fun t202 => (some (t202 == (wrap64 ((a0.size : Int) - (bt197.1.size : Int)))))) else (none)) else (none))) else (none)) else (none)) else (none))))) else (none)) = some r := H
  have A2 := Aside0.mk A20
  clear A20
  by_cases c3 : t196 = true
  · subst c3
    have H1 : (if (a0.size : Int) > 16384 then (some true) else ((zeros_Pack.f k a0).bind fun bt197 => ((zeros_Unpack.f k bt197.1).bind fun bt199 => (if bt197.2 = 0 then (if bt199.2 = 0 then (if bt199.1.toList = a0.toList then ((zeros_Form.f k bt197.1).bind fun t201 => (if t201 = true then (if (bt197.1.size : Int) ≤ (wrap64 ((a0.size : Int) + 4)) then ((zeros_Gain.f k a0).bind fun t202 => (some (t202 == (wrap64 ((a0.size : Int) - (bt197.1.size : Int)))))) else (none)) else (none))) else (none)) else (none)) else (none))))) = some r := by rw [if_pos rfl] at H; exact H
    clear H
    have H := H1
    clear H1
    by_cases c4 : (a0.size : Int) > 16384
    · rw [if_pos c4] at H
      have c4b0 : decide (16384 < (a0.size : Int)) = true := decide_eq_true c4
      have c4b1 : decide (16384 < a0.size) = true := decide_eq_true (by omega)
      clear c4
      obtain rfl := Option.some.inj H
      go_enter Tryd.func4, Tryd.ntmps4
      go_wp2_with (first | ((with_reducible refine gate_callee (f := 18) rfl ?_); refine goesL_ (some 7) rfl rfl Tryd.func18 (by kernel_rfl) rfl #[] rfl (by (try simp only [List.map_toArray, List.map_cons, List.map_nil]); first | done | rfl | (simp only [List.length_drop, List.length_take]; rfl)) ?_; (with_reducible refine (caulklaw35_lives.calls k  true _ ?side1 A2.out).mono ?_); (case side1 => first | exact HG.out | exact GT.below HG.out (by repeat (first | (with_reducible first | exact HB.out | apply below_alloc | apply pw_below_drewN | apply below_drew1) | exact HB.out))); rintro e w5 ⟨rfl, hb⟩; refine ⟨_, rfl, ?_⟩; have n0_ := Aside0.mk (below_step (by repeat (first | (with_reducible first | exact HB.out | apply below_alloc | apply pw_below_drewN | apply below_drew1) | exact HB.out)) hb); clear HB; have HB := n0_; clear n0_; (try clear hb); (try clear hb2); (try clear hk); (try clear hi)))
      go_ret
      exact ⟨by first | rfl | (simp [errW_none, errW_some] <;> rfl) | (simp [*, errW_none, errW_some] <;> rfl), by repeat (first | (with_reducible first | exact HB.out | apply below_alloc | apply pw_below_drewN | apply below_drew1) | exact HB.out)⟩
    · rw [if_neg c4] at H
      have c4b0 : decide (16384 < (a0.size : Int)) = false := decide_eq_false c4
      have c4b1 : decide (16384 < a0.size) = false := decide_eq_false (by omega)
      clear c4
      replace H := Option.bind_eq_some_iff.mp H
      obtain ⟨⟨t197, t198⟩, A60, H⟩ := H
      replace H : ((zeros_Unpack.f k t197).bind fun bt199 => (if t198 = 0 then (if bt199.2 = 0 then (if bt199.1.toList = a0.toList then ((zeros_Form.f k t197).bind fun t201 => (if t201 = true then (if (t197.size : Int) ≤ (wrap64 ((a0.size : Int) + 4)) then ((zeros_Gain.f k a0).bind fun t202 => (some (t202 == (wrap64 ((a0.size : Int) - (t197.size : Int)))))) else (none)) else (none))) else (none)) else (none)) else (none))) = some r := H
      have A6 := Aside0.mk A60
      clear A60
      replace H := Option.bind_eq_some_iff.mp H
      obtain ⟨⟨t199, t200⟩, A70, H⟩ := H
      replace H : (if t198 = 0 then (if t200 = 0 then (if t199.toList = a0.toList then ((zeros_Form.f k t197).bind fun t201 => (if t201 = true then (if (t197.size : Int) ≤ (wrap64 ((a0.size : Int) + 4)) then ((zeros_Gain.f k a0).bind fun t202 => (some (t202 == (wrap64 ((a0.size : Int) - (t197.size : Int)))))) else (none)) else (none))) else (none)) else (none)) else (none)) = some r := H
      have A7 := Aside0.mk A70
      clear A70
      by_cases c8 : t198 = 0
      · rw [if_pos c8] at H
        have c8b0 : (t198 == 0) = true := beq_iff_eq.mpr c8
        have c8b1 : (t198 != 0) = false := bne_eq_false_iff_eq.mpr c8
        clear c8
        by_cases c9 : t200 = 0
        · rw [if_pos c9] at H
          have c9b0 : (t200 == 0) = true := beq_iff_eq.mpr c9
          have c9b1 : (t200 != 0) = false := bne_eq_false_iff_eq.mpr c9
          clear c9
          by_cases c10 : t199.toList = a0.toList
          · rw [if_pos c10] at H
            have c10b0 : (t199.toList == a0.toList) = true := beq_iff_eq.mpr c10
            have c10b1 : (t199.toList != a0.toList) = false := bne_eq_false_iff_eq.mpr c10
            clear c10
            replace H := Option.bind_eq_some_iff.mp H
            obtain ⟨t201, A110, H⟩ := H
            replace H : (if t201 = true then (if (t197.size : Int) ≤ (wrap64 ((a0.size : Int) + 4)) then ((zeros_Gain.f k a0).bind fun t202 => (some (t202 == (wrap64 ((a0.size : Int) - (t197.size : Int)))))) else (none)) else (none)) = some r := H
            have A11 := Aside0.mk A110
            clear A110
            by_cases c12 : t201 = true
            · subst c12
              have H1 : (if (t197.size : Int) ≤ (wrap64 ((a0.size : Int) + 4)) then ((zeros_Gain.f k a0).bind fun t202 => (some (t202 == (wrap64 ((a0.size : Int) - (t197.size : Int)))))) else (none)) = some r := by rw [if_pos rfl] at H; exact H
              clear H
              have H := H1
              clear H1
              by_cases c13 : (t197.size : Int) ≤ (wrap64 ((a0.size : Int) + 4))
              · rw [if_pos c13] at H
                have c13b0 : decide ((t197.size : Int) ≤ (wrap64 ((a0.size : Int) + 4))) = true := decide_eq_true c13
                clear c13
                replace H := Option.bind_eq_some_iff.mp H
                obtain ⟨t202, A140, H⟩ := H
                replace H : (some (t202 == (wrap64 ((a0.size : Int) - (t197.size : Int))))) = some r := H
                have A14 := Aside0.mk A140
                clear A140
                obtain rfl := Option.some.inj H
                go_enter Tryd.func4, Tryd.ntmps4
                go_wp2_with (first | ((with_reducible refine gate_callee (f := 18) rfl ?_); refine goesL_ (some 7) rfl rfl Tryd.func18 (by kernel_rfl) rfl #[] rfl (by (try simp only [List.map_toArray, List.map_cons, List.map_nil]); first | done | rfl | (simp only [List.length_drop, List.length_take]; rfl)) ?_; (with_reducible refine (caulklaw35_lives.calls k  true _ ?side1 A2.out).mono ?_); (case side1 => first | exact HG.out | exact GT.below HG.out (by repeat (first | (with_reducible first | exact HB.out | apply below_alloc | apply pw_below_drewN | apply below_drew1) | exact HB.out))); rintro e w15 ⟨rfl, hb⟩; refine ⟨_, rfl, ?_⟩; have n0_ := Aside0.mk (below_step (by repeat (first | (with_reducible first | exact HB.out | apply below_alloc | apply pw_below_drewN | apply below_drew1) | exact HB.out)) hb); clear HB; have HB := n0_; clear n0_; (try clear hb); (try clear hb2); (try clear hk); (try clear hi)) | ((with_reducible refine gate_callee (f := 19) rfl ?_); refine goesL_ (some 14) rfl rfl Tryd.func19 (by kernel_rfl) rfl #[.string a0] rfl (by (try simp only [List.map_toArray, List.map_cons, List.map_nil]); first | done | rfl | (simp only [List.length_drop, List.length_take]; rfl)) ?_; (with_reducible refine (zeros_Pack.calls k a0 t197 t198 _ ?side1 A6.out).mono ?_); (case side1 => first | exact HG.out | exact GT.below HG.out (by repeat (first | (with_reducible first | exact HB.out | apply below_alloc | apply pw_below_drewN | apply below_drew1) | exact HB.out))); rintro e w16 ⟨rfl, hb⟩; refine ⟨_, rfl, ?_⟩; have n0_ := Aside0.mk (below_step (by repeat (first | (with_reducible first | exact HB.out | apply below_alloc | apply pw_below_drewN | apply below_drew1) | exact HB.out)) hb); clear HB; have HB := n0_; clear n0_; (try clear hb); (try clear hb2); (try clear hk); (try clear hi)) | ((with_reducible refine gate_callee (f := 20) rfl ?_); refine goesL_ (some 19) rfl rfl Tryd.func20 (by kernel_rfl) rfl #[.string t197] rfl (by (try simp only [List.map_toArray, List.map_cons, List.map_nil]); first | done | rfl | (simp only [List.length_drop, List.length_take]; rfl)) ?_; (with_reducible refine (zeros_Unpack.calls k t197 t199 t200 _ A7.out).mono ?_); rintro e w17 ⟨rfl, hb⟩; refine ⟨_, rfl, ?_⟩; have n0_ := Aside0.mk (below_step (by repeat (first | (with_reducible first | exact HB.out | apply below_alloc | apply pw_below_drewN | apply below_drew1) | exact HB.out)) hb); clear HB; have HB := n0_; clear n0_; (try clear hb); (try clear hb2); (try clear hk); (try clear hi)) | (go_at_call 21; (with_reducible refine (zeros_Form.calls k t197 true _ ?side1 A11.out).mono ?_); (case side1 => first | exact HG.out | exact GT.below HG.out (by repeat (first | (with_reducible first | exact HB.out | apply below_alloc | apply pw_below_drewN | apply below_drew1) | exact HB.out))); rintro e w18 ⟨rfl, hb⟩; have n0_ := Aside0.mk (below_step (by repeat (first | (with_reducible first | exact HB.out | apply below_alloc | apply pw_below_drewN | apply below_drew1) | exact HB.out)) hb); clear HB; have HB := n0_; clear n0_; (try clear hb); (try clear hb2); (try clear hk); (try clear hi)) | (go_at_call 22; (with_reducible refine (zeros_Gain.calls k a0 t202 _ ?side1 A14.out).mono ?_); (case side1 => first | exact HG.out | exact GT.below HG.out (by repeat (first | (with_reducible first | exact HB.out | apply below_alloc | apply pw_below_drewN | apply below_drew1) | exact HB.out))); rintro e w19 ⟨rfl, hb⟩; have n0_ := Aside0.mk (below_step (by repeat (first | (with_reducible first | exact HB.out | apply below_alloc | apply pw_below_drewN | apply below_drew1) | exact HB.out)) hb); clear HB; have HB := n0_; clear n0_; (try clear hb); (try clear hb2); (try clear hk); (try clear hi)))
                go_ret
                exact ⟨by first | rfl | (simp [errW_none, errW_some] <;> rfl) | (simp [*, errW_none, errW_some] <;> rfl), by repeat (first | (with_reducible first | exact HB.out | apply below_alloc | apply pw_below_drewN | apply below_drew1) | exact HB.out)⟩
              · rw [if_neg c13] at H
                exact absurd H (by simp)
            · replace c12 := Bool.eq_false_iff.mpr c12
              subst c12
              have H1 : (none) = some r := by rw [if_neg (show ¬ (false = true) by decide)] at H; exact H
              clear H
              have H := H1
              clear H1
              exact absurd H (by simp)
          · rw [if_neg c10] at H
            exact absurd H (by simp)
        · rw [if_neg c9] at H
          exact absurd H (by simp)
      · rw [if_neg c8] at H
        exact absurd H (by simp)
  · replace c3 := Bool.eq_false_iff.mpr c3
    subst c3
    have H1 : (none) = some r := by rw [if_neg (show ¬ (false = true) by decide)] at H; exact H
    clear H
    have H := H1
    clear H1
    exact absurd H (by simp)

def caulklaw35_ZerosBack.Pure : Prop := ∀ (a0 : ByteArray), a0.size ≤ 140737488351232 → ∃ k, caulklaw35_ZerosBack.f k a0 = some true

-- caulklaw35_ZerosRows (function 5): its contract stands in Derived.Test.YtlobaomleocpjabDoorZRows

end Go.Proofs.YtlobaomleocpjabDoor.G
