-- Written by a program of this session over the print of the translation (its own patch, foreign contracts, cut ways): not trusted: Lean checks it.
import Derived.Test.YtlobaomleocpjaaGx0
import Derived.Test.YtlobaomleocpjaaGx9
import Derived.Test.YtlobaomleocpjaaGx10
import Derived.Test.YtlobaomleocpjaaGx11
import Derived.Test.YtlobaomleocpjaaGxSame4
namespace Go.Proofs.Ytlobaomleocpjaa.G
open Go.RowKit Go.Proofs.YtlobaomleocpjaaW.PrintWords Go.Proofs.YtlobaomleocpjaaW.PrintLast Go.Proofs.YtlobaomleocpjaaW.PrintMore
attribute [local go_sem] max2_int min2_int max_two min_two max_three min_three max_four min_four   -- for this text's walks alone
set_option linter.unusedVariables false
set_option linter.unusedSimpArgs false

/-! ### caulklaw04_RsBack: function 9 -/
def caulklaw04_RsBack.l0 : Nat → Int → Int → List Bool → List ByteArray → List (S48) → Int → List ByteArray → Int → Int → Option (Bool)
  | 0, _, _, _, _, _, _, _, _, _ => none
  | k + 1, x0, x1, x3, x11, x12, x13, x42, x43, x44 => if x44 < x43 then (if 0 ≤ x44 then (if x44 < (x42.length : Int) then (if x44 < (x3.length : Int) then (if rdOf false x3 x44 = true then (if x12.length < 5864062014805 then (caulklaw04_RsBack.l0 k x0 x1 x3 x11 (x12 ++ [(⟨false, (⟨#[]⟩ : ByteArray)⟩ : S48)]) x13 x42 x43 (wrap64 (x44 + 1))) else (none)) else (if x12.length < 5864062014805 then (caulklaw04_RsBack.l0 k x0 x1 x3 x11 (x12 ++ [(⟨true, rdOf ByteArray.empty x42 x44⟩ : S48)]) (wrap64 (x13 + 1)) x42 x43 (wrap64 (x44 + 1))) else (none))) else (if x12.length < 5864062014805 then (caulklaw04_RsBack.l0 k x0 x1 x3 x11 (x12 ++ [(⟨true, rdOf ByteArray.empty x42 x44⟩ : S48)]) (wrap64 (x13 + 1)) x42 x43 (wrap64 (x44 + 1))) else (none))) else (none)) else (none)) else ((rs_Decode.f k x0 x1 x12).bind fun bt633 => (if x13 < x0 then (if bt633.2 = 10 then (some ((bt633.1.length : Int) == 0)) else (none)) else (if bt633.2 = 0 then ((caulkref04_Same.f k bt633.1 x11).bind fun t637 => (if t637 = true then ((rs_Good.f k x0 x1 bt633.1).bind fun t638 => (some t638)) else (none))) else (none))))
def caulklaw04_RsBack.f (k : Nat) (a0 : Int) (a1 : Int) (l2 : List ByteArray) (l3 : List Bool) : Option (Bool) := (caulklaw04_lives.f k).bind fun t607 => (if t607 = true then ((caulklaw04_small.f k a0 a1 l2).bind fun t608 => (if t608 = true then ((rs_Encode.f k a0 a1 l2).bind fun bt609 => (if bt609.2 = 0 then ((some (([] : List ByteArray) : List ByteArray)).bind fun y613 => (if y613.length + l2.length < 8796093022208 then ((some (y613 ++ l2 : List ByteArray)).bind fun y616 => (if y616.length + bt609.1.length < 8796093022208 then ((some (y616 ++ bt609.1 : List ByteArray)).bind fun y619 => (caulklaw04_RsBack.l0 k a0 a1 l3 y619 ([] : List (S48)) 0 y619 (y619.length : Int) 0)) else (none))) else (none))) else (some ((bt609.1.length : Int) == 0)))) else (some true))) else (none))
theorem caulklaw04_RsBack.mono_l : ∀ k, (∀ y0 y1 y2 y3 y4 y5 y6 y7 y8, LeO (caulklaw04_RsBack.l0 k y0 y1 y2 y3 y4 y5 y6 y7 y8) (caulklaw04_RsBack.l0 (k + 1) y0 y1 y2 y3 y4 y5 y6 y7 y8))
  | 0 => fun _ _ _ _ _ _ _ _ _ r h => by simp [caulklaw04_RsBack.l0] at h
  | k + 1 => by
    have ih0 := caulklaw04_RsBack.mono_l k
    · intro y0 y1 y2 y3 y4 y5 y6 y7 y8
      unfold caulklaw04_RsBack.l0
      repeat' first
      | (with_reducible exact ih0 _ _ _ _ _ _ _ _ _)
      | (with_reducible exact caulklaw04_lives.mono _)
      | (with_reducible exact caulklaw04_small.mono _ _ _ _)
      | (with_reducible exact caulkref04_Same.mono _ _ _)
      | (with_reducible exact rs_Decode.mono _ _ _ _)
      | (with_reducible exact rs_Encode.mono _ _ _ _)
      | (with_reducible exact rs_Good.mono _ _ _ _)
      | (with_reducible exact LeO.refl _)
      | (with_reducible exact LeO.none _)
      | (with_reducible refine LeO.ite ?_ ?_)
      | (with_reducible refine LeO.bind ?_ (fun _ => ?_))
      | exact ih0 _ _ _ _ _ _ _ _ _
      | exact caulklaw04_lives.mono _
      | exact caulklaw04_small.mono _ _ _ _
      | exact caulkref04_Same.mono _ _ _
      | exact rs_Decode.mono _ _ _ _
      | exact rs_Encode.mono _ _ _ _
      | exact rs_Good.mono _ _ _ _
      | exact LeO.none _
      | refine LeO.ite ?_ ?_
      | refine LeO.bind ?_ (fun _ => ?_)
theorem caulklaw04_RsBack.mono : ∀ a0 a1 a2 a3 k, LeO (caulklaw04_RsBack.f k a0 a1 a2 a3) (caulklaw04_RsBack.f (k + 1) a0 a1 a2 a3) := by
  intro a0 a1 a2 a3 k
  have ih0 := caulklaw04_RsBack.mono_l k
  unfold caulklaw04_RsBack.f
  repeat' first
      | (with_reducible exact ih0 _ _ _ _ _ _ _ _ _)
      | (with_reducible exact caulklaw04_lives.mono _)
      | (with_reducible exact caulklaw04_small.mono _ _ _ _)
      | (with_reducible exact caulkref04_Same.mono _ _ _)
      | (with_reducible exact rs_Decode.mono _ _ _ _)
      | (with_reducible exact rs_Encode.mono _ _ _ _)
      | (with_reducible exact rs_Good.mono _ _ _ _)
      | (with_reducible exact LeO.refl _)
      | (with_reducible exact LeO.none _)
      | (with_reducible refine LeO.ite ?_ ?_)
      | (with_reducible refine LeO.bind ?_ (fun _ => ?_))
      | exact ih0 _ _ _ _ _ _ _ _ _
      | exact caulklaw04_lives.mono _
      | exact caulklaw04_small.mono _ _ _ _
      | exact caulkref04_Same.mono _ _ _
      | exact rs_Decode.mono _ _ _ _
      | exact rs_Encode.mono _ _ _ _
      | exact rs_Good.mono _ _ _ _
      | exact LeO.none _
      | refine LeO.ite ?_ ?_
      | refine LeO.bind ?_ (fun _ => ?_)
set_option maxHeartbeats 8000000 in
set_option maxRecDepth 100000 in
theorem caulklaw04_RsBack.calls (k : Nat) (a0 : Int) (a1 : Int) (A2 : Option Addr) (c2 : Nat) (l2 : List ByteArray) (A3 : Option Addr) (c3 : Nat) (l3 : List Bool) (r : Bool) (w : World) (hr2 : Kd.C Kd.string w A2 l2.length l2) (hc2 : l2.length ≤ c2) (hr3 : Kd.C Kd.bool w A3 l3.length l3) (hc3 : l3.length ≤ c3) (h : caulklaw04_RsBack.f k a0 a1 l2 l3 = some r) :
    Calls Try.prog 9 #[.int .i64 a0, .int .i64 a1, .slice A2 l2.length c2, .slice A3 l3.length c3] w fun e w' => e = .returned (.bool r) ∧ Below w.heap.size w w' := by
  have hu48 := Try.underlying48
  have HR2 := Aside0.mk hr2
  have HC2 := Aside0.mk hc2
  clear hr2 hc2
  have HR3 := Aside0.mk hr3
  have HC3 := Aside0.mk hc3
  clear hr3 hc3
  have HB := Aside0.mk (Below.refl w.heap.size w)
  have H : ((caulklaw04_lives.f k).bind fun t607 => (if t607 = true then ((caulklaw04_small.f k a0 a1 l2).bind fun t608 => (if t608 = true then ((rs_Encode.f k a0 a1 l2).bind fun bt609 => (if bt609.2 = 0 then ((some (([] : List ByteArray) : List ByteArray)).bind fun y613 => (if y613.length + l2.length < 8796093022208 then ((some (y613 ++ l2 : List ByteArray)).bind fun y616 => (if y616.length + bt609.1.length < 8796093022208 then ((some (y616 ++ bt609.1 : List ByteArray)).bind fun y619 => (caulklaw04_RsBack.l0 k a0 a1 l3 y619 ([] : List (S48)) 0 y619 (y619.length : Int) 0)) else (none))) else (none))) else (some ((bt609.1.length : Int) == 0)))) else (some true))) else (none))) = some r := h
  clear h
  replace H := Option.bind_eq_some_iff.mp H
  obtain ⟨t607, A50, H⟩ := H
  replace H : (if t607 = true then ((caulklaw04_small.f k a0 a1 l2).bind fun t608 => (if t608 = true then ((rs_Encode.f k a0 a1 l2).bind fun bt609 => (if bt609.2 = 0 then ((some (([] : List ByteArray) : List ByteArray)).bind fun y613 => (if y613.length + l2.length < 8796093022208 then ((some (y613 ++ l2 : List ByteArray)).bind fun y616 => (if y616.length + bt609.1.length < 8796093022208 then ((some (y616 ++ bt609.1 : List ByteArray)).bind fun y619 => (caulklaw04_RsBack.l0 k a0 a1 l3 y619 ([] : List (S48)) 0 y619 (y619.length : Int) 0)) else (none))) else (none))) else (some ((bt609.1.length : Int) == 0)))) else (some true))) else (none)) = some r := H
  have A5 := Aside0.mk A50
  clear A50
  by_cases c6 : t607 = true
  · subst c6
    have H1 : ((caulklaw04_small.f k a0 a1 l2).bind fun t608 => (if t608 = true then ((rs_Encode.f k a0 a1 l2).bind fun bt609 => (if bt609.2 = 0 then ((some (([] : List ByteArray) : List ByteArray)).bind fun y613 => (if y613.length + l2.length < 8796093022208 then ((some (y613 ++ l2 : List ByteArray)).bind fun y616 => (if y616.length + bt609.1.length < 8796093022208 then ((some (y616 ++ bt609.1 : List ByteArray)).bind fun y619 => (caulklaw04_RsBack.l0 k a0 a1 l3 y619 ([] : List (S48)) 0 y619 (y619.length : Int) 0)) else (none))) else (none))) else (some ((bt609.1.length : Int) == 0)))) else (some true))) = some r := by rw [if_pos rfl] at H; exact H
    clear H
    have H := H1
    clear H1
    replace H := Option.bind_eq_some_iff.mp H
    obtain ⟨t608, A70, H⟩ := H
    replace H : (if t608 = true then ((rs_Encode.f k a0 a1 l2).bind fun bt609 => (if bt609.2 = 0 then ((some (([] : List ByteArray) : List ByteArray)).bind fun y613 => (if y613.length + l2.length < 8796093022208 then ((some (y613 ++ l2 : List ByteArray)).bind fun y616 => (if y616.length + bt609.1.length < 8796093022208 then ((some (y616 ++ bt609.1 : List ByteArray)).bind fun y619 => (caulklaw04_RsBack.l0 k a0 a1 l3 y619 ([] : List (S48)) 0 y619 (y619.length : Int) 0)) else (none))) else (none))) else (some ((bt609.1.length : Int) == 0)))) else (some true)) = some r := H
    have A7 := Aside0.mk A70
    clear A70
    by_cases c8 : t608 = true
    · subst c8
      have H1 : ((rs_Encode.f k a0 a1 l2).bind fun bt609 => (if bt609.2 = 0 then ((some (([] : List ByteArray) : List ByteArray)).bind fun y613 => (if y613.length + l2.length < 8796093022208 then ((some (y613 ++ l2 : List ByteArray)).bind fun y616 => (if y616.length + bt609.1.length < 8796093022208 then ((some (y616 ++ bt609.1 : List ByteArray)).bind fun y619 => (caulklaw04_RsBack.l0 k a0 a1 l3 y619 ([] : List (S48)) 0 y619 (y619.length : Int) 0)) else (none))) else (none))) else (some ((bt609.1.length : Int) == 0)))) = some r := by rw [if_pos rfl] at H; exact H
      clear H
      have H := H1
      clear H1
      replace H := Option.bind_eq_some_iff.mp H
      obtain ⟨⟨t609, t610⟩, A90, H⟩ := H
      replace H : (if t610 = 0 then ((some (([] : List ByteArray) : List ByteArray)).bind fun y613 => (if y613.length + l2.length < 8796093022208 then ((some (y613 ++ l2 : List ByteArray)).bind fun y616 => (if y616.length + t609.length < 8796093022208 then ((some (y616 ++ t609 : List ByteArray)).bind fun y619 => (caulklaw04_RsBack.l0 k a0 a1 l3 y619 ([] : List (S48)) 0 y619 (y619.length : Int) 0)) else (none))) else (none))) else (some ((t609.length : Int) == 0))) = some r := H
      have A9 := Aside0.mk A90
      clear A90
      by_cases c10 : t610 = 0
      · rw [if_pos c10] at H
        have c10b0 : (t610 == 0) = true := beq_iff_eq.mpr c10
        have c10b1 : (t610 != 0) = false := bne_eq_false_iff_eq.mpr c10
        clear c10
        obtain ⟨y613, hy613⟩ : ∃ y_ : List ByteArray, y_ = (([] : List ByteArray)) := ⟨_, rfl⟩
        replace H : (if y613.length + l2.length < 8796093022208 then ((some (y613 ++ l2 : List ByteArray)).bind fun y616 => (if y616.length + t609.length < 8796093022208 then ((some (y616 ++ t609 : List ByteArray)).bind fun y619 => (caulklaw04_RsBack.l0 k a0 a1 l3 y619 ([] : List (S48)) 0 y619 (y619.length : Int) 0)) else (none))) else (none)) = some r := by first | (rw [hy613]; with_reducible exact H) | (have H2_ := (Option.bind_some _ _).symm.trans H; rw [hy613]; with_reducible exact H2_) | (have H2_ := (Option.bind_some _ _).symm.trans H; with_reducible exact H2_) | with_reducible exact H | (rw [hy613]; exact H) | exact H
        have Ny613 := Aside0.mk hy613
        clear hy613
        by_cases c11 : y613.length + l2.length < 8796093022208
        · rw [if_pos c11] at H
          have LMc11 := Aside0.mk c11
          clear c11
          obtain ⟨y616, hy616⟩ : ∃ y_ : List ByteArray, y_ = (y613 ++ l2) := ⟨_, rfl⟩
          replace H : (if y616.length + t609.length < 8796093022208 then ((some (y616 ++ t609 : List ByteArray)).bind fun y619 => (caulklaw04_RsBack.l0 k a0 a1 l3 y619 ([] : List (S48)) 0 y619 (y619.length : Int) 0)) else (none)) = some r := by first | (rw [hy616]; with_reducible exact H) | (have H2_ := (Option.bind_some _ _).symm.trans H; rw [hy616]; with_reducible exact H2_) | (have H2_ := (Option.bind_some _ _).symm.trans H; with_reducible exact H2_) | with_reducible exact H | (rw [hy616]; exact H) | exact H
          have Ny616 := Aside0.mk hy616
          clear hy616
          by_cases c12 : y616.length + t609.length < 8796093022208
          · rw [if_pos c12] at H
            have LMc12 := Aside0.mk c12
            clear c12
            obtain ⟨y619, hy619⟩ : ∃ y_ : List ByteArray, y_ = (y616 ++ t609) := ⟨_, rfl⟩
            replace H : (caulklaw04_RsBack.l0 k a0 a1 l3 y619 ([] : List (S48)) 0 y619 (y619.length : Int) 0) = some r := by first | (rw [hy619]; with_reducible exact H) | (have H2_ := (Option.bind_some _ _).symm.trans H; rw [hy619]; with_reducible exact H2_) | (have H2_ := (Option.bind_some _ _).symm.trans H; with_reducible exact H2_) | with_reducible exact H | (rw [hy619]; exact H) | exact H
            have Ny619 := Aside0.mk hy619
            clear hy619
            have H' := Aside0.mk H
            clear H
            go_enter Try.func9, Try.ntmps9
            go_wp2_with (first | ((with_reducible refine gate_callee (f := 28) rfl ?_); refine goesL_ (some 18) rfl rfl Try.func28 (by kernel_rfl) rfl #[] rfl (by (try simp only [List.map_toArray, List.map_cons, List.map_nil]); first | done | rfl | (simp only [List.length_drop, List.length_take]; rfl)) ?_; (with_reducible refine (caulklaw04_lives.calls k  true _ A5.out).mono ?_); rintro e w13 ⟨rfl, hb⟩; refine ⟨_, rfl, ?_⟩; have n0_ := Aside0.mk (below_step (by repeat (first | (with_reducible first | exact HB.out | apply below_alloc | apply pw_below_drewN | apply below_drew1) | exact HB.out)) hb); clear HB; have HB := n0_; clear n0_; (try clear hb); (try clear hb2); (try clear hk); (try clear hi)) | ((with_reducible refine gate_callee (f := 27) rfl ?_); refine goesL_ (some 23) rfl rfl Try.func27 (by kernel_rfl) rfl #[.int .i64 a0, .int .i64 a1, .slice A2 l2.length c2] rfl (by (try simp only [List.map_toArray, List.map_cons, List.map_nil]); first | done | rfl | (simp only [List.length_drop, List.length_take]; rfl)) ?_; (with_reducible refine (caulklaw04_small.calls k a0 a1 _ _ l2 true _ ?side1 ?side2 A7.out).mono ?_); (case side1 => repeat (first | exact (Kd.C_below HR2.out HB.out) | (with_reducible refine Kd.C_alloc ?_ _) | (with_reducible refine Kd.C_drewN ?_ _) | (with_reducible refine Kd.C_drew ?_))); (case side2 => exact HC2.out); rintro e w' ⟨rfl, ⟨nd, rfl⟩⟩; refine ⟨_, rfl, ?_⟩) | ((with_reducible refine gate_callee (f := 29) rfl ?_); refine goesL_ (some 29) rfl rfl Try.func29 (by kernel_rfl) rfl #[.int .i64 a0, .int .i64 a1, .slice A2 l2.length c2] rfl (by (try simp only [List.map_toArray, List.map_cons, List.map_nil]); first | done | rfl | (simp only [List.length_drop, List.length_take]; rfl)) ?_; (with_reducible refine (rs_Encode.calls k a0 a1 _ _ l2 t609 t610 _ ?side1 ?side2 A9.out).mono ?_); (case side1 => repeat (first | exact (Kd.C_below HR2.out (by repeat (first | (with_reducible first | exact HB.out | apply below_alloc | apply pw_below_drewN | apply below_drew1) | exact HB.out))) | (with_reducible refine Kd.C_alloc ?_ _) | (with_reducible refine Kd.C_drewN ?_ _) | (with_reducible refine Kd.C_drew ?_))); (case side2 => exact HC2.out); rintro e w14 ⟨v611, rfl, ho0, hb⟩; refine ⟨_, rfl, ?_⟩; have n0_ := Aside0.mk (Kd.R_lower ho0 (below_size (by repeat (first | (with_reducible first | exact HB.out | apply below_alloc | apply pw_below_drewN | apply below_drew1) | exact HB.out)))); have n1_ := Aside0.mk (below_step (by repeat (first | (with_reducible first | exact HB.out | apply below_alloc | apply pw_below_drewN | apply below_drew1) | exact HB.out)) hb); clear HB; have HO612 := n0_; have HB := n1_; clear n0_ n1_; (try clear hb); (try clear hb2); (try clear hk); (try clear hi); (try clear ho0)) | ((with_reducible refine gate_dst (N := 37) rfl ?_); (try (refine gate_guard (by rfl) ?_; dsimp only)); refine Kd.R_lit Kd.string _ 9 ?hg (N := 37) ?hd (xs := ([] : List ByteArray)) (inner := []) (ok := fun _ => True) (okp := fun _ => True) ?hr ?hp (fun _ hk => hk) trivial (Below.refl _ _) (Nat.le_refl _) (by simp) ?_; (case hd => rfl); (case hg => rfl); (case hr => first | (go_simp; done) | (go_simp; rfl)); (case hp => exact (Reps.none _ _)); intro v614 w15 ho16 hb hg_ hnew_; clear hg_ hnew_; (first | rw [← Ny613.out] at ho16 | (simp only [Int.reduceToNat] at ho16; rw [← Ny613.out] at ho16)); have n0_ := Aside0.mk (Kd.R_elder' (by (with_reducible repeat (first | apply Kd.R_alloc | apply Kd.R_drewN | apply Kd.R_drew)); exact HO612.out) (Kd.R_base ho16) hb); have n1_ := Aside0.mk (Kd.R_lower (Kd.R_new' ho16 (Kd.R_lt (by (with_reducible repeat (first | apply Kd.R_alloc | apply Kd.R_drewN | apply Kd.R_drew)); exact HO612.out))) (below_size (by repeat (first | (with_reducible first | exact HB.out | apply below_alloc | apply pw_below_drewN | apply below_drew1) | exact HB.out)))); have n2_ := Aside0.mk (below_step (by repeat (first | (with_reducible first | exact HB.out | apply below_alloc | apply pw_below_drewN | apply below_drew1) | exact HB.out)) hb); clear HO612; clear HB; have HO612 := n0_; have HO615 := n1_; have HB := n2_; clear n0_ n1_ n2_; clear hb ho16) | ((with_reducible refine gate_builtin (b := .append) (xs := #[.tmp 37, .tmp 38]) rfl ?_); (try (refine gate_guard (by rfl) ?_; dsimp only)); at_builtin; refine Kd.R_append_rows Kd.string (w0 := w) w.heap.size rfl (.tmp 37) (.tmp 38) 39 9 (.string ⟨#[]⟩) 16 rfl Try.underlying39 info9 rfl (by decide) (by omega) v614 y613 l2 _ _ _ (fun k_ => some k_ ≠ (v611 : Value).ownBlock) (fun _ => False) rfl rfl ?aO ?aR (fun _ _ h => h) (fun _ h => h.elim) ?aF ?aB ?aS ?aL ?_; (case aR => repeat (first | exact (Kd.C_below HR2.out HB.out) | (with_reducible refine Kd.C_alloc ?_ _) | (with_reducible refine Kd.C_drewN ?_ _) | (with_reducible refine Kd.C_drew ?_))); (case aB => exact (by repeat (first | (with_reducible first | exact HB.out | apply below_alloc | apply pw_below_drewN | apply below_drew1) | exact HB.out))); (case aF => exact (fun k_ hk => Kd.fresh' (Kd.R_lt (by (with_reducible repeat (first | apply Kd.R_alloc | apply Kd.R_drewN | apply Kd.R_drew)); exact HO612.out)) k_ hk)); (case aO => exact (by (with_reducible repeat (first | apply Kd.R_alloc | apply Kd.R_drewN | apply Kd.R_drew)); exact Kd.R_mono HO615.out (fun _ hk => hk.2))); (case aS => exact (below_size (by repeat (first | (with_reducible first | exact HB.out | apply below_alloc | apply pw_below_drewN | apply below_drew1) | exact HB.out)))); (case aL => have := LMc11.out; omega); intro v617 w17 ho hb hg hat; rw [← Ny616.out] at ho; have n0_ := Aside0.mk (Kd.R_after (ok := (fun _ => True)) (by (with_reducible repeat (first | apply Kd.R_alloc | apply Kd.R_drewN | apply Kd.R_drew)); exact HO612.out) hg hat); have n1_ := Aside0.mk (hb); have n2_ := Aside0.mk (ho); clear HO612; clear HB; clear HO615; have HO612 := n0_; have HB := n1_; have HO618 := n2_; clear n0_ n1_ n2_; clear ho hb hg hat; obtain ⟨Ao19, co19, eo19⟩ := Kd.R_slice HO612.out; subst eo19) | ((with_reducible refine gate_builtin (b := .append) (xs := #[.tmp 39, .tmp 40]) rfl ?_); (try (refine gate_guard (by rfl) ?_; dsimp only)); at_builtin; refine Kd.R_append_rows Kd.string (w0 := w) w.heap.size rfl (.tmp 39) (.tmp 40) 39 9 (.string ⟨#[]⟩) 16 rfl Try.underlying39 info9 rfl (by decide) (by omega) v617 y616 t609 _ _ _ (fun k_ => some k_ ≠ (.slice Ao19 t609.length co19 : Value).ownBlock) (fun _ => False) rfl rfl ?aO ?aR (fun _ _ h => h) (fun _ h => h.elim) ?aF ?aB ?aS ?aL ?_; (case aR => repeat (first | exact (Kd.R_reads' HO612.out).2.2 | (with_reducible refine Kd.C_alloc ?_ _) | (with_reducible refine Kd.C_drewN ?_ _) | (with_reducible refine Kd.C_drew ?_))); (case aB => exact (by repeat (first | (with_reducible first | exact HB.out | apply below_alloc | apply pw_below_drewN | apply below_drew1) | exact HB.out))); (case aF => exact (fun k_ hk => Kd.fresh' (Kd.R_lt (by (with_reducible repeat (first | apply Kd.R_alloc | apply Kd.R_drewN | apply Kd.R_drew)); exact HO612.out)) k_ hk)); (case aO => exact (by (with_reducible repeat (first | apply Kd.R_alloc | apply Kd.R_drewN | apply Kd.R_drew)); exact HO618.out)); (case aS => exact (below_size (by repeat (first | (with_reducible first | exact HB.out | apply below_alloc | apply pw_below_drewN | apply below_drew1) | exact HB.out)))); (case aL => have := LMc12.out; omega); intro v620 w18 ho hb hg hat; rw [← Ny619.out] at ho; have n0_ := Aside0.mk (Kd.R_after (ok := (fun _ => True)) (by (with_reducible repeat (first | apply Kd.R_alloc | apply Kd.R_drewN | apply Kd.R_drew)); exact HO612.out) hg hat); have n1_ := Aside0.mk (hb); have n2_ := Aside0.mk (ho); clear HO612; clear HB; clear HO618; have HO612 := n0_; have HB := n1_; have HO621 := n2_; clear n0_ n1_ n2_; clear ho hb hg hat; obtain ⟨Ao20, co20, eo20⟩ := Kd.R_slice HO621.out; subst eo20))
            go_loopg [12, 13, 44] k (fun kq v12 v13 v44 w' => ∃ (x12_1 : List (S48)) (x13_1 : Int) (x44_1 : Int), v13 = .int .i64 x13_1 ∧ v44 = .int .i64 x44_1 ∧ Aside0 (caulklaw04_RsBack.l0 kq a0 a1 l3 y619 x12_1 x13_1 y619 (y619.length : Int) x44_1 = some r) ∧ Aside0 (kq ≤ k) ∧ Aside0 (Kd.R Kd.string 9 w' w.heap.size (fun _ => True) (.slice Ao20 y619.length co20) y619) ∧ Aside0 (Kd.R k48 48 w' w.heap.size (fun _ => True) v12 x12_1) ∧ Aside0 (Kd.R Kd.string 9 w' w.heap.size (fun _ => True) (.slice Ao20 y619.length co20) y619) ∧ Aside0 (Below w.heap.size w w'))
            case atStart => exact ⟨(([] : List (S48))), (0), (0), (by first | rfl | (simp; done) | (simp [*]; done)), (by first | rfl | (simp; done) | (simp [*]; done)), H', ⟨Nat.le_refl _⟩, ⟨by (with_reducible repeat (first | apply Kd.R_alloc | apply Kd.R_drewN | apply Kd.R_drew)); exact Kd.R_mono HO621.out (fun _ hk => trivial)⟩, ⟨by first | exact Kd.R_nil _ _ _ _ _ | exact Kd.N_nil _ _ _ _ _ | exact Kd.V_nil _ _ _ _ _ | exact Kd.Q_nil _ _ _ _ _ | exact Kd.S_nil _ _ _ _ _⟩, ⟨by (with_reducible repeat (first | apply Kd.R_alloc | apply Kd.R_drewN | apply Kd.R_drew)); exact Kd.R_mono HO621.out (fun _ hk => trivial)⟩, ⟨by repeat (first | (with_reducible first | exact HB.out | apply below_alloc | apply pw_below_drewN | apply below_drew1) | exact HB.out)⟩⟩
            case round =>
              clear H'
              try clear c1
              try clear c2
              try clear p2
              try clear c3
              try clear c6
              try clear c8
              try clear c9
              try clear c10
              try clear c10b0
              try clear c10b1
              try clear c11
              try clear c12
              obtain ⟨x12_1, x13_1, x44_1, rfl, rfl, HA, HK1, HO_11, HO_12, HO_42, HB⟩ := hrel
              cases gk with
              | zero => exact absurd HA.out (by simp [caulklaw04_RsBack.l0])
              | succ k1 =>
                have H := HA.out
                clear HA
                simp only [caulklaw04_RsBack.l0] at H
                by_cases c21 : x44_1 < (y619.length : Int)
                · rw [if_pos c21] at H
                  have c21b0 : decide (x44_1 < (y619.length : Int)) = true := decide_eq_true c21
                  clear c21
                  by_cases c22 : 0 ≤ x44_1
                  · rw [if_pos c22] at H
                    have c22b0 : decide (0 ≤ x44_1) = true := decide_eq_true c22
                    clear c22
                    by_cases c23 : x44_1 < (y619.length : Int)
                    · rw [if_pos c23] at H
                      have c23b0 : decide (x44_1 < (y619.length : Int)) = true := decide_eq_true c23
                      clear c23
                      by_cases c24 : x44_1 < (l3.length : Int)
                      · rw [if_pos c24] at H
                        have c24b0 : decide (x44_1 < (l3.length : Int)) = true := decide_eq_true c24
                        clear c24
                        obtain ⟨bq25, hbq25⟩ : ∃ b_ : Bool, b_ = (rdOf false l3 x44_1) := ⟨_, rfl⟩
                        replace H : (if bq25 = true then (if x12_1.length < 5864062014805 then (caulklaw04_RsBack.l0 k1 a0 a1 l3 y619 (x12_1 ++ [(⟨false, (⟨#[]⟩ : ByteArray)⟩ : S48)]) x13_1 y619 (y619.length : Int) (wrap64 (x44_1 + 1))) else (none)) else (if x12_1.length < 5864062014805 then (caulklaw04_RsBack.l0 k1 a0 a1 l3 y619 (x12_1 ++ [(⟨true, rdOf ByteArray.empty y619 x44_1⟩ : S48)]) (wrap64 (x13_1 + 1)) y619 (y619.length : Int) (wrap64 (x44_1 + 1))) else (none))) = some r := by rw [← hbq25] at H; exact H
                        have Nbq25 := Aside0.mk hbq25
                        clear hbq25
                        by_cases c26 : bq25 = true
                        · subst c26
                          have H1 : (if x12_1.length < 5864062014805 then (caulklaw04_RsBack.l0 k1 a0 a1 l3 y619 (x12_1 ++ [(⟨false, (⟨#[]⟩ : ByteArray)⟩ : S48)]) x13_1 y619 (y619.length : Int) (wrap64 (x44_1 + 1))) else (none)) = some r := by rw [if_pos rfl] at H; exact H
                          clear H
                          have H := H1
                          clear H1
                          by_cases c27 : x12_1.length < 5864062014805
                          · rw [if_pos c27] at H
                            have LMc27 := Aside0.mk c27
                            clear c27
                            obtain ⟨y624, hy624⟩ : ∃ y_ : List (S48), y_ = (x12_1 ++ [(⟨false, (⟨#[]⟩ : ByteArray)⟩ : S48)]) := ⟨_, rfl⟩
                            replace H : (caulklaw04_RsBack.l0 k1 a0 a1 l3 y619 y624 x13_1 y619 (y619.length : Int) (wrap64 (x44_1 + 1))) = some r := by first | (rw [hy624]; with_reducible exact H) | (have H2_ := (Option.bind_some _ _).symm.trans H; rw [hy624]; with_reducible exact H2_) | (have H2_ := (Option.bind_some _ _).symm.trans H; with_reducible exact H2_) | with_reducible exact H | (rw [hy624]; exact H) | exact H
                            have Ny624 := Aside0.mk hy624
                            clear hy624
                            have H' := Aside0.mk H
                            clear H
                            have p622 : 0 ≤ (x44_1 : Int) := of_decide_eq_true (by first | (with_reducible assumption) | assumption)
                            have q622 : x44_1 < (y619.length : Int) := of_decide_eq_true (by first | (with_reducible assumption) | assumption)
                            obtain ⟨ad622, e622, hx622_0⟩ := Kd.at_string (Kd.R_reads' HO_42.out).2.2 x44_1 p622 q622
                            cases e622
                            replace p622 := eq_true p622
                            replace q622 := eq_true q622
                            have p623 : 0 ≤ (x44_1 : Int) := of_decide_eq_true (by first | (with_reducible assumption) | assumption)
                            have q623 : x44_1 < (l3.length : Int) := of_decide_eq_true (by first | (with_reducible assumption) | assumption)
                            obtain ⟨ad623, e623, hx623_0⟩ := Kd.at_bool HR3.out x44_1 p623 q623
                            (try rw [← Nbq25.out] at hx623_0)
                            cases e623
                            replace hx623_0 := (HB.out.cell (World.block_lt_of_cell? w _ hx623_0)).trans hx623_0
                            replace p623 := eq_true p623
                            replace q623 := eq_true q623
                            go_wp2_with (first | ((with_reducible refine gate_builtin (b := .append) (xs := #[.tmp 59, .tmp 61]) rfl ?_); (try (refine gate_guard (by rfl) ?_; dsimp only)); at_builtin; refine Kd.R_append k48 (w0 := w) w.heap.size rfl (.tmp 59) (.tmp 61) 46 48 (.agg #[(.bool false), (.string ⟨#[]⟩)]) 24 rfl Try.underlying46 info48 rfl (by decide) (by omega) u12 x12_1 (⟨false, (⟨#[]⟩ : ByteArray)⟩ : S48) [.bool false, .string (⟨#[]⟩ : ByteArray)] (fun _ => True) (fun _ => False) rfl rfl ?aP (fun _ hk => hk.elim) ?aF ?aO ?aB ?aS ?aL ?_; (case aP => exact k48_mkM _ _ _ (⟨false, (⟨#[]⟩ : ByteArray)⟩ : S48)); (case aB => exact (by repeat (first | (with_reducible first | exact HB.out | apply below_alloc | apply pw_below_drewN | apply below_drew1) | exact HB.out))); (case aF => exact (fun _ _ => trivial)); (case aO => exact (by (with_reducible repeat (first | apply Kd.R_alloc | apply Kd.R_drewN | apply Kd.R_drew)); exact HO_12.out)); (case aS => exact (below_size (by repeat (first | (with_reducible first | exact HB.out | apply below_alloc | apply pw_below_drewN | apply below_drew1) | exact HB.out)))); (case aL => have := LMc27.out; omega); intro v625 w28 ho hb hg hat; rw [← Ny624.out] at ho; have n0_ := Aside0.mk (Kd.R_over' (by (with_reducible repeat (first | apply Kd.R_alloc | apply Kd.R_drewN | apply Kd.R_drew)); exact HO_11.out) (Kd.R_typed (by (with_reducible repeat (first | apply Kd.R_alloc | apply Kd.R_drewN | apply Kd.R_drew)); exact HO_12.out)) (by decide) hg); have n1_ := Aside0.mk (Kd.R_over' (by (with_reducible repeat (first | apply Kd.R_alloc | apply Kd.R_drewN | apply Kd.R_drew)); exact HO_42.out) (Kd.R_typed (by (with_reducible repeat (first | apply Kd.R_alloc | apply Kd.R_drewN | apply Kd.R_drew)); exact HO_12.out)) (by decide) hg); have n2_ := Aside0.mk (hb); have n3_ := Aside0.mk (ho); clear HO_11; clear HO_42; clear HB; clear HO_12; have HO_11 := n0_; have HO_42 := n1_; have HB := n2_; have HO626 := n3_; clear n0_ n1_ n2_ n3_; clear ho hb hg hat))
                            go_roundg k1
                            case measure => have := HK1.out; omega
                            case rel => exact ⟨(y624), (x13_1), (wrap64 (x44_1 + 1)), (by first | rfl | (simp; done) | (simp [*]; done)), (by first | rfl | (simp; done) | (simp [*]; done)), H', ⟨by have := HK1.out; omega⟩, ⟨by (with_reducible repeat (first | apply Kd.R_alloc | apply Kd.R_drewN | apply Kd.R_drew)); exact HO_11.out⟩, ⟨by (with_reducible repeat (first | apply Kd.R_alloc | apply Kd.R_drewN | apply Kd.R_drew)); exact HO626.out⟩, ⟨by (with_reducible repeat (first | apply Kd.R_alloc | apply Kd.R_drewN | apply Kd.R_drew)); exact HO_42.out⟩, ⟨by repeat (first | (with_reducible first | exact HB.out | apply below_alloc | apply pw_below_drewN | apply below_drew1) | exact HB.out)⟩⟩
                          · rw [if_neg c27] at H
                            exact absurd H (by simp)
                        · replace c26 := Bool.eq_false_iff.mpr c26
                          subst c26
                          have H1 : (if x12_1.length < 5864062014805 then (caulklaw04_RsBack.l0 k1 a0 a1 l3 y619 (x12_1 ++ [(⟨true, rdOf ByteArray.empty y619 x44_1⟩ : S48)]) (wrap64 (x13_1 + 1)) y619 (y619.length : Int) (wrap64 (x44_1 + 1))) else (none)) = some r := by rw [if_neg (show ¬ (false = true) by decide)] at H; exact H
                          clear H
                          have H := H1
                          clear H1
                          by_cases c29 : x12_1.length < 5864062014805
                          · rw [if_pos c29] at H
                            have LMc29 := Aside0.mk c29
                            clear c29
                            obtain ⟨y627, hy627⟩ : ∃ y_ : List (S48), y_ = (x12_1 ++ [(⟨true, rdOf ByteArray.empty y619 x44_1⟩ : S48)]) := ⟨_, rfl⟩
                            replace H : (caulklaw04_RsBack.l0 k1 a0 a1 l3 y619 y627 (wrap64 (x13_1 + 1)) y619 (y619.length : Int) (wrap64 (x44_1 + 1))) = some r := by first | (rw [hy627]; with_reducible exact H) | (have H2_ := (Option.bind_some _ _).symm.trans H; rw [hy627]; with_reducible exact H2_) | (have H2_ := (Option.bind_some _ _).symm.trans H; with_reducible exact H2_) | with_reducible exact H | (rw [hy627]; exact H) | exact H
                            have Ny627 := Aside0.mk hy627
                            clear hy627
                            have H' := Aside0.mk H
                            clear H
                            have p622 : 0 ≤ (x44_1 : Int) := of_decide_eq_true (by first | (with_reducible assumption) | assumption)
                            have q622 : x44_1 < (y619.length : Int) := of_decide_eq_true (by first | (with_reducible assumption) | assumption)
                            obtain ⟨ad622, e622, hx622_0⟩ := Kd.at_string (Kd.R_reads' HO_42.out).2.2 x44_1 p622 q622
                            cases e622
                            replace p622 := eq_true p622
                            replace q622 := eq_true q622
                            have p623 : 0 ≤ (x44_1 : Int) := of_decide_eq_true (by first | (with_reducible assumption) | assumption)
                            have q623 : x44_1 < (l3.length : Int) := of_decide_eq_true (by first | (with_reducible assumption) | assumption)
                            obtain ⟨ad623, e623, hx623_0⟩ := Kd.at_bool HR3.out x44_1 p623 q623
                            (try rw [← Nbq25.out] at hx623_0)
                            cases e623
                            replace hx623_0 := (HB.out.cell (World.block_lt_of_cell? w _ hx623_0)).trans hx623_0
                            replace p623 := eq_true p623
                            replace q623 := eq_true q623
                            go_wp2_with (first | ((with_reducible refine gate_builtin (b := .append) (xs := #[.tmp 63, .tmp 66]) rfl ?_); (try (refine gate_guard (by rfl) ?_; dsimp only)); at_builtin; refine Kd.R_append k48 (w0 := w) w.heap.size rfl (.tmp 63) (.tmp 66) 46 48 (.agg #[(.bool false), (.string ⟨#[]⟩)]) 24 rfl Try.underlying46 info48 rfl (by decide) (by omega) u12 x12_1 (⟨true, rdOf ByteArray.empty y619 x44_1⟩ : S48) [.bool true, .string (rdOf ByteArray.empty y619 x44_1)] (fun _ => True) (fun _ => False) rfl rfl ?aP (fun _ hk => hk.elim) ?aF ?aO ?aB ?aS ?aL ?_; (case aP => exact k48_mkM _ _ _ (⟨true, rdOf ByteArray.empty y619 x44_1⟩ : S48)); (case aB => exact (by repeat (first | (with_reducible first | exact HB.out | apply below_alloc | apply pw_below_drewN | apply below_drew1) | exact HB.out))); (case aF => exact (fun _ _ => trivial)); (case aO => exact (by (with_reducible repeat (first | apply Kd.R_alloc | apply Kd.R_drewN | apply Kd.R_drew)); exact HO_12.out)); (case aS => exact (below_size (by repeat (first | (with_reducible first | exact HB.out | apply below_alloc | apply pw_below_drewN | apply below_drew1) | exact HB.out)))); (case aL => have := LMc29.out; omega); intro v628 w30 ho hb hg hat; rw [← Ny627.out] at ho; have n0_ := Aside0.mk (Kd.R_over' (by (with_reducible repeat (first | apply Kd.R_alloc | apply Kd.R_drewN | apply Kd.R_drew)); exact HO_11.out) (Kd.R_typed (by (with_reducible repeat (first | apply Kd.R_alloc | apply Kd.R_drewN | apply Kd.R_drew)); exact HO_12.out)) (by decide) hg); have n1_ := Aside0.mk (Kd.R_over' (by (with_reducible repeat (first | apply Kd.R_alloc | apply Kd.R_drewN | apply Kd.R_drew)); exact HO_42.out) (Kd.R_typed (by (with_reducible repeat (first | apply Kd.R_alloc | apply Kd.R_drewN | apply Kd.R_drew)); exact HO_12.out)) (by decide) hg); have n2_ := Aside0.mk (hb); have n3_ := Aside0.mk (ho); clear HO_11; clear HO_42; clear HB; clear HO_12; have HO_11 := n0_; have HO_42 := n1_; have HB := n2_; have HO629 := n3_; clear n0_ n1_ n2_ n3_; clear ho hb hg hat))
                            go_roundg k1
                            case measure => have := HK1.out; omega
                            case rel => exact ⟨(y627), (wrap64 (x13_1 + 1)), (wrap64 (x44_1 + 1)), (by first | rfl | (simp; done) | (simp [*]; done)), (by first | rfl | (simp; done) | (simp [*]; done)), H', ⟨by have := HK1.out; omega⟩, ⟨by (with_reducible repeat (first | apply Kd.R_alloc | apply Kd.R_drewN | apply Kd.R_drew)); exact HO_11.out⟩, ⟨by (with_reducible repeat (first | apply Kd.R_alloc | apply Kd.R_drewN | apply Kd.R_drew)); exact HO629.out⟩, ⟨by (with_reducible repeat (first | apply Kd.R_alloc | apply Kd.R_drewN | apply Kd.R_drew)); exact HO_42.out⟩, ⟨by repeat (first | (with_reducible first | exact HB.out | apply below_alloc | apply pw_below_drewN | apply below_drew1) | exact HB.out)⟩⟩
                          · rw [if_neg c29] at H
                            exact absurd H (by simp)
                      · rw [if_neg c24] at H
                        have c24b0 : decide (x44_1 < (l3.length : Int)) = false := decide_eq_false c24
                        clear c24
                        by_cases c31 : x12_1.length < 5864062014805
                        · rw [if_pos c31] at H
                          have LMc31 := Aside0.mk c31
                          clear c31
                          obtain ⟨y630, hy630⟩ : ∃ y_ : List (S48), y_ = (x12_1 ++ [(⟨true, rdOf ByteArray.empty y619 x44_1⟩ : S48)]) := ⟨_, rfl⟩
                          replace H : (caulklaw04_RsBack.l0 k1 a0 a1 l3 y619 y630 (wrap64 (x13_1 + 1)) y619 (y619.length : Int) (wrap64 (x44_1 + 1))) = some r := by first | (rw [hy630]; with_reducible exact H) | (have H2_ := (Option.bind_some _ _).symm.trans H; rw [hy630]; with_reducible exact H2_) | (have H2_ := (Option.bind_some _ _).symm.trans H; with_reducible exact H2_) | with_reducible exact H | (rw [hy630]; exact H) | exact H
                          have Ny630 := Aside0.mk hy630
                          clear hy630
                          have H' := Aside0.mk H
                          clear H
                          have p622 : 0 ≤ (x44_1 : Int) := of_decide_eq_true (by first | (with_reducible assumption) | assumption)
                          have q622 : x44_1 < (y619.length : Int) := of_decide_eq_true (by first | (with_reducible assumption) | assumption)
                          obtain ⟨ad622, e622, hx622_0⟩ := Kd.at_string (Kd.R_reads' HO_42.out).2.2 x44_1 p622 q622
                          cases e622
                          replace p622 := eq_true p622
                          replace q622 := eq_true q622
                          go_wp2_with (first | ((with_reducible refine gate_builtin (b := .append) (xs := #[.tmp 63, .tmp 66]) rfl ?_); (try (refine gate_guard (by rfl) ?_; dsimp only)); at_builtin; refine Kd.R_append k48 (w0 := w) w.heap.size rfl (.tmp 63) (.tmp 66) 46 48 (.agg #[(.bool false), (.string ⟨#[]⟩)]) 24 rfl Try.underlying46 info48 rfl (by decide) (by omega) u12 x12_1 (⟨true, rdOf ByteArray.empty y619 x44_1⟩ : S48) [.bool true, .string (rdOf ByteArray.empty y619 x44_1)] (fun _ => True) (fun _ => False) rfl rfl ?aP (fun _ hk => hk.elim) ?aF ?aO ?aB ?aS ?aL ?_; (case aP => exact k48_mkM _ _ _ (⟨true, rdOf ByteArray.empty y619 x44_1⟩ : S48)); (case aB => exact (by repeat (first | (with_reducible first | exact HB.out | apply below_alloc | apply pw_below_drewN | apply below_drew1) | exact HB.out))); (case aF => exact (fun _ _ => trivial)); (case aO => exact (by (with_reducible repeat (first | apply Kd.R_alloc | apply Kd.R_drewN | apply Kd.R_drew)); exact HO_12.out)); (case aS => exact (below_size (by repeat (first | (with_reducible first | exact HB.out | apply below_alloc | apply pw_below_drewN | apply below_drew1) | exact HB.out)))); (case aL => have := LMc31.out; omega); intro v631 w32 ho hb hg hat; rw [← Ny630.out] at ho; have n0_ := Aside0.mk (Kd.R_over' (by (with_reducible repeat (first | apply Kd.R_alloc | apply Kd.R_drewN | apply Kd.R_drew)); exact HO_11.out) (Kd.R_typed (by (with_reducible repeat (first | apply Kd.R_alloc | apply Kd.R_drewN | apply Kd.R_drew)); exact HO_12.out)) (by decide) hg); have n1_ := Aside0.mk (Kd.R_over' (by (with_reducible repeat (first | apply Kd.R_alloc | apply Kd.R_drewN | apply Kd.R_drew)); exact HO_42.out) (Kd.R_typed (by (with_reducible repeat (first | apply Kd.R_alloc | apply Kd.R_drewN | apply Kd.R_drew)); exact HO_12.out)) (by decide) hg); have n2_ := Aside0.mk (hb); have n3_ := Aside0.mk (ho); clear HO_11; clear HO_42; clear HB; clear HO_12; have HO_11 := n0_; have HO_42 := n1_; have HB := n2_; have HO632 := n3_; clear n0_ n1_ n2_ n3_; clear ho hb hg hat))
                          go_roundg k1
                          case measure => have := HK1.out; omega
                          case rel => exact ⟨(y630), (wrap64 (x13_1 + 1)), (wrap64 (x44_1 + 1)), (by first | rfl | (simp; done) | (simp [*]; done)), (by first | rfl | (simp; done) | (simp [*]; done)), H', ⟨by have := HK1.out; omega⟩, ⟨by (with_reducible repeat (first | apply Kd.R_alloc | apply Kd.R_drewN | apply Kd.R_drew)); exact HO_11.out⟩, ⟨by (with_reducible repeat (first | apply Kd.R_alloc | apply Kd.R_drewN | apply Kd.R_drew)); exact HO632.out⟩, ⟨by (with_reducible repeat (first | apply Kd.R_alloc | apply Kd.R_drewN | apply Kd.R_drew)); exact HO_42.out⟩, ⟨by repeat (first | (with_reducible first | exact HB.out | apply below_alloc | apply pw_below_drewN | apply below_drew1) | exact HB.out)⟩⟩
                        · rw [if_neg c31] at H
                          exact absurd H (by simp)
                    · rw [if_neg c23] at H
                      exact absurd H (by simp)
                  · rw [if_neg c22] at H
                    exact absurd H (by simp)
                · rw [if_neg c21] at H
                  have c21b0 : decide (x44_1 < (y619.length : Int)) = false := decide_eq_false c21
                  clear c21
                  replace H := Option.bind_eq_some_iff.mp H
                  obtain ⟨⟨t633, t634⟩, A330, H⟩ := H
                  replace H : (if x13_1 < a0 then (if t634 = 10 then (some ((t633.length : Int) == 0)) else (none)) else (if t634 = 0 then ((caulkref04_Same.f k1 t633 y619).bind fun t637 => (if t637 = true then ((rs_Good.f k1 a0 a1 t633).bind fun t638 => (some t638)) else (none))) else (none))) = some r := H
                  have A33 := Aside0.mk A330
                  clear A330
                  by_cases c34 : x13_1 < a0
                  · rw [if_pos c34] at H
                    have c34b0 : decide (x13_1 < a0) = true := decide_eq_true c34
                    clear c34
                    by_cases c35 : t634 = 10
                    · rw [if_pos c35] at H
                      have c35b0 : (t634 == 10) = true := beq_iff_eq.mpr c35
                      have c35b1 : (t634 != 10) = false := bne_eq_false_iff_eq.mpr c35
                      clear c35
                      obtain rfl := Option.some.inj H
                      obtain ⟨Ao36, co36, eo36⟩ := Kd.R_slice HO_12.out
                      subst eo36
                      go_wp2_with (first | ((with_reducible refine gate_callee (f := 36) rfl ?_); refine goesL_ (some 75) rfl rfl Try.func36 (by kernel_rfl) rfl #[.int .i64 a0, .int .i64 a1, .slice Ao36 x12_1.length co36] rfl (by (try simp only [List.map_toArray, List.map_cons, List.map_nil]); first | done | rfl | (simp only [List.length_drop, List.length_take]; rfl)) ?_; (with_reducible refine (rs_Decode.calls k1 a0 a1 _ _ x12_1 t633 t634 _ ?side1 ?side2 A33.out).mono ?_); (case side1 => repeat (first | exact (Kd.R_reads' HO_12.out).2.2 | (with_reducible refine Kd.C_alloc ?_ _) | (with_reducible refine Kd.C_drewN ?_ _) | (with_reducible refine Kd.C_drew ?_))); (case side2 => exact (Kd.R_reads' HO_12.out).2.1); rintro e w37 ⟨v635, rfl, ho0, hb⟩; refine ⟨_, rfl, ?_⟩; have n0_ := Aside0.mk (Kd.R_elder' (by (with_reducible repeat (first | apply Kd.R_alloc | apply Kd.R_drewN | apply Kd.R_drew)); exact HO_11.out) (Kd.R_base ho0) hb); have n1_ := Aside0.mk (Kd.R_below (by (with_reducible repeat (first | apply Kd.R_alloc | apply Kd.R_drewN | apply Kd.R_drew)); exact HO_12.out) hb); have n2_ := Aside0.mk (Kd.R_elder' (by (with_reducible repeat (first | apply Kd.R_alloc | apply Kd.R_drewN | apply Kd.R_drew)); exact HO_42.out) (Kd.R_base ho0) hb); have n3_ := Aside0.mk (Kd.R_lower (Kd.R_new' (Kd.R_new' ho0 (Kd.R_lt (by (with_reducible repeat (first | apply Kd.R_alloc | apply Kd.R_drewN | apply Kd.R_drew)); exact HO_11.out))) (Kd.R_lt (by (with_reducible repeat (first | apply Kd.R_alloc | apply Kd.R_drewN | apply Kd.R_drew)); exact HO_42.out))) (below_size (by repeat (first | (with_reducible first | exact HB.out | apply below_alloc | apply pw_below_drewN | apply below_drew1) | exact HB.out)))); have n4_ := Aside0.mk (below_step (by repeat (first | (with_reducible first | exact HB.out | apply below_alloc | apply pw_below_drewN | apply below_drew1) | exact HB.out)) hb); clear HO_11; clear HO_12; clear HO_42; clear HB; have HO_11 := n0_; have HO_12 := n1_; have HO_42 := n2_; have HO636 := n3_; have HB := n4_; clear n0_ n1_ n2_ n3_ n4_; (try clear hb); (try clear hb2); (try clear hk); (try clear hi); (try clear ho0); obtain ⟨Ao38, co38, eo38⟩ := Kd.R_slice HO636.out; subst eo38))
                      go_ret
                      exact ⟨by first | rfl | (simp [errW_none, errW_some] <;> rfl) | (simp [*, errW_none, errW_some] <;> rfl), by repeat (first | (with_reducible first | exact HB.out | apply below_alloc | apply pw_below_drewN | apply below_drew1) | exact HB.out)⟩
                    · rw [if_neg c35] at H
                      exact absurd H (by simp)
                  · rw [if_neg c34] at H
                    have c34b0 : decide (x13_1 < a0) = false := decide_eq_false c34
                    clear c34
                    by_cases c39 : t634 = 0
                    · rw [if_pos c39] at H
                      have c39b0 : (t634 == 0) = true := beq_iff_eq.mpr c39
                      have c39b1 : (t634 != 0) = false := bne_eq_false_iff_eq.mpr c39
                      clear c39
                      replace H := Option.bind_eq_some_iff.mp H
                      obtain ⟨t637, A400, H⟩ := H
                      replace H : (if t637 = true then ((rs_Good.f k1 a0 a1 t633).bind fun t638 => (some t638)) else (none)) = some r := H
                      have A40 := Aside0.mk A400
                      clear A400
                      by_cases c41 : t637 = true
                      · subst c41
                        have H1 : ((rs_Good.f k1 a0 a1 t633).bind fun t638 => (some t638)) = some r := by rw [if_pos rfl] at H; exact H
                        clear H
                        have H := H1
                        clear H1
                        replace H := Option.bind_eq_some_iff.mp H
                        obtain ⟨t638, A420, H⟩ := H
                        replace H : (some t638) = some r := H
                        have A42 := Aside0.mk A420
                        clear A420
                        obtain rfl := Option.some.inj H
                        obtain ⟨Ao43, co43, eo43⟩ := Kd.R_slice HO_12.out
                        subst eo43
                        go_wp2_with (first | ((with_reducible refine gate_callee (f := 36) rfl ?_); refine goesL_ (some 75) rfl rfl Try.func36 (by kernel_rfl) rfl #[.int .i64 a0, .int .i64 a1, .slice Ao43 x12_1.length co43] rfl (by (try simp only [List.map_toArray, List.map_cons, List.map_nil]); first | done | rfl | (simp only [List.length_drop, List.length_take]; rfl)) ?_; (with_reducible refine (rs_Decode.calls k1 a0 a1 _ _ x12_1 t633 t634 _ ?side1 ?side2 A33.out).mono ?_); (case side1 => repeat (first | exact (Kd.R_reads' HO_12.out).2.2 | (with_reducible refine Kd.C_alloc ?_ _) | (with_reducible refine Kd.C_drewN ?_ _) | (with_reducible refine Kd.C_drew ?_))); (case side2 => exact (Kd.R_reads' HO_12.out).2.1); rintro e w44 ⟨v635, rfl, ho0, hb⟩; refine ⟨_, rfl, ?_⟩; have n0_ := Aside0.mk (Kd.R_elder' (by (with_reducible repeat (first | apply Kd.R_alloc | apply Kd.R_drewN | apply Kd.R_drew)); exact HO_11.out) (Kd.R_base ho0) hb); have n1_ := Aside0.mk (Kd.R_below (by (with_reducible repeat (first | apply Kd.R_alloc | apply Kd.R_drewN | apply Kd.R_drew)); exact HO_12.out) hb); have n2_ := Aside0.mk (Kd.R_elder' (by (with_reducible repeat (first | apply Kd.R_alloc | apply Kd.R_drewN | apply Kd.R_drew)); exact HO_42.out) (Kd.R_base ho0) hb); have n3_ := Aside0.mk (Kd.R_lower (Kd.R_new' (Kd.R_new' ho0 (Kd.R_lt (by (with_reducible repeat (first | apply Kd.R_alloc | apply Kd.R_drewN | apply Kd.R_drew)); exact HO_11.out))) (Kd.R_lt (by (with_reducible repeat (first | apply Kd.R_alloc | apply Kd.R_drewN | apply Kd.R_drew)); exact HO_42.out))) (below_size (by repeat (first | (with_reducible first | exact HB.out | apply below_alloc | apply pw_below_drewN | apply below_drew1) | exact HB.out)))); have n4_ := Aside0.mk (below_step (by repeat (first | (with_reducible first | exact HB.out | apply below_alloc | apply pw_below_drewN | apply below_drew1) | exact HB.out)) hb); clear HO_11; clear HO_12; clear HO_42; clear HB; have HO_11 := n0_; have HO_12 := n1_; have HO_42 := n2_; have HO636 := n3_; have HB := n4_; clear n0_ n1_ n2_ n3_ n4_; (try clear hb); (try clear hb2); (try clear hk); (try clear hi); (try clear ho0); obtain ⟨Ao45, co45, eo45⟩ := Kd.R_slice HO636.out; subst eo45) | (go_at_call 33; (with_reducible refine (caulkref04_Same.calls k1 _ _ t633 _ _ y619 true _ ?side1 ?side2 ?side3 ?side4 A40.out).mono ?_); (case side1 => repeat (first | exact (Kd.R_reads' HO636.out).2.2 | (with_reducible refine Kd.C_alloc ?_ _) | (with_reducible refine Kd.C_drewN ?_ _) | (with_reducible refine Kd.C_drew ?_))); (case side2 => exact (Kd.R_reads' HO636.out).2.1); (case side3 => repeat (first | exact (Kd.R_reads' HO_11.out).2.2 | (with_reducible refine Kd.C_alloc ?_ _) | (with_reducible refine Kd.C_drewN ?_ _) | (with_reducible refine Kd.C_drew ?_))); (case side4 => exact (Kd.R_reads' HO_11.out).2.1); rintro e w' ⟨rfl, ⟨nd, rfl⟩⟩) | (go_at_call 34; (with_reducible refine (rs_Good.calls k1 a0 a1 _ _ t633 t638 _ ?side1 ?side2 A42.out).mono ?_); (case side1 => repeat (first | exact (Kd.R_reads' HO636.out).2.2 | (with_reducible refine Kd.C_alloc ?_ _) | (with_reducible refine Kd.C_drewN ?_ _) | (with_reducible refine Kd.C_drew ?_))); (case side2 => exact (Kd.R_reads' HO636.out).2.1); rintro e w46 ⟨rfl, hb⟩; have n0_ := Aside0.mk (Kd.R_below (by (with_reducible repeat (first | apply Kd.R_alloc | apply Kd.R_drewN | apply Kd.R_drew)); exact HO_11.out) hb); have n1_ := Aside0.mk (Kd.R_below (by (with_reducible repeat (first | apply Kd.R_alloc | apply Kd.R_drewN | apply Kd.R_drew)); exact HO_12.out) hb); have n2_ := Aside0.mk (Kd.R_below (by (with_reducible repeat (first | apply Kd.R_alloc | apply Kd.R_drewN | apply Kd.R_drew)); exact HO_42.out) hb); have n3_ := Aside0.mk (Kd.R_below (by (with_reducible repeat (first | apply Kd.R_alloc | apply Kd.R_drewN | apply Kd.R_drew)); exact HO636.out) hb); have n4_ := Aside0.mk (below_step (by repeat (first | (with_reducible first | exact HB.out | apply below_alloc | apply pw_below_drewN | apply below_drew1) | exact HB.out)) hb); clear HO_11; clear HO_12; clear HO_42; clear HO636; clear HB; have HO_11 := n0_; have HO_12 := n1_; have HO_42 := n2_; have HO636 := n3_; have HB := n4_; clear n0_ n1_ n2_ n3_ n4_; (try clear hb); (try clear hb2); (try clear hk); (try clear hi)))
                        go_ret
                        exact ⟨by first | rfl | (simp [errW_none, errW_some] <;> rfl) | (simp [*, errW_none, errW_some] <;> rfl), by repeat (first | (with_reducible first | exact HB.out | apply below_alloc | apply pw_below_drewN | apply below_drew1) | exact HB.out)⟩
                      · replace c41 := Bool.eq_false_iff.mpr c41
                        subst c41
                        have H1 : (none) = some r := by rw [if_neg (show ¬ (false = true) by decide)] at H; exact H
                        clear H
                        have H := H1
                        clear H1
                        exact absurd H (by simp)
                    · rw [if_neg c39] at H
                      exact absurd H (by simp)
          · rw [if_neg c12] at H
            exact absurd H (by simp)
        · rw [if_neg c11] at H
          exact absurd H (by simp)
      · rw [if_neg c10] at H
        have c10b0 : (t610 == 0) = false := beq_eq_false_iff_ne.mpr c10
        have c10b1 : (t610 != 0) = true := bne_iff_ne.mpr c10
        obtain rfl := Option.some.inj H
        go_enter Try.func9, Try.ntmps9
        go_wp2_with (first | ((with_reducible refine gate_callee (f := 28) rfl ?_); refine goesL_ (some 18) rfl rfl Try.func28 (by kernel_rfl) rfl #[] rfl (by (try simp only [List.map_toArray, List.map_cons, List.map_nil]); first | done | rfl | (simp only [List.length_drop, List.length_take]; rfl)) ?_; (with_reducible refine (caulklaw04_lives.calls k  true _ A5.out).mono ?_); rintro e w47 ⟨rfl, hb⟩; refine ⟨_, rfl, ?_⟩; have n0_ := Aside0.mk (below_step (by repeat (first | (with_reducible first | exact HB.out | apply below_alloc | apply pw_below_drewN | apply below_drew1) | exact HB.out)) hb); clear HB; have HB := n0_; clear n0_; (try clear hb); (try clear hb2); (try clear hk); (try clear hi)) | ((with_reducible refine gate_callee (f := 27) rfl ?_); refine goesL_ (some 23) rfl rfl Try.func27 (by kernel_rfl) rfl #[.int .i64 a0, .int .i64 a1, .slice A2 l2.length c2] rfl (by (try simp only [List.map_toArray, List.map_cons, List.map_nil]); first | done | rfl | (simp only [List.length_drop, List.length_take]; rfl)) ?_; (with_reducible refine (caulklaw04_small.calls k a0 a1 _ _ l2 true _ ?side1 ?side2 A7.out).mono ?_); (case side1 => repeat (first | exact (Kd.C_below HR2.out HB.out) | (with_reducible refine Kd.C_alloc ?_ _) | (with_reducible refine Kd.C_drewN ?_ _) | (with_reducible refine Kd.C_drew ?_))); (case side2 => exact HC2.out); rintro e w' ⟨rfl, ⟨nd, rfl⟩⟩; refine ⟨_, rfl, ?_⟩) | ((with_reducible refine gate_callee (f := 29) rfl ?_); refine goesL_ (some 29) rfl rfl Try.func29 (by kernel_rfl) rfl #[.int .i64 a0, .int .i64 a1, .slice A2 l2.length c2] rfl (by (try simp only [List.map_toArray, List.map_cons, List.map_nil]); first | done | rfl | (simp only [List.length_drop, List.length_take]; rfl)) ?_; (with_reducible refine (rs_Encode.calls k a0 a1 _ _ l2 t609 t610 _ ?side1 ?side2 A9.out).mono ?_); (case side1 => repeat (first | exact (Kd.C_below HR2.out (by repeat (first | (with_reducible first | exact HB.out | apply below_alloc | apply pw_below_drewN | apply below_drew1) | exact HB.out))) | (with_reducible refine Kd.C_alloc ?_ _) | (with_reducible refine Kd.C_drewN ?_ _) | (with_reducible refine Kd.C_drew ?_))); (case side2 => exact HC2.out); rintro e w48 ⟨v611, rfl, ho0, hb⟩; refine ⟨_, rfl, ?_⟩; have n0_ := Aside0.mk (Kd.R_lower ho0 (below_size (by repeat (first | (with_reducible first | exact HB.out | apply below_alloc | apply pw_below_drewN | apply below_drew1) | exact HB.out)))); have n1_ := Aside0.mk (below_step (by repeat (first | (with_reducible first | exact HB.out | apply below_alloc | apply pw_below_drewN | apply below_drew1) | exact HB.out)) hb); clear HB; have HO612 := n0_; have HB := n1_; clear n0_ n1_; (try clear hb); (try clear hb2); (try clear hk); (try clear hi); (try clear ho0); obtain ⟨Ao49, co49, eo49⟩ := Kd.R_slice HO612.out; subst eo49))
        go_ret
        exact ⟨by first | rfl | (simp [errW_none, errW_some] <;> rfl) | (simp [*, errW_none, errW_some] <;> rfl), by repeat (first | (with_reducible first | exact HB.out | apply below_alloc | apply pw_below_drewN | apply below_drew1) | exact HB.out)⟩
    · replace c8 := Bool.eq_false_iff.mpr c8
      subst c8
      have H1 : (some true) = some r := by rw [if_neg (show ¬ (false = true) by decide)] at H; exact H
      clear H
      have H := H1
      clear H1
      obtain rfl := Option.some.inj H
      go_enter Try.func9, Try.ntmps9
      go_wp2_with (first | ((with_reducible refine gate_callee (f := 28) rfl ?_); refine goesL_ (some 18) rfl rfl Try.func28 (by kernel_rfl) rfl #[] rfl (by (try simp only [List.map_toArray, List.map_cons, List.map_nil]); first | done | rfl | (simp only [List.length_drop, List.length_take]; rfl)) ?_; (with_reducible refine (caulklaw04_lives.calls k  true _ A5.out).mono ?_); rintro e w50 ⟨rfl, hb⟩; refine ⟨_, rfl, ?_⟩; have n0_ := Aside0.mk (below_step (by repeat (first | (with_reducible first | exact HB.out | apply below_alloc | apply pw_below_drewN | apply below_drew1) | exact HB.out)) hb); clear HB; have HB := n0_; clear n0_; (try clear hb); (try clear hb2); (try clear hk); (try clear hi)) | ((with_reducible refine gate_callee (f := 27) rfl ?_); refine goesL_ (some 23) rfl rfl Try.func27 (by kernel_rfl) rfl #[.int .i64 a0, .int .i64 a1, .slice A2 l2.length c2] rfl (by (try simp only [List.map_toArray, List.map_cons, List.map_nil]); first | done | rfl | (simp only [List.length_drop, List.length_take]; rfl)) ?_; (with_reducible refine (caulklaw04_small.calls k a0 a1 _ _ l2 false _ ?side1 ?side2 A7.out).mono ?_); (case side1 => repeat (first | exact (Kd.C_below HR2.out HB.out) | (with_reducible refine Kd.C_alloc ?_ _) | (with_reducible refine Kd.C_drewN ?_ _) | (with_reducible refine Kd.C_drew ?_))); (case side2 => exact HC2.out); rintro e w' ⟨rfl, ⟨nd, rfl⟩⟩; refine ⟨_, rfl, ?_⟩))
      go_ret
      exact ⟨by first | rfl | (simp [errW_none, errW_some] <;> rfl) | (simp [*, errW_none, errW_some] <;> rfl), by repeat (first | (with_reducible first | exact HB.out | apply below_alloc | apply pw_below_drewN | apply below_drew1) | exact HB.out)⟩
  · replace c6 := Bool.eq_false_iff.mpr c6
    subst c6
    have H1 : (none) = some r := by rw [if_neg (show ¬ (false = true) by decide)] at H; exact H
    clear H
    have H := H1
    clear H1
    exact absurd H (by simp)

def caulklaw04_RsBack.Pure : Prop := ∀ (a0 : Int) (a1 : Int) (l2 : List ByteArray) (l3 : List Bool), (Lit.int .i64 a0).wf = true → (Lit.int .i64 a1).wf = true → (l2.length * 16 ≤ 140737488351232 ∧ ∀ x0_ ∈ l2, x0_.size ≤ 140737488351232) → l3.length * 1 ≤ 140737488351232 → ∃ k, caulklaw04_RsBack.f k a0 a1 l2 l3 = some true

-- caulklaw04_put (function 38): its contract stands in Derived.Test.YtlobaomleocpjaaPut4

end Go.Proofs.Ytlobaomleocpjaa.G
