-- Written by a program of this session over the print of the translation (its own patch, foreign contracts, cut ways): not trusted: Lean checks it.
import Derived.Test.YtgiljibkjccgfabGx0
import Derived.Test.YtgiljibkjccgfabGx3
import Derived.Test.YtgiljibkjccgfabGfArr
import Derived.Test.YtgiljibkjccgfabGfLog
import Derived.Test.YtgiljibkjccgfabGfMul
namespace Go.Proofs.Ytgiljibkjccgfab.G
open Go.RowKit Go.Proofs.YtgiljibkjccgfabW.PrintWords Go.Proofs.YtgiljibkjccgfabW.PrintLast Go.Proofs.YtgiljibkjccgfabW.PrintMore
attribute [local go_sem] max2_int min2_int max_two min_two max_three min_three max_four min_four   -- for this text's walks alone
set_option linter.unusedVariables false
set_option linter.unusedSimpArgs false

/-! ### caulklaw02_GfScales: function 4 -/
mutual
def caulklaw02_GfScales.j0 : Nat → Int → ByteArray → List Int → Bool → Option (Bool)
  | 0, _, _, _, _ => none
  | k + 1, x0, x1, x2, x18 => if x18 = true then ((caulklaw02_lives.f).bind fun t148 => (some t148)) else ((some (([] : List Int) : List Int)).bind fun y149 => (if y149.length + x2.length < 140737488355328 then ((gf_Put.f (y149 ++ x2) x0 x1).bind fun t155 => ((caulkref02_Scale.f k x0 x1).bind fun t156 => (caulklaw02_GfScales.l0 k x0 x1 x2 t155 t156 (x2.length : Int) 0))) else (none)))
def caulklaw02_GfScales.l0 : Nat → Int → ByteArray → List Int → List Int → ByteArray → Int → Int → Option (Bool)
  | 0, _, _, _, _, _, _, _ => none
  | k + 1, x0, x1, x2, x7, x8, x31, x32 => if x32 < x31 then (if 0 ≤ x32 then (if x32 < (x2.length : Int) then (if x32 < (x8.size : Int) then (if x32 < (x7.length : Int) then (if (rd x7 x32) = (Go.bits .xor .u8 (rd x2 x32) (bt x8 x32)) then (caulklaw02_GfScales.l0 k x0 x1 x2 x7 x8 x31 (wrap64 (x32 + 1))) else (none)) else (none)) else (if x32 < (x7.length : Int) then (if (rd x7 x32) = (rd x2 x32) then (caulklaw02_GfScales.l0 k x0 x1 x2 x7 x8 x31 (wrap64 (x32 + 1))) else (none)) else (none))) else (none)) else (none)) else ((caulklaw02_lives.f).bind fun t157 => (if t157 = true then ((gf_Scale.f x0 x1).bind fun t158 => (if t158.toList = x8.toList then (some ((x7.length : Int) == (x2.length : Int))) else (none))) else (none)))
end
def caulklaw02_GfScales.f (k : Nat) (a0 : Int) (a1 : ByteArray) (l2 : List Int) : Option (Bool) := if (a1.size : Int) > 16384 then (caulklaw02_GfScales.j0 k a0 a1 l2 true) else (caulklaw02_GfScales.j0 k a0 a1 l2 (decide ((l2.length : Int) > 16384)))
theorem caulklaw02_GfScales.mono_l : ∀ k, (∀ y0 y1 y2 y3, LeO (caulklaw02_GfScales.j0 k y0 y1 y2 y3) (caulklaw02_GfScales.j0 (k + 1) y0 y1 y2 y3)) ∧ (∀ y0 y1 y2 y3 y4 y5 y6, LeO (caulklaw02_GfScales.l0 k y0 y1 y2 y3 y4 y5 y6) (caulklaw02_GfScales.l0 (k + 1) y0 y1 y2 y3 y4 y5 y6))
  | 0 => ⟨fun _ _ _ _ r h => by simp [caulklaw02_GfScales.j0] at h, fun _ _ _ _ _ _ _ r h => by simp [caulklaw02_GfScales.l0] at h⟩
  | k + 1 => by
    obtain ⟨ih0, ih1⟩ := caulklaw02_GfScales.mono_l k
    refine ⟨?_, ?_⟩
    · intro y0 y1 y2 y3
      unfold caulklaw02_GfScales.j0
      repeat' first
      | (with_reducible exact ih0 _ _ _ _)
      | (with_reducible exact ih1 _ _ _ _ _ _ _)
      | (with_reducible exact caulkref02_Scale.mono _ _ _)
      | (with_reducible exact LeO.refl _)
      | (with_reducible exact LeO.none _)
      | (with_reducible refine LeO.ite ?_ ?_)
      | (with_reducible refine LeO.bind ?_ (fun _ => ?_))
      | exact ih0 _ _ _ _
      | exact ih1 _ _ _ _ _ _ _
      | exact caulkref02_Scale.mono _ _ _
      | exact LeO.none _
      | refine LeO.ite ?_ ?_
      | refine LeO.bind ?_ (fun _ => ?_)
    · intro y0 y1 y2 y3 y4 y5 y6
      unfold caulklaw02_GfScales.l0
      repeat' first
      | (with_reducible exact ih0 _ _ _ _)
      | (with_reducible exact ih1 _ _ _ _ _ _ _)
      | (with_reducible exact caulkref02_Scale.mono _ _ _)
      | (with_reducible exact LeO.refl _)
      | (with_reducible exact LeO.none _)
      | (with_reducible refine LeO.ite ?_ ?_)
      | (with_reducible refine LeO.bind ?_ (fun _ => ?_))
      | exact ih0 _ _ _ _
      | exact ih1 _ _ _ _ _ _ _
      | exact caulkref02_Scale.mono _ _ _
      | exact LeO.none _
      | refine LeO.ite ?_ ?_
      | refine LeO.bind ?_ (fun _ => ?_)
theorem caulklaw02_GfScales.mono : ∀ a0 a1 a2 k, LeO (caulklaw02_GfScales.f k a0 a1 a2) (caulklaw02_GfScales.f (k + 1) a0 a1 a2) := by
  intro a0 a1 a2 k
  obtain ⟨ih0, ih1⟩ := caulklaw02_GfScales.mono_l k
  unfold caulklaw02_GfScales.f
  repeat' first
      | (with_reducible exact ih0 _ _ _ _)
      | (with_reducible exact ih1 _ _ _ _ _ _ _)
      | (with_reducible exact caulkref02_Scale.mono _ _ _)
      | (with_reducible exact LeO.refl _)
      | (with_reducible exact LeO.none _)
      | (with_reducible refine LeO.ite ?_ ?_)
      | (with_reducible refine LeO.bind ?_ (fun _ => ?_))
      | exact ih0 _ _ _ _
      | exact ih1 _ _ _ _ _ _ _
      | exact caulkref02_Scale.mono _ _ _
      | exact LeO.none _
      | refine LeO.ite ?_ ?_
      | refine LeO.bind ?_ (fun _ => ?_)
set_option maxHeartbeats 8000000 in
set_option maxRecDepth 100000 in
theorem caulklaw02_GfScales.calls (k : Nat) (a0 : Int) (a1 : ByteArray) (A2 : Option Addr) (c2 : Nat) (l2 : List Int) (r : Bool) (w : World) (hr2 : Kd.C (Kd.int .u8) w A2 l2.length l2) (hc2 : l2.length ≤ c2) (h : caulklaw02_GfScales.f k a0 a1 l2 = some r) :
    Calls Try.prog 4 #[.int .u8 a0, .string a1, .slice A2 l2.length c2] w fun e w' => e = .returned (.bool r) ∧ Below w.heap.size w w' := by
  have HR2 := Aside0.mk hr2
  have HC2 := Aside0.mk hc2
  clear hr2 hc2
  have HB := Aside0.mk (Below.refl w.heap.size w)
  have H : (if (a1.size : Int) > 16384 then (caulklaw02_GfScales.j0 k a0 a1 l2 true) else (caulklaw02_GfScales.j0 k a0 a1 l2 (decide ((l2.length : Int) > 16384)))) = some r := h
  clear h
  have HC4 := Aside0.mk H
  clear H
  go_enter Try.func4, Try.ntmps4
  go_upto_region 1 with (fail)
  go_cut [18] (fun v18 wc => ∃ (kq : Nat) (x18_3 : Bool), v18 = .bool x18_3 ∧ Aside0 (caulklaw02_GfScales.j0 kq a0 a1 l2 x18_3 = some r) ∧ Aside0 (kq ≤ k) ∧ Aside0 (Below w.heap.size w wc))
  case first =>
    have H := HC4.out
    clear HC4
    by_cases c5 : (a1.size : Int) > 16384
    · rw [if_pos c5] at H
      have c5b0 : decide (16384 < (a1.size : Int)) = true := decide_eq_true c5
      have c5b1 : decide (16384 < a1.size) = true := decide_eq_true (by omega)
      clear c5
      (first | rw [c5b0] | (simp only [i64_w, i32_w]; rw [c5b0]) | skip)
      have H' := Aside0.mk H
      clear H
      go_wp2
      go_meet
      case rel => exact ⟨_, (true), (by first | rfl | (simp; done) | (simp [*]; done)), H', ⟨by first | omega | exact Nat.le_refl _⟩, ⟨by repeat (first | (with_reducible first | exact HB.out | apply below_alloc | apply pw_below_drewN | apply below_drew1) | exact HB.out)⟩⟩
    · rw [if_neg c5] at H
      have c5b0 : decide (16384 < (a1.size : Int)) = false := decide_eq_false c5
      have c5b1 : decide (16384 < a1.size) = false := decide_eq_false (by omega)
      clear c5
      (first | rw [c5b0] | (simp only [i64_w, i32_w]; rw [c5b0]) | skip)
      have H' := Aside0.mk H
      clear H
      go_wp2
      go_meet
      case rel => exact ⟨_, (decide ((l2.length : Int) > 16384)), (by first | rfl | (simp; done) | (simp [*]; done)), H', ⟨by first | omega | exact Nat.le_refl _⟩, ⟨by repeat (first | (with_reducible first | exact HB.out | apply below_alloc | apply pw_below_drewN | apply below_drew1) | exact HB.out)⟩⟩
  case rest =>
    clear HC4
    try clear c2
    try clear p2
    try clear c4
    try clear c5
    try clear c5b0
    try clear c5b1
    obtain ⟨kq, x18_3, rfl, HA, HJ3, HB⟩ := hcut
    cases kq with
    | zero => exact absurd HA.out (by simp [caulklaw02_GfScales.j0])
    | succ kj3 =>
      have H := HA.out
      clear HA
      simp only [caulklaw02_GfScales.j0] at H
      by_cases c6 : x18_3 = true
      · subst c6
        have H1 : ((caulklaw02_lives.f).bind fun t148 => (some t148)) = some r := by rw [if_pos rfl] at H; exact H
        clear H
        have H := H1
        clear H1
        replace H := Option.bind_eq_some_iff.mp H
        obtain ⟨t148, A70, H⟩ := H
        replace H : (some t148) = some r := H
        have A7 := Aside0.mk A70
        clear A70
        obtain rfl := Option.some.inj H
        go_wp2_with (first | ((with_reducible refine gate_callee (f := 16) rfl ?_); refine goesL_ (some 19) rfl rfl Try.func16 (by kernel_rfl) rfl #[] rfl (by (try simp only [List.map_toArray, List.map_cons, List.map_nil]); first | done | rfl | (simp only [List.length_drop, List.length_take]; rfl)) ?_; (with_reducible refine (caulklaw02_lives.calls  t148 _ A7.out).mono ?_); rintro e w8 ⟨rfl, hb⟩; refine ⟨_, rfl, ?_⟩; have n0_ := Aside0.mk (below_step (by repeat (first | (with_reducible first | exact HB.out | apply below_alloc | apply pw_below_drewN | apply below_drew1) | exact HB.out)) hb); clear HB; have HB := n0_; clear n0_; (try clear hb); (try clear hb2); (try clear hk); (try clear hi)))
        go_ret
        exact ⟨by first | rfl | (simp [errW_none, errW_some] <;> rfl) | (simp [*, errW_none, errW_some] <;> rfl), by repeat (first | (with_reducible first | exact HB.out | apply below_alloc | apply pw_below_drewN | apply below_drew1) | exact HB.out)⟩
      · replace c6 := Bool.eq_false_iff.mpr c6
        subst c6
        have H1 : ((some (([] : List Int) : List Int)).bind fun y149 => (if y149.length + l2.length < 140737488355328 then ((gf_Put.f (y149 ++ l2) a0 a1).bind fun t155 => ((caulkref02_Scale.f kj3 a0 a1).bind fun t156 => (caulklaw02_GfScales.l0 kj3 a0 a1 l2 t155 t156 (l2.length : Int) 0))) else (none))) = some r := by rw [if_neg (show ¬ (false = true) by decide)] at H; exact H
        clear H
        have H := H1
        clear H1
        obtain ⟨y149, hy149⟩ : ∃ y_ : List Int, y_ = (([] : List Int)) := ⟨_, rfl⟩
        replace H : (if y149.length + l2.length < 140737488355328 then ((gf_Put.f (y149 ++ l2) a0 a1).bind fun t155 => ((caulkref02_Scale.f kj3 a0 a1).bind fun t156 => (caulklaw02_GfScales.l0 kj3 a0 a1 l2 t155 t156 (l2.length : Int) 0))) else (none)) = some r := by first | (rw [hy149]; with_reducible exact H) | (have H2_ := (Option.bind_some _ _).symm.trans H; rw [hy149]; with_reducible exact H2_) | (have H2_ := (Option.bind_some _ _).symm.trans H; with_reducible exact H2_) | with_reducible exact H | (rw [hy149]; exact H) | exact H
        have Ny149 := Aside0.mk hy149
        clear hy149
        by_cases c9 : y149.length + l2.length < 140737488355328
        · rw [if_pos c9] at H
          have LMc9 := Aside0.mk c9
          clear c9
          obtain ⟨y152, hy152⟩ : ∃ y_ : List Int, y_ = (y149 ++ l2) := ⟨_, rfl⟩
          replace H : ((gf_Put.f y152 a0 a1).bind fun t155 => ((caulkref02_Scale.f kj3 a0 a1).bind fun t156 => (caulklaw02_GfScales.l0 kj3 a0 a1 l2 t155 t156 (l2.length : Int) 0))) = some r := by first | (rw [hy152]; with_reducible exact H) | (have H2_ := (Option.bind_some _ _).symm.trans H; rw [hy152]; with_reducible exact H2_) | (have H2_ := (Option.bind_some _ _).symm.trans H; with_reducible exact H2_) | with_reducible exact H | (rw [hy152]; exact H) | exact H
          have Ny152 := Aside0.mk hy152
          clear hy152
          replace H := Option.bind_eq_some_iff.mp H
          obtain ⟨t155, A100, H⟩ := H
          replace H : ((caulkref02_Scale.f kj3 a0 a1).bind fun t156 => (caulklaw02_GfScales.l0 kj3 a0 a1 l2 t155 t156 (l2.length : Int) 0)) = some r := H
          have A10 := Aside0.mk A100
          clear A100
          replace H := Option.bind_eq_some_iff.mp H
          obtain ⟨t156, A110, H⟩ := H
          replace H : (caulklaw02_GfScales.l0 kj3 a0 a1 l2 t155 t156 (l2.length : Int) 0) = some r := H
          have A11 := Aside0.mk A110
          clear A110
          have H' := Aside0.mk H
          clear H
          go_wp2_with (first | ((with_reducible refine gate_dst (N := 20) rfl ?_); (try (refine gate_guard (by rfl) ?_; dsimp only)); refine Kd.R_lit (Kd.int .u8) _ 5 ?hg (N := 20) ?hd (xs := ([] : List Int)) (inner := []) (ok := fun _ => True) (okp := fun _ => True) ?hr ?hp (fun _ hk => hk) trivial (Below.refl _ _) (Nat.le_refl _) (by simp) ?_; (case hd => rfl); (case hg => rfl); (case hr => first | (go_simp; done) | (go_simp; rfl)); (case hp => exact (Reps.none _ _)); intro v150 w12 ho13 hb hg_ hnew_; clear hg_ hnew_; (first | rw [← Ny149.out] at ho13 | (simp only [Int.reduceToNat] at ho13; rw [← Ny149.out] at ho13)); have n0_ := Aside0.mk (Kd.R_lower ho13 (below_size (by repeat (first | (with_reducible first | exact HB.out | apply below_alloc | apply pw_below_drewN | apply below_drew1) | exact HB.out)))); have n1_ := Aside0.mk (below_step (by repeat (first | (with_reducible first | exact HB.out | apply below_alloc | apply pw_below_drewN | apply below_drew1) | exact HB.out)) hb); clear HB; have HO151 := n0_; have HB := n1_; clear n0_ n1_; clear hb ho13) | ((with_reducible refine gate_builtin (b := .append) (xs := #[.tmp 20, .tmp 21]) rfl ?_); (try (refine gate_guard (by rfl) ?_; dsimp only)); at_builtin; refine Kd.R_append_rows (Kd.int .u8) (w0 := w) w.heap.size rfl (.tmp 20) (.tmp 21) 32 5 (.int .u8 0) 1 rfl Try.underlying32 info5 rfl (by decide) (by omega) v150 y149 l2 _ _ _ (fun _ => True) (fun _ => False) rfl rfl ?aO ?aR (fun _ _ h => h) (fun _ h => h.elim) ?aF ?aB ?aS ?aL ?_; (case aR => repeat (first | exact (Kd.C_below HR2.out HB.out) | (with_reducible refine Kd.C_alloc ?_ _) | (with_reducible refine Kd.C_drewN ?_ _) | (with_reducible refine Kd.C_drew ?_))); (case aB => exact (by repeat (first | (with_reducible first | exact HB.out | apply below_alloc | apply pw_below_drewN | apply below_drew1) | exact HB.out))); (case aF => exact (fun _ _ => trivial)); (case aO => exact (by (with_reducible repeat (first | apply Kd.R_alloc | apply Kd.R_drewN | apply Kd.R_drew)); exact HO151.out)); (case aS => exact (below_size (by repeat (first | (with_reducible first | exact HB.out | apply below_alloc | apply pw_below_drewN | apply below_drew1) | exact HB.out)))); (case aL => have := LMc9.out; omega); intro v153 w14 ho hb hg hat; rw [← Ny152.out] at ho; have n0_ := Aside0.mk (hb); have n1_ := Aside0.mk (ho); clear HB; clear HO151; have HB := n0_; have HO154 := n1_; clear n0_ n1_; clear ho hb hg hat; obtain ⟨Ao15, co15, eo15⟩ := Kd.R_slice HO154.out; subst eo15) | ((with_reducible refine gate_callee (f := 21) rfl ?_); refine goesL_ (some 26) rfl rfl Try.func21 (by kernel_rfl) rfl #[.slice Ao15 y152.length co15, .int .u8 a0, .string a1] rfl (by (try simp only [List.map_toArray, List.map_cons, List.map_nil]); first | done | rfl | (simp only [List.length_drop, List.length_take]; rfl)) ?_; (with_reducible refine (gf_Put.calls (fun k_ => some k_ = (.slice Ao15 y152.length co15 : Value).ownBlock) (.slice Ao15 y152.length co15) y152 a0 a1 t155 w _ ?side1 ?side2 A10.out).mono ?_); (case side1 => repeat (first | (with_reducible first | exact HB.out | apply below_alloc | apply pw_below_drewN | apply below_drew1) | exact HB.out)); (case side2 => exact Kd.R_tight rfl HO154.out); rintro e w16 ⟨rfl, hy0, hb, hkp⟩; refine ⟨_, rfl, ?_⟩; have n0_ := Aside0.mk (Kd.R_reok rfl hy0 (fun k_ e_ => HO154.out.1 k_ e_)); have n1_ := Aside0.mk (hb); clear HO154; clear HB; have HO154 := n0_; have HB := n1_; clear n0_ n1_; (try clear hb); (try clear hkp); (try clear hy0)) | ((with_reducible refine gate_callee (f := 22) rfl ?_); refine goesL_ (some 29) rfl rfl Try.func22 (by kernel_rfl) rfl #[.int .u8 a0, .string a1] rfl (by (try simp only [List.map_toArray, List.map_cons, List.map_nil]); first | done | rfl | (simp only [List.length_drop, List.length_take]; rfl)) ?_; (with_reducible refine (caulkref02_Scale.calls kj3 a0 a1 t156 _ A11.out).mono ?_); rintro e w17 ⟨rfl, hb⟩; refine ⟨_, rfl, ?_⟩; have n0_ := Aside0.mk (Kd.R_below (by (with_reducible repeat (first | apply Kd.R_alloc | apply Kd.R_drewN | apply Kd.R_drew)); exact HO154.out) hb); have n1_ := Aside0.mk (below_step (by repeat (first | (with_reducible first | exact HB.out | apply below_alloc | apply pw_below_drewN | apply below_drew1) | exact HB.out)) hb); clear HO154; clear HB; have HO154 := n0_; have HB := n1_; clear n0_ n1_; (try clear hb); (try clear hb2); (try clear hk); (try clear hi)))
          go_loopg [32] kj3 (fun kq v32 w' => ∃ (x32_2 : Int), v32 = .int .i64 x32_2 ∧ Aside0 (caulklaw02_GfScales.l0 kq a0 a1 l2 t155 t156 (l2.length : Int) x32_2 = some r) ∧ Aside0 (kq ≤ kj3) ∧ Aside0 (Kd.R (Kd.int .u8) 5 w' w.heap.size (fun _ => True) (.slice Ao15 y152.length co15) t155) ∧ Aside0 (Below w.heap.size w w'))
          case atStart => exact ⟨(0), (by first | rfl | (simp; done) | (simp [*]; done)), H', ⟨Nat.le_refl _⟩, ⟨by (with_reducible repeat (first | apply Kd.R_alloc | apply Kd.R_drewN | apply Kd.R_drew)); exact HO154.out⟩, ⟨by repeat (first | (with_reducible first | exact HB.out | apply below_alloc | apply pw_below_drewN | apply below_drew1) | exact HB.out)⟩⟩
          case round =>
            clear H'
            try clear c1
            try clear c2
            try clear p2
            try clear c4
            try clear c5
            try clear c5b0
            try clear c5b1
            try clear c6
            try clear c9
            try clear c16
            try clear p2
            obtain ⟨x32_2, rfl, HA, HK2, HO_7, HB⟩ := hrel
            have hl7_2 := (Kd.R_reads' HO_7.out).1
            rw [hl7_2] at HO_7
            (try simp only [hl7_2])
            cases gk with
            | zero => exact absurd HA.out (by simp [caulklaw02_GfScales.l0])
            | succ k2 =>
              have H := HA.out
              clear HA
              simp only [caulklaw02_GfScales.l0] at H
              by_cases c18 : x32_2 < (l2.length : Int)
              · rw [if_pos c18] at H
                have c18b0 : decide (x32_2 < (l2.length : Int)) = true := decide_eq_true c18
                clear c18
                by_cases c19 : 0 ≤ x32_2
                · rw [if_pos c19] at H
                  have c19b0 : decide (0 ≤ x32_2) = true := decide_eq_true c19
                  clear c19
                  by_cases c20 : x32_2 < (l2.length : Int)
                  · rw [if_pos c20] at H
                    have c20b0 : decide (x32_2 < (l2.length : Int)) = true := decide_eq_true c20
                    clear c20
                    by_cases c21 : x32_2 < (t156.size : Int)
                    · rw [if_pos c21] at H
                      have c21b0 : decide (x32_2 < (t156.size : Int)) = true := decide_eq_true c21
                      clear c21
                      by_cases c23 : x32_2 < (t155.length : Int)
                      · rw [if_pos c23] at H
                        have c23b0 : decide (x32_2 < (t155.length : Int)) = true := decide_eq_true c23
                        clear c23
                        by_cases c24 : (rd t155 x32_2) = (Go.bits .xor .u8 (rd l2 x32_2) (bt t156 x32_2))
                        · rw [if_pos c24] at H
                          have c24b0 : ((rd t155 x32_2) == (Go.bits .xor .u8 (rd l2 x32_2) (bt t156 x32_2))) = true := beq_iff_eq.mpr c24
                          have c24b1 : ((rd t155 x32_2) != (Go.bits .xor .u8 (rd l2 x32_2) (bt t156 x32_2))) = false := bne_eq_false_iff_eq.mpr c24
                          clear c24
                          have H' := Aside0.mk H
                          clear H
                          have p159 : 0 ≤ (x32_2 : Int) := of_decide_eq_true (by first | (with_reducible assumption) | assumption)
                          have q159 : x32_2 < (l2.length : Int) := of_decide_eq_true (by first | (with_reducible assumption) | assumption)
                          obtain ⟨ad159, e159, hx159_0⟩ := Kd.at_int HR2.out x32_2 p159 q159
                          cases e159
                          replace hx159_0 := (HB.out.cell (World.block_lt_of_cell? w _ hx159_0)).trans hx159_0
                          replace p159 := eq_true p159
                          replace q159 := eq_true q159
                          have p22 : 0 ≤ (x32_2 : Int) := of_decide_eq_true (by first | (with_reducible assumption) | assumption)
                          have q22 : x32_2 < (t156.size : Int) := of_decide_eq_true (by first | (with_reducible assumption) | assumption)
                          have hx22 := bt_at t156 x32_2
                          replace p22 := eq_true p22
                          replace q22 := eq_true q22
                          have p160 : 0 ≤ (x32_2 : Int) := of_decide_eq_true (by first | (with_reducible assumption) | assumption)
                          have q160 : x32_2 < (t155.length : Int) := of_decide_eq_true (by first | (with_reducible assumption) | assumption)
                          obtain ⟨ad160, e160, hx160_0⟩ := Kd.at_int (Kd.R_reads' HO_7.out).2.2 x32_2 p160 q160
                          cases e160
                          replace p160 := eq_true p160
                          replace q160 := eq_true q160
                          go_wp2
                          (try simp only [← hl7_2])
                          go_roundg k2
                          case measure => have := HJ3.out; have := HK2.out; omega
                          case rel => exact ⟨(wrap64 (x32_2 + 1)), (by first | rfl | (simp; done) | (simp [*]; done)), H', ⟨by have := HJ3.out; have := HK2.out; omega⟩, ⟨by (try simp only [hl7_2]); (with_reducible repeat (first | apply Kd.R_alloc | apply Kd.R_drewN | apply Kd.R_drew)); exact HO_7.out⟩, ⟨by repeat (first | (with_reducible first | exact HB.out | apply below_alloc | apply pw_below_drewN | apply below_drew1) | exact HB.out)⟩⟩
                        · rw [if_neg c24] at H
                          exact absurd H (by simp)
                      · rw [if_neg c23] at H
                        exact absurd H (by simp)
                    · rw [if_neg c21] at H
                      have c21b0 : decide (x32_2 < (t156.size : Int)) = false := decide_eq_false c21
                      clear c21
                      by_cases c25 : x32_2 < (t155.length : Int)
                      · rw [if_pos c25] at H
                        have c25b0 : decide (x32_2 < (t155.length : Int)) = true := decide_eq_true c25
                        clear c25
                        by_cases c26 : (rd t155 x32_2) = (rd l2 x32_2)
                        · rw [if_pos c26] at H
                          have c26b0 : ((rd t155 x32_2) == (rd l2 x32_2)) = true := beq_iff_eq.mpr c26
                          have c26b1 : ((rd t155 x32_2) != (rd l2 x32_2)) = false := bne_eq_false_iff_eq.mpr c26
                          clear c26
                          have H' := Aside0.mk H
                          clear H
                          have p159 : 0 ≤ (x32_2 : Int) := of_decide_eq_true (by first | (with_reducible assumption) | assumption)
                          have q159 : x32_2 < (l2.length : Int) := of_decide_eq_true (by first | (with_reducible assumption) | assumption)
                          obtain ⟨ad159, e159, hx159_0⟩ := Kd.at_int HR2.out x32_2 p159 q159
                          cases e159
                          replace hx159_0 := (HB.out.cell (World.block_lt_of_cell? w _ hx159_0)).trans hx159_0
                          replace p159 := eq_true p159
                          replace q159 := eq_true q159
                          have p161 : 0 ≤ (x32_2 : Int) := of_decide_eq_true (by first | (with_reducible assumption) | assumption)
                          have q161 : x32_2 < (t155.length : Int) := of_decide_eq_true (by first | (with_reducible assumption) | assumption)
                          obtain ⟨ad161, e161, hx161_0⟩ := Kd.at_int (Kd.R_reads' HO_7.out).2.2 x32_2 p161 q161
                          cases e161
                          replace p161 := eq_true p161
                          replace q161 := eq_true q161
                          go_wp2
                          (try simp only [← hl7_2])
                          go_roundg k2
                          case measure => have := HJ3.out; have := HK2.out; omega
                          case rel => exact ⟨(wrap64 (x32_2 + 1)), (by first | rfl | (simp; done) | (simp [*]; done)), H', ⟨by have := HJ3.out; have := HK2.out; omega⟩, ⟨by (try simp only [hl7_2]); (with_reducible repeat (first | apply Kd.R_alloc | apply Kd.R_drewN | apply Kd.R_drew)); exact HO_7.out⟩, ⟨by repeat (first | (with_reducible first | exact HB.out | apply below_alloc | apply pw_below_drewN | apply below_drew1) | exact HB.out)⟩⟩
                        · rw [if_neg c26] at H
                          exact absurd H (by simp)
                      · rw [if_neg c25] at H
                        exact absurd H (by simp)
                  · rw [if_neg c20] at H
                    exact absurd H (by simp)
                · rw [if_neg c19] at H
                  exact absurd H (by simp)
              · rw [if_neg c18] at H
                have c18b0 : decide (x32_2 < (l2.length : Int)) = false := decide_eq_false c18
                clear c18
                replace H := Option.bind_eq_some_iff.mp H
                obtain ⟨t157, A270, H⟩ := H
                replace H : (if t157 = true then ((gf_Scale.f a0 a1).bind fun t158 => (if t158.toList = t156.toList then (some ((t155.length : Int) == (l2.length : Int))) else (none))) else (none)) = some r := H
                have A27 := Aside0.mk A270
                clear A270
                by_cases c28 : t157 = true
                · subst c28
                  have H1 : ((gf_Scale.f a0 a1).bind fun t158 => (if t158.toList = t156.toList then (some ((t155.length : Int) == (l2.length : Int))) else (none))) = some r := by rw [if_pos rfl] at H; exact H
                  clear H
                  have H := H1
                  clear H1
                  replace H := Option.bind_eq_some_iff.mp H
                  obtain ⟨t158, A290, H⟩ := H
                  replace H : (if t158.toList = t156.toList then (some ((t155.length : Int) == (l2.length : Int))) else (none)) = some r := H
                  have A29 := Aside0.mk A290
                  clear A290
                  by_cases c30 : t158.toList = t156.toList
                  · rw [if_pos c30] at H
                    have c30b0 : (t158.toList == t156.toList) = true := beq_iff_eq.mpr c30
                    have c30b1 : (t158.toList != t156.toList) = false := bne_eq_false_iff_eq.mpr c30
                    clear c30
                    obtain rfl := Option.some.inj H
                    go_wp2_with (first | ((with_reducible refine gate_callee (f := 16) rfl ?_); refine goesL_ (some 55) rfl rfl Try.func16 (by kernel_rfl) rfl #[] rfl (by (try simp only [List.map_toArray, List.map_cons, List.map_nil]); first | done | rfl | (simp only [List.length_drop, List.length_take]; rfl)) ?_; (with_reducible refine (caulklaw02_lives.calls  true _ A27.out).mono ?_); rintro e w31 ⟨rfl, hb⟩; refine ⟨_, rfl, ?_⟩; have n0_ := Aside0.mk (Kd.R_below (by (with_reducible repeat (first | apply Kd.R_alloc | apply Kd.R_drewN | apply Kd.R_drew)); exact HO_7.out) hb); have n1_ := Aside0.mk (below_step (by repeat (first | (with_reducible first | exact HB.out | apply below_alloc | apply pw_below_drewN | apply below_drew1) | exact HB.out)) hb); clear HO_7; clear HB; have HO_7 := n0_; have HB := n1_; clear n0_ n1_; (try clear hb); (try clear hb2); (try clear hk); (try clear hi)) | (go_at_call 23; (with_reducible refine (gf_Scale.calls a0 a1 t158 _ A29.out).mono ?_); rintro e w32 ⟨rfl, hb⟩; have n0_ := Aside0.mk (Kd.R_below (by (with_reducible repeat (first | apply Kd.R_alloc | apply Kd.R_drewN | apply Kd.R_drew)); exact HO_7.out) hb); have n1_ := Aside0.mk (below_step (by repeat (first | (with_reducible first | exact HB.out | apply below_alloc | apply pw_below_drewN | apply below_drew1) | exact HB.out)) hb); clear HO_7; clear HB; have HO_7 := n0_; have HB := n1_; clear n0_ n1_; (try clear hb); (try clear hb2); (try clear hk); (try clear hi)))
                    go_ret
                    exact ⟨by first | rfl | (simp [errW_none, errW_some] <;> rfl) | (simp [*, errW_none, errW_some] <;> rfl), by repeat (first | (with_reducible first | exact HB.out | apply below_alloc | apply pw_below_drewN | apply below_drew1) | exact HB.out)⟩
                  · rw [if_neg c30] at H
                    exact absurd H (by simp)
                · replace c28 := Bool.eq_false_iff.mpr c28
                  subst c28
                  have H1 : (none) = some r := by rw [if_neg (show ¬ (false = true) by decide)] at H; exact H
                  clear H
                  have H := H1
                  clear H1
                  exact absurd H (by simp)
        · rw [if_neg c9] at H
          exact absurd H (by simp)

def caulklaw02_GfScales.Pure : Prop := ∀ (a0 : Int) (a1 : ByteArray) (l2 : List Int), (Lit.int .u8 a0).wf = true → a1.size ≤ 140737488351232 → (l2.length * 1 ≤ 140737488351232 ∧ ∀ x0_ ∈ l2, (Lit.int .u8 x0_).wf = true) → ∃ k, caulklaw02_GfScales.f k a0 a1 l2 = some true

/-! ### caulklaw02_GfField: function 5 -/
def caulklaw02_GfField.j0 : Nat → Int → Int → Int → Bool → Option (Bool)
  | 0, _, _, _, _ => none
  | k + 1, x0, x1, x2, x30 => if x30 = true then (none) else ((gf_Mul.f x0 x1).bind fun t166 => ((gf_Mul.f x1 x0).bind fun t167 => (if t166 = t167 then ((gf_Mul.f x1 x2).bind fun t168 => ((gf_Mul.f x0 t168).bind fun t169 => ((gf_Mul.f x0 x1).bind fun t170 => ((gf_Mul.f t170 x2).bind fun t171 => (if t169 = t171 then ((gf_Mul.f x0 (Go.bits .xor .u8 x1 x2)).bind fun t172 => ((gf_Mul.f x0 x1).bind fun t173 => ((gf_Mul.f x0 x2).bind fun t174 => (if t172 = (Go.bits .xor .u8 t173 t174) then ((gf_Mul.f 1 x0).bind fun t175 => (if t175 = x0 then ((gf_Mul.f x0 x1).bind fun t176 => (if x0 = 0 then (some ((t176 == 0) == true)) else (some ((t176 == 0) == (x1 == 0))))) else (none))) else (none))))) else (none)))))) else (none))))
def caulklaw02_GfField.f (k : Nat) (a0 : Int) (a1 : Int) (a2 : Int) : Option (Bool) := (caulklaw02_lives.f).bind fun t162 => (if t162 = true then ((gf_Inv.f a0).bind fun bt163 => (if ((bt163.2 == 0) != (a0 != 0)) = true then (caulklaw02_GfField.j0 k a0 a1 a2 true) else (if bt163.2 = 0 then ((gf_Mul.f a0 bt163.1).bind fun t165 => (caulklaw02_GfField.j0 k a0 a1 a2 (t165 != 1))) else (caulklaw02_GfField.j0 k a0 a1 a2 false)))) else (none))
theorem caulklaw02_GfField.mono_l : ∀ k, (∀ y0 y1 y2 y3, LeO (caulklaw02_GfField.j0 k y0 y1 y2 y3) (caulklaw02_GfField.j0 (k + 1) y0 y1 y2 y3))
  | 0 => fun _ _ _ _ r h => by simp [caulklaw02_GfField.j0] at h
  | k + 1 => by
    have ih0 := caulklaw02_GfField.mono_l k
    · intro y0 y1 y2 y3
      unfold caulklaw02_GfField.j0
      repeat' first
      | (with_reducible exact ih0 _ _ _ _)
      | (with_reducible exact LeO.refl _)
      | (with_reducible exact LeO.none _)
      | (with_reducible refine LeO.ite ?_ ?_)
      | (with_reducible refine LeO.bind ?_ (fun _ => ?_))
      | exact ih0 _ _ _ _
      | exact LeO.none _
      | refine LeO.ite ?_ ?_
      | refine LeO.bind ?_ (fun _ => ?_)
theorem caulklaw02_GfField.mono : ∀ a0 a1 a2 k, LeO (caulklaw02_GfField.f k a0 a1 a2) (caulklaw02_GfField.f (k + 1) a0 a1 a2) := by
  intro a0 a1 a2 k
  have ih0 := caulklaw02_GfField.mono_l k
  unfold caulklaw02_GfField.f
  repeat' first
      | (with_reducible exact ih0 _ _ _ _)
      | (with_reducible exact LeO.refl _)
      | (with_reducible exact LeO.none _)
      | (with_reducible refine LeO.ite ?_ ?_)
      | (with_reducible refine LeO.bind ?_ (fun _ => ?_))
      | exact ih0 _ _ _ _
      | exact LeO.none _
      | refine LeO.ite ?_ ?_
      | refine LeO.bind ?_ (fun _ => ?_)
set_option maxHeartbeats 8000000 in
set_option maxRecDepth 100000 in
theorem caulklaw02_GfField.calls (k : Nat) (a0 : Int) (a1 : Int) (a2 : Int) (r : Bool) (w : World) (h : caulklaw02_GfField.f k a0 a1 a2 = some r) :
    Calls Try.prog 5 #[.int .u8 a0, .int .u8 a1, .int .u8 a2] w fun e w' => e = .returned (.bool r) ∧ Below w.heap.size w w' := by
  have HB := Aside0.mk (Below.refl w.heap.size w)
  have H : ((caulklaw02_lives.f).bind fun t162 => (if t162 = true then ((gf_Inv.f a0).bind fun bt163 => (if ((bt163.2 == 0) != (a0 != 0)) = true then (caulklaw02_GfField.j0 k a0 a1 a2 true) else (if bt163.2 = 0 then ((gf_Mul.f a0 bt163.1).bind fun t165 => (caulklaw02_GfField.j0 k a0 a1 a2 (t165 != 1))) else (caulklaw02_GfField.j0 k a0 a1 a2 false)))) else (none))) = some r := h
  clear h
  replace H := Option.bind_eq_some_iff.mp H
  obtain ⟨t162, A40, H⟩ := H
  replace H : (if t162 = true then ((gf_Inv.f a0).bind fun bt163 => (if ((bt163.2 == 0) != (a0 != 0)) = true then (caulklaw02_GfField.j0 k a0 a1 a2 true) else (if bt163.2 = 0 then ((gf_Mul.f a0 bt163.1).bind fun t165 => (caulklaw02_GfField.j0 k a0 a1 a2 (t165 != 1))) else (caulklaw02_GfField.j0 k a0 a1 a2 false)))) else (none)) = some r := H
  have A4 := Aside0.mk A40
  clear A40
  by_cases c5 : t162 = true
  · subst c5
    have H1 : ((gf_Inv.f a0).bind fun bt163 => (if ((bt163.2 == 0) != (a0 != 0)) = true then (caulklaw02_GfField.j0 k a0 a1 a2 true) else (if bt163.2 = 0 then ((gf_Mul.f a0 bt163.1).bind fun t165 => (caulklaw02_GfField.j0 k a0 a1 a2 (t165 != 1))) else (caulklaw02_GfField.j0 k a0 a1 a2 false)))) = some r := by rw [if_pos rfl] at H; exact H
    clear H
    have H := H1
    clear H1
    replace H := Option.bind_eq_some_iff.mp H
    obtain ⟨⟨t163, t164⟩, A60, H⟩ := H
    replace H : (if ((t164 == 0) != (a0 != 0)) = true then (caulklaw02_GfField.j0 k a0 a1 a2 true) else (if t164 = 0 then ((gf_Mul.f a0 t163).bind fun t165 => (caulklaw02_GfField.j0 k a0 a1 a2 (t165 != 1))) else (caulklaw02_GfField.j0 k a0 a1 a2 false))) = some r := H
    have A6 := Aside0.mk A60
    clear A60
    have HC7 := Aside0.mk H
    clear H
    go_enter Try.func5, Try.ntmps5
    go_upto_region 4 with (first | ((with_reducible refine gate_callee (f := 16) rfl ?_); refine goesL_ (some 9) rfl rfl Try.func16 (by kernel_rfl) rfl #[] rfl (by (try simp only [List.map_toArray, List.map_cons, List.map_nil]); first | done | rfl | (simp only [List.length_drop, List.length_take]; rfl)) ?_; (with_reducible refine (caulklaw02_lives.calls  true _ A4.out).mono ?_); rintro e w8 ⟨rfl, hb⟩; refine ⟨_, rfl, ?_⟩; have n0_ := Aside0.mk (below_step (by repeat (first | (with_reducible first | exact HB.out | apply below_alloc | apply pw_below_drewN | apply below_drew1) | exact HB.out)) hb); clear HB; have HB := n0_; clear n0_; (try clear hb); (try clear hb2); (try clear hk); (try clear hi)) | ((with_reducible refine gate_callee (f := 10) rfl ?_); refine goesL_ (some 13) rfl rfl Try.func10 (by kernel_rfl) rfl #[.int .u8 a0] rfl (by (try simp only [List.map_toArray, List.map_cons, List.map_nil]); first | done | rfl | (simp only [List.length_drop, List.length_take]; rfl)) ?_; (with_reducible refine (gf_Inv.calls a0 t163 t164 _ A6.out).mono ?_); rintro e w' ⟨rfl, ⟨nd, rfl⟩⟩; refine ⟨_, rfl, ?_⟩))
    (try simp only [Act.put, List.setIfInBounds_toArray, List.set_cons_zero, List.set_cons_succ])
    go_cut [30] (fun v30 wc => ∃ (kq : Nat) (x30_6 : Bool), v30 = .bool x30_6 ∧ Aside0 (caulklaw02_GfField.j0 kq a0 a1 a2 x30_6 = some r) ∧ Aside0 (kq ≤ k) ∧ Aside0 (Below w.heap.size w wc))
    case first =>
      have H := HC7.out
      clear HC7
      by_cases c9 : ((t164 == 0) != (a0 != 0)) = true
      · rw [if_pos c9] at H
        have c9b0 : ((t164 == 0) != (a0 != 0)) = true := c9
        (try (have c9b1 : decide ((t164 == 0) = (a0 != 0)) = false := by simpa using c9))
        (try (have c9b2 : ((t164 == 0) == (a0 != 0)) = false := by simpa using c9))
        (try (have c9b3 : ¬ ((t164 == 0) = (a0 != 0)) := by simpa using c9))
        -- (c9 is kept)
        (first | rw [c9b0] | (simp only [i64_w, i32_w]; rw [c9b0]) | skip)
        have H' := Aside0.mk H
        clear H
        go_wp2
        go_meet
        case rel => exact ⟨_, (true), (by first | rfl | (simp; done) | (simp [*]; done)), H', ⟨by first | omega | exact Nat.le_refl _⟩, ⟨by repeat (first | (with_reducible first | exact HB.out | apply below_alloc | apply pw_below_drewN | apply below_drew1) | exact HB.out)⟩⟩
      · rw [if_neg c9] at H
        have c9b0 : ((t164 == 0) != (a0 != 0)) = false := by simpa using c9
        (try (have c9b1 : decide ((t164 == 0) = (a0 != 0)) = true := by simpa using c9))
        (try (have c9b2 : ((t164 == 0) == (a0 != 0)) = true := by simpa using c9))
        -- (c9 is kept)
        (first | rw [c9b0] | (simp only [i64_w, i32_w]; rw [c9b0]) | skip)
        by_cases c10 : t164 = 0
        · rw [if_pos c10] at H
          have c10b0 : (t164 == 0) = true := beq_iff_eq.mpr c10
          have c10b1 : (t164 != 0) = false := bne_eq_false_iff_eq.mpr c10
          have c_ne : a0 ≠ 0 := by intro e_; apply c9; subst e_; simp [c10b0]
          have c_neb : (a0 == 0) = false := beq_eq_false_iff_ne.mpr c_ne
          have c_neb1 : (a0 != 0) = true := bne_iff_ne.mpr c_ne
          clear c10
          replace H := Option.bind_eq_some_iff.mp H
          obtain ⟨t165, A110, H⟩ := H
          replace H : (caulklaw02_GfField.j0 k a0 a1 a2 (t165 != 1)) = some r := H
          have A11 := Aside0.mk A110
          clear A110
          have H' := Aside0.mk H
          clear H
          go_wp2_with (first | (go_at_call 17; (with_reducible refine (gf_Mul.calls a0 t163 t165 _ A11.out).mono ?_); rintro e w' ⟨rfl, ⟨nd, rfl⟩⟩))
          go_meet
          case rel => exact ⟨_, ((t165 != 1)), (by first | rfl | (simp; done) | (simp [*]; done)), H', ⟨by first | omega | exact Nat.le_refl _⟩, ⟨by repeat (first | (with_reducible first | exact HB.out | apply below_alloc | apply pw_below_drewN | apply below_drew1) | exact HB.out)⟩⟩
        · rw [if_neg c10] at H
          have c10b0 : (t164 == 0) = false := beq_eq_false_iff_ne.mpr c10
          have c10b1 : (t164 != 0) = true := bne_iff_ne.mpr c10
          obtain rfl : a0 = 0 := by by_cases e_ : a0 = 0; exact e_; exfalso; apply c9; simp [c10b0, e_]
          have H' := Aside0.mk H
          clear H
          go_wp2
          go_meet
          case rel => exact ⟨_, (false), (by first | rfl | (simp; done) | (simp [*]; done)), H', ⟨by first | omega | exact Nat.le_refl _⟩, ⟨by repeat (first | (with_reducible first | exact HB.out | apply below_alloc | apply pw_below_drewN | apply below_drew1) | exact HB.out)⟩⟩
    case rest =>
      clear HC7
      try clear c1
      try clear p2
      try clear c5
      try clear c9
      try clear c9b0
      try clear c9b1
      try clear c9b2
      try clear c10
      try clear c10b0
      try clear c10b1
      obtain ⟨kq, x30_6, rfl, HA, HJ6, HB⟩ := hcut
      cases kq with
      | zero => exact absurd HA.out (by simp [caulklaw02_GfField.j0])
      | succ kj6 =>
        have H := HA.out
        clear HA
        simp only [caulklaw02_GfField.j0] at H
        by_cases c12 : x30_6 = true
        · subst c12
          have H1 : (none) = some r := by rw [if_pos rfl] at H; exact H
          clear H
          have H := H1
          clear H1
          exact absurd H (by simp)
        · replace c12 := Bool.eq_false_iff.mpr c12
          subst c12
          have H1 : ((gf_Mul.f a0 a1).bind fun t166 => ((gf_Mul.f a1 a0).bind fun t167 => (if t166 = t167 then ((gf_Mul.f a1 a2).bind fun t168 => ((gf_Mul.f a0 t168).bind fun t169 => ((gf_Mul.f a0 a1).bind fun t170 => ((gf_Mul.f t170 a2).bind fun t171 => (if t169 = t171 then ((gf_Mul.f a0 (Go.bits .xor .u8 a1 a2)).bind fun t172 => ((gf_Mul.f a0 a1).bind fun t173 => ((gf_Mul.f a0 a2).bind fun t174 => (if t172 = (Go.bits .xor .u8 t173 t174) then ((gf_Mul.f 1 a0).bind fun t175 => (if t175 = a0 then ((gf_Mul.f a0 a1).bind fun t176 => (if a0 = 0 then (some ((t176 == 0) == true)) else (some ((t176 == 0) == (a1 == 0))))) else (none))) else (none))))) else (none)))))) else (none)))) = some r := by rw [if_neg (show ¬ (false = true) by decide)] at H; exact H
          clear H
          have H := H1
          clear H1
          replace H := Option.bind_eq_some_iff.mp H
          obtain ⟨t166, A130, H⟩ := H
          replace H : ((gf_Mul.f a1 a0).bind fun t167 => (if t166 = t167 then ((gf_Mul.f a1 a2).bind fun t168 => ((gf_Mul.f a0 t168).bind fun t169 => ((gf_Mul.f a0 a1).bind fun t170 => ((gf_Mul.f t170 a2).bind fun t171 => (if t169 = t171 then ((gf_Mul.f a0 (Go.bits .xor .u8 a1 a2)).bind fun t172 => ((gf_Mul.f a0 a1).bind fun t173 => ((gf_Mul.f a0 a2).bind fun t174 => (if t172 = (Go.bits .xor .u8 t173 t174) then ((gf_Mul.f 1 a0).bind fun t175 => (if t175 = a0 then ((gf_Mul.f a0 a1).bind fun t176 => (if a0 = 0 then (some ((t176 == 0) == true)) else (some ((t176 == 0) == (a1 == 0))))) else (none))) else (none))))) else (none)))))) else (none))) = some r := H
          have A13 := Aside0.mk A130
          clear A130
          replace H := Option.bind_eq_some_iff.mp H
          obtain ⟨t167, A140, H⟩ := H
          replace H : (if t166 = t167 then ((gf_Mul.f a1 a2).bind fun t168 => ((gf_Mul.f a0 t168).bind fun t169 => ((gf_Mul.f a0 a1).bind fun t170 => ((gf_Mul.f t170 a2).bind fun t171 => (if t169 = t171 then ((gf_Mul.f a0 (Go.bits .xor .u8 a1 a2)).bind fun t172 => ((gf_Mul.f a0 a1).bind fun t173 => ((gf_Mul.f a0 a2).bind fun t174 => (if t172 = (Go.bits .xor .u8 t173 t174) then ((gf_Mul.f 1 a0).bind fun t175 => (if t175 = a0 then ((gf_Mul.f a0 a1).bind fun t176 => (if a0 = 0 then (some ((t176 == 0) == true)) else (some ((t176 == 0) == (a1 == 0))))) else (none))) else (none))))) else (none)))))) else (none)) = some r := H
          have A14 := Aside0.mk A140
          clear A140
          by_cases c15 : t166 = t167
          · rw [if_pos c15] at H
            have c15b0 : (t166 == t167) = true := beq_iff_eq.mpr c15
            have c15b1 : (t166 != t167) = false := bne_eq_false_iff_eq.mpr c15
            clear c15
            replace H := Option.bind_eq_some_iff.mp H
            obtain ⟨t168, A160, H⟩ := H
            replace H : ((gf_Mul.f a0 t168).bind fun t169 => ((gf_Mul.f a0 a1).bind fun t170 => ((gf_Mul.f t170 a2).bind fun t171 => (if t169 = t171 then ((gf_Mul.f a0 (Go.bits .xor .u8 a1 a2)).bind fun t172 => ((gf_Mul.f a0 a1).bind fun t173 => ((gf_Mul.f a0 a2).bind fun t174 => (if t172 = (Go.bits .xor .u8 t173 t174) then ((gf_Mul.f 1 a0).bind fun t175 => (if t175 = a0 then ((gf_Mul.f a0 a1).bind fun t176 => (if a0 = 0 then (some ((t176 == 0) == true)) else (some ((t176 == 0) == (a1 == 0))))) else (none))) else (none))))) else (none))))) = some r := H
            have A16 := Aside0.mk A160
            clear A160
            replace H := Option.bind_eq_some_iff.mp H
            obtain ⟨t169, A170, H⟩ := H
            replace H : ((gf_Mul.f a0 a1).bind fun t170 => ((gf_Mul.f t170 a2).bind fun t171 => (if t169 = t171 then ((gf_Mul.f a0 (Go.bits .xor .u8 a1 a2)).bind fun t172 => ((gf_Mul.f a0 a1).bind fun t173 => ((gf_Mul.f a0 a2).bind fun t174 => (if t172 = (Go.bits .xor .u8 t173 t174) then ((gf_Mul.f 1 a0).bind fun t175 => (if t175 = a0 then ((gf_Mul.f a0 a1).bind fun t176 => (if a0 = 0 then (some ((t176 == 0) == true)) else (some ((t176 == 0) == (a1 == 0))))) else (none))) else (none))))) else (none)))) = some r := H
            have A17 := Aside0.mk A170
            clear A170
            replace H := Option.bind_eq_some_iff.mp H
            obtain ⟨t170, A180, H⟩ := H
            replace H : ((gf_Mul.f t170 a2).bind fun t171 => (if t169 = t171 then ((gf_Mul.f a0 (Go.bits .xor .u8 a1 a2)).bind fun t172 => ((gf_Mul.f a0 a1).bind fun t173 => ((gf_Mul.f a0 a2).bind fun t174 => (if t172 = (Go.bits .xor .u8 t173 t174) then ((gf_Mul.f 1 a0).bind fun t175 => (if t175 = a0 then ((gf_Mul.f a0 a1).bind fun t176 => (if a0 = 0 then (some ((t176 == 0) == true)) else (some ((t176 == 0) == (a1 == 0))))) else (none))) else (none))))) else (none))) = some r := H
            have A18 := Aside0.mk A180
            clear A180
            replace H := Option.bind_eq_some_iff.mp H
            obtain ⟨t171, A190, H⟩ := H
            replace H : (if t169 = t171 then ((gf_Mul.f a0 (Go.bits .xor .u8 a1 a2)).bind fun t172 => ((gf_Mul.f a0 a1).bind fun t173 => ((gf_Mul.f a0 a2).bind fun t174 => (if t172 = (Go.bits .xor .u8 t173 t174) then ((gf_Mul.f 1 a0).bind fun t175 => (if t175 = a0 then ((gf_Mul.f a0 a1).bind fun t176 => (if a0 = 0 then (some ((t176 == 0) == true)) else (some ((t176 == 0) == (a1 == 0))))) else (none))) else (none))))) else (none)) = some r := H
            have A19 := Aside0.mk A190
            clear A190
            by_cases c20 : t169 = t171
            · rw [if_pos c20] at H
              have c20b0 : (t169 == t171) = true := beq_iff_eq.mpr c20
              have c20b1 : (t169 != t171) = false := bne_eq_false_iff_eq.mpr c20
              clear c20
              replace H := Option.bind_eq_some_iff.mp H
              obtain ⟨t172, A210, H⟩ := H
              replace H : ((gf_Mul.f a0 a1).bind fun t173 => ((gf_Mul.f a0 a2).bind fun t174 => (if t172 = (Go.bits .xor .u8 t173 t174) then ((gf_Mul.f 1 a0).bind fun t175 => (if t175 = a0 then ((gf_Mul.f a0 a1).bind fun t176 => (if a0 = 0 then (some ((t176 == 0) == true)) else (some ((t176 == 0) == (a1 == 0))))) else (none))) else (none)))) = some r := H
              have A21 := Aside0.mk A210
              clear A210
              replace H := Option.bind_eq_some_iff.mp H
              obtain ⟨t173, A220, H⟩ := H
              replace H : ((gf_Mul.f a0 a2).bind fun t174 => (if t172 = (Go.bits .xor .u8 t173 t174) then ((gf_Mul.f 1 a0).bind fun t175 => (if t175 = a0 then ((gf_Mul.f a0 a1).bind fun t176 => (if a0 = 0 then (some ((t176 == 0) == true)) else (some ((t176 == 0) == (a1 == 0))))) else (none))) else (none))) = some r := H
              have A22 := Aside0.mk A220
              clear A220
              replace H := Option.bind_eq_some_iff.mp H
              obtain ⟨t174, A230, H⟩ := H
              replace H : (if t172 = (Go.bits .xor .u8 t173 t174) then ((gf_Mul.f 1 a0).bind fun t175 => (if t175 = a0 then ((gf_Mul.f a0 a1).bind fun t176 => (if a0 = 0 then (some ((t176 == 0) == true)) else (some ((t176 == 0) == (a1 == 0))))) else (none))) else (none)) = some r := H
              have A23 := Aside0.mk A230
              clear A230
              by_cases c24 : t172 = (Go.bits .xor .u8 t173 t174)
              · rw [if_pos c24] at H
                have c24b0 : (t172 == (Go.bits .xor .u8 t173 t174)) = true := beq_iff_eq.mpr c24
                have c24b1 : (t172 != (Go.bits .xor .u8 t173 t174)) = false := bne_eq_false_iff_eq.mpr c24
                clear c24
                replace H := Option.bind_eq_some_iff.mp H
                obtain ⟨t175, A250, H⟩ := H
                replace H : (if t175 = a0 then ((gf_Mul.f a0 a1).bind fun t176 => (if a0 = 0 then (some ((t176 == 0) == true)) else (some ((t176 == 0) == (a1 == 0))))) else (none)) = some r := H
                have A25 := Aside0.mk A250
                clear A250
                by_cases c26 : t175 = a0
                · rw [if_pos c26] at H
                  have c26b0 : (t175 == a0) = true := beq_iff_eq.mpr c26
                  have c26b1 : (t175 != a0) = false := bne_eq_false_iff_eq.mpr c26
                  clear c26
                  replace H := Option.bind_eq_some_iff.mp H
                  obtain ⟨t176, A270, H⟩ := H
                  replace H : (if a0 = 0 then (some ((t176 == 0) == true)) else (some ((t176 == 0) == (a1 == 0)))) = some r := H
                  have A27 := Aside0.mk A270
                  clear A270
                  by_cases c28 : a0 = 0
                  · rw [if_pos c28] at H
                    have c28b0 : (a0 == 0) = true := beq_iff_eq.mpr c28
                    have c28b1 : (a0 != 0) = false := bne_eq_false_iff_eq.mpr c28
                    clear c28
                    obtain rfl := Option.some.inj H
                    obtain rfl : t166 = t170 := Option.some.inj (A13.out.symm.trans A18.out)
                    obtain rfl : t166 = t173 := Option.some.inj (A13.out.symm.trans A22.out)
                    obtain rfl : t166 = t176 := Option.some.inj (A13.out.symm.trans A27.out)
                    go_wp2_with (first | ((with_reducible refine gate_callee (f := 17) rfl ?_); refine goesL_ (some 33) rfl rfl Try.func17 (by kernel_rfl) rfl #[.int .u8 a0, .int .u8 a1] rfl (by (try simp only [List.map_toArray, List.map_cons, List.map_nil]); first | done | rfl | (simp only [List.length_drop, List.length_take]; rfl)) ?_; (with_reducible refine (gf_Mul.calls a0 a1 t166 _ A13.out).mono ?_); rintro e w' ⟨rfl, ⟨nd, rfl⟩⟩; refine ⟨_, rfl, ?_⟩) | ((with_reducible refine gate_callee (f := 17) rfl ?_); refine goesL_ (some 36) rfl rfl Try.func17 (by kernel_rfl) rfl #[.int .u8 a1, .int .u8 a0] rfl (by (try simp only [List.map_toArray, List.map_cons, List.map_nil]); first | done | rfl | (simp only [List.length_drop, List.length_take]; rfl)) ?_; (with_reducible refine (gf_Mul.calls a1 a0 t167 _ A14.out).mono ?_); rintro e w' ⟨rfl, ⟨nd, rfl⟩⟩; refine ⟨_, rfl, ?_⟩) | (go_at_call 17; (with_reducible refine (gf_Mul.calls a1 a2 t168 _ A16.out).mono ?_); rintro e w' ⟨rfl, ⟨nd, rfl⟩⟩) | (go_at_call 17; (with_reducible refine (gf_Mul.calls a0 t168 t169 _ A17.out).mono ?_); rintro e w' ⟨rfl, ⟨nd, rfl⟩⟩) | (go_at_call 17; (with_reducible refine (gf_Mul.calls a0 a1 t166 _ A18.out).mono ?_); rintro e w' ⟨rfl, ⟨nd, rfl⟩⟩) | (go_at_call 17; (with_reducible refine (gf_Mul.calls t166 a2 t171 _ A19.out).mono ?_); rintro e w' ⟨rfl, ⟨nd, rfl⟩⟩) | (go_at_call 17; (with_reducible refine (gf_Mul.calls a0 (Go.bits .xor .u8 a1 a2) t172 _ A21.out).mono ?_); rintro e w' ⟨rfl, ⟨nd, rfl⟩⟩) | (go_at_call 17; (with_reducible refine (gf_Mul.calls a0 a1 t166 _ A22.out).mono ?_); rintro e w' ⟨rfl, ⟨nd, rfl⟩⟩) | (go_at_call 17; (with_reducible refine (gf_Mul.calls a0 a2 t174 _ A23.out).mono ?_); rintro e w' ⟨rfl, ⟨nd, rfl⟩⟩) | (go_at_call 17; (with_reducible refine (gf_Mul.calls 1 a0 t175 _ A25.out).mono ?_); rintro e w' ⟨rfl, ⟨nd, rfl⟩⟩) | (go_at_call 17; (with_reducible refine (gf_Mul.calls a0 a1 t166 _ A27.out).mono ?_); rintro e w' ⟨rfl, ⟨nd, rfl⟩⟩))
                    go_ret
                    exact ⟨by first | rfl | (simp [errW_none, errW_some] <;> rfl) | (simp [*, errW_none, errW_some] <;> rfl), by repeat (first | (with_reducible first | exact HB.out | apply below_alloc | apply pw_below_drewN | apply below_drew1) | exact HB.out)⟩
                  · rw [if_neg c28] at H
                    have c28b0 : (a0 == 0) = false := beq_eq_false_iff_ne.mpr c28
                    have c28b1 : (a0 != 0) = true := bne_iff_ne.mpr c28
                    obtain rfl := Option.some.inj H
                    obtain rfl : t166 = t170 := Option.some.inj (A13.out.symm.trans A18.out)
                    obtain rfl : t166 = t173 := Option.some.inj (A13.out.symm.trans A22.out)
                    obtain rfl : t166 = t176 := Option.some.inj (A13.out.symm.trans A27.out)
                    go_wp2_with (first | ((with_reducible refine gate_callee (f := 17) rfl ?_); refine goesL_ (some 33) rfl rfl Try.func17 (by kernel_rfl) rfl #[.int .u8 a0, .int .u8 a1] rfl (by (try simp only [List.map_toArray, List.map_cons, List.map_nil]); first | done | rfl | (simp only [List.length_drop, List.length_take]; rfl)) ?_; (with_reducible refine (gf_Mul.calls a0 a1 t166 _ A13.out).mono ?_); rintro e w' ⟨rfl, ⟨nd, rfl⟩⟩; refine ⟨_, rfl, ?_⟩) | ((with_reducible refine gate_callee (f := 17) rfl ?_); refine goesL_ (some 36) rfl rfl Try.func17 (by kernel_rfl) rfl #[.int .u8 a1, .int .u8 a0] rfl (by (try simp only [List.map_toArray, List.map_cons, List.map_nil]); first | done | rfl | (simp only [List.length_drop, List.length_take]; rfl)) ?_; (with_reducible refine (gf_Mul.calls a1 a0 t167 _ A14.out).mono ?_); rintro e w' ⟨rfl, ⟨nd, rfl⟩⟩; refine ⟨_, rfl, ?_⟩) | (go_at_call 17; (with_reducible refine (gf_Mul.calls a1 a2 t168 _ A16.out).mono ?_); rintro e w' ⟨rfl, ⟨nd, rfl⟩⟩) | (go_at_call 17; (with_reducible refine (gf_Mul.calls a0 t168 t169 _ A17.out).mono ?_); rintro e w' ⟨rfl, ⟨nd, rfl⟩⟩) | (go_at_call 17; (with_reducible refine (gf_Mul.calls a0 a1 t166 _ A18.out).mono ?_); rintro e w' ⟨rfl, ⟨nd, rfl⟩⟩) | (go_at_call 17; (with_reducible refine (gf_Mul.calls t166 a2 t171 _ A19.out).mono ?_); rintro e w' ⟨rfl, ⟨nd, rfl⟩⟩) | (go_at_call 17; (with_reducible refine (gf_Mul.calls a0 (Go.bits .xor .u8 a1 a2) t172 _ A21.out).mono ?_); rintro e w' ⟨rfl, ⟨nd, rfl⟩⟩) | (go_at_call 17; (with_reducible refine (gf_Mul.calls a0 a1 t166 _ A22.out).mono ?_); rintro e w' ⟨rfl, ⟨nd, rfl⟩⟩) | (go_at_call 17; (with_reducible refine (gf_Mul.calls a0 a2 t174 _ A23.out).mono ?_); rintro e w' ⟨rfl, ⟨nd, rfl⟩⟩) | (go_at_call 17; (with_reducible refine (gf_Mul.calls 1 a0 t175 _ A25.out).mono ?_); rintro e w' ⟨rfl, ⟨nd, rfl⟩⟩) | (go_at_call 17; (with_reducible refine (gf_Mul.calls a0 a1 t166 _ A27.out).mono ?_); rintro e w' ⟨rfl, ⟨nd, rfl⟩⟩))
                    go_ret
                    exact ⟨by first | rfl | (simp [errW_none, errW_some] <;> rfl) | (simp [*, errW_none, errW_some] <;> rfl), by repeat (first | (with_reducible first | exact HB.out | apply below_alloc | apply pw_below_drewN | apply below_drew1) | exact HB.out)⟩
                · rw [if_neg c26] at H
                  exact absurd H (by simp)
              · rw [if_neg c24] at H
                exact absurd H (by simp)
            · rw [if_neg c20] at H
              exact absurd H (by simp)
          · rw [if_neg c15] at H
            exact absurd H (by simp)
  · replace c5 := Bool.eq_false_iff.mpr c5
    subst c5
    have H1 : (none) = some r := by rw [if_neg (show ¬ (false = true) by decide)] at H; exact H
    clear H
    have H := H1
    clear H1
    exact absurd H (by simp)

def caulklaw02_GfField.Pure : Prop := ∀ (a0 : Int) (a1 : Int) (a2 : Int), (Lit.int .u8 a0).wf = true → (Lit.int .u8 a1).wf = true → (Lit.int .u8 a2).wf = true → ∃ k, caulklaw02_GfField.f k a0 a1 a2 = some true

/-! ### caulklaw02_GfLogs: function 6 -/
def caulklaw02_GfLogs.j0 : Nat → Int → Int → Bool → Option (Bool)
  | 0, _, _, _ => none
  | k + 1, x0, x1, x38 => if x38 = true then (none) else ((gf_Exp.f (wrap64 (x0))).bind fun t181 => ((gf_Log.f t181).bind fun bt182 => (if bt182.2 = 0 then (if (Int.tmod (wrap64 ((wrap64 (x0)) - bt182.1)) 255) = 0 then ((gf_Exp.f (wrap64 (x1))).bind fun t184 => ((gf_Mul.f t181 t184).bind fun t185 => ((gf_Exp.f (wrap64 ((wrap64 (x0)) + (wrap64 (x1))))).bind fun t186 => (some (t185 == t186))))) else (none)) else (none))))
def caulklaw02_GfLogs.f (k : Nat) (a0 : Int) (a1 : Int) (a2 : Int) : Option (Bool) := (caulklaw02_lives.f).bind fun t177 => (if t177 = true then ((gf_Log.f a2).bind fun bt178 => (if a2 = 0 then (caulklaw02_GfLogs.j0 k a0 a1 false) else (if bt178.2 = 0 then ((gf_Exp.f bt178.1).bind fun t180 => (if t180 = a2 then (if bt178.1 < 0 then (caulklaw02_GfLogs.j0 k a0 a1 true) else (caulklaw02_GfLogs.j0 k a0 a1 (decide (bt178.1 > 254)))) else (caulklaw02_GfLogs.j0 k a0 a1 true))) else (caulklaw02_GfLogs.j0 k a0 a1 true)))) else (none))
theorem caulklaw02_GfLogs.mono_l : ∀ k, (∀ y0 y1 y2, LeO (caulklaw02_GfLogs.j0 k y0 y1 y2) (caulklaw02_GfLogs.j0 (k + 1) y0 y1 y2))
  | 0 => fun _ _ _ r h => by simp [caulklaw02_GfLogs.j0] at h
  | k + 1 => by
    have ih0 := caulklaw02_GfLogs.mono_l k
    · intro y0 y1 y2
      unfold caulklaw02_GfLogs.j0
      repeat' first
      | (with_reducible exact ih0 _ _ _)
      | (with_reducible exact LeO.refl _)
      | (with_reducible exact LeO.none _)
      | (with_reducible refine LeO.ite ?_ ?_)
      | (with_reducible refine LeO.bind ?_ (fun _ => ?_))
      | exact ih0 _ _ _
      | exact LeO.none _
      | refine LeO.ite ?_ ?_
      | refine LeO.bind ?_ (fun _ => ?_)
theorem caulklaw02_GfLogs.mono : ∀ a0 a1 a2 k, LeO (caulklaw02_GfLogs.f k a0 a1 a2) (caulklaw02_GfLogs.f (k + 1) a0 a1 a2) := by
  intro a0 a1 a2 k
  have ih0 := caulklaw02_GfLogs.mono_l k
  unfold caulklaw02_GfLogs.f
  repeat' first
      | (with_reducible exact ih0 _ _ _)
      | (with_reducible exact LeO.refl _)
      | (with_reducible exact LeO.none _)
      | (with_reducible refine LeO.ite ?_ ?_)
      | (with_reducible refine LeO.bind ?_ (fun _ => ?_))
      | exact ih0 _ _ _
      | exact LeO.none _
      | refine LeO.ite ?_ ?_
      | refine LeO.bind ?_ (fun _ => ?_)
set_option maxHeartbeats 8000000 in
set_option maxRecDepth 100000 in
theorem caulklaw02_GfLogs.calls (k : Nat) (a0 : Int) (a1 : Int) (a2 : Int) (r : Bool) (w : World) (h : caulklaw02_GfLogs.f k a0 a1 a2 = some r) :
    Calls Try.prog 6 #[.int .i32 a0, .int .i32 a1, .int .u8 a2] w fun e w' => e = .returned (.bool r) ∧ Below w.heap.size w w' := by
  have HB := Aside0.mk (Below.refl w.heap.size w)
  have H : ((caulklaw02_lives.f).bind fun t177 => (if t177 = true then ((gf_Log.f a2).bind fun bt178 => (if a2 = 0 then (caulklaw02_GfLogs.j0 k a0 a1 false) else (if bt178.2 = 0 then ((gf_Exp.f bt178.1).bind fun t180 => (if t180 = a2 then (if bt178.1 < 0 then (caulklaw02_GfLogs.j0 k a0 a1 true) else (caulklaw02_GfLogs.j0 k a0 a1 (decide (bt178.1 > 254)))) else (caulklaw02_GfLogs.j0 k a0 a1 true))) else (caulklaw02_GfLogs.j0 k a0 a1 true)))) else (none))) = some r := h
  clear h
  replace H := Option.bind_eq_some_iff.mp H
  obtain ⟨t177, A40, H⟩ := H
  replace H : (if t177 = true then ((gf_Log.f a2).bind fun bt178 => (if a2 = 0 then (caulklaw02_GfLogs.j0 k a0 a1 false) else (if bt178.2 = 0 then ((gf_Exp.f bt178.1).bind fun t180 => (if t180 = a2 then (if bt178.1 < 0 then (caulklaw02_GfLogs.j0 k a0 a1 true) else (caulklaw02_GfLogs.j0 k a0 a1 (decide (bt178.1 > 254)))) else (caulklaw02_GfLogs.j0 k a0 a1 true))) else (caulklaw02_GfLogs.j0 k a0 a1 true)))) else (none)) = some r := H
  have A4 := Aside0.mk A40
  clear A40
  by_cases c5 : t177 = true
  · subst c5
    have H1 : ((gf_Log.f a2).bind fun bt178 => (if a2 = 0 then (caulklaw02_GfLogs.j0 k a0 a1 false) else (if bt178.2 = 0 then ((gf_Exp.f bt178.1).bind fun t180 => (if t180 = a2 then (if bt178.1 < 0 then (caulklaw02_GfLogs.j0 k a0 a1 true) else (caulklaw02_GfLogs.j0 k a0 a1 (decide (bt178.1 > 254)))) else (caulklaw02_GfLogs.j0 k a0 a1 true))) else (caulklaw02_GfLogs.j0 k a0 a1 true)))) = some r := by rw [if_pos rfl] at H; exact H
    clear H
    have H := H1
    clear H1
    replace H := Option.bind_eq_some_iff.mp H
    obtain ⟨⟨t178, t179⟩, A60, H⟩ := H
    replace H : (if a2 = 0 then (caulklaw02_GfLogs.j0 k a0 a1 false) else (if t179 = 0 then ((gf_Exp.f t178).bind fun t180 => (if t180 = a2 then (if t178 < 0 then (caulklaw02_GfLogs.j0 k a0 a1 true) else (caulklaw02_GfLogs.j0 k a0 a1 (decide (t178 > 254)))) else (caulklaw02_GfLogs.j0 k a0 a1 true))) else (caulklaw02_GfLogs.j0 k a0 a1 true))) = some r := H
    have A6 := Aside0.mk A60
    clear A60
    have HC7 := Aside0.mk H
    clear H
    go_enter Try.func6, Try.ntmps6
    go_upto_region 4 with (first | ((with_reducible refine gate_callee (f := 16) rfl ?_); refine goesL_ (some 12) rfl rfl Try.func16 (by kernel_rfl) rfl #[] rfl (by (try simp only [List.map_toArray, List.map_cons, List.map_nil]); first | done | rfl | (simp only [List.length_drop, List.length_take]; rfl)) ?_; (with_reducible refine (caulklaw02_lives.calls  true _ A4.out).mono ?_); rintro e w8 ⟨rfl, hb⟩; refine ⟨_, rfl, ?_⟩; have n0_ := Aside0.mk (below_step (by repeat (first | (with_reducible first | exact HB.out | apply below_alloc | apply pw_below_drewN | apply below_drew1) | exact HB.out)) hb); clear HB; have HB := n0_; clear n0_; (try clear hb); (try clear hb2); (try clear hk); (try clear hi)) | ((with_reducible refine gate_callee (f := 14) rfl ?_); refine goesL_ (some 16) rfl rfl Try.func14 (by kernel_rfl) rfl #[.int .u8 a2] rfl (by (try simp only [List.map_toArray, List.map_cons, List.map_nil]); first | done | rfl | (simp only [List.length_drop, List.length_take]; rfl)) ?_; (with_reducible refine (gf_Log.calls a2 t178 t179 _ A6.out).mono ?_); rintro e w9 ⟨rfl, hb⟩; refine ⟨_, rfl, ?_⟩; have n0_ := Aside0.mk (below_step (by repeat (first | (with_reducible first | exact HB.out | apply below_alloc | apply pw_below_drewN | apply below_drew1) | exact HB.out)) hb); clear HB; have HB := n0_; clear n0_; (try clear hb); (try clear hb2); (try clear hk); (try clear hi)))
    (try simp only [Act.put, List.setIfInBounds_toArray, List.set_cons_zero, List.set_cons_succ])
    go_cut [38] (fun v38 wc => ∃ (kq : Nat) (x38_6 : Bool), v38 = .bool x38_6 ∧ Aside0 (caulklaw02_GfLogs.j0 kq a0 a1 x38_6 = some r) ∧ Aside0 (kq ≤ k) ∧ Aside0 (Below w.heap.size w wc))
    case first =>
      have H := HC7.out
      clear HC7
      by_cases c10 : a2 = 0
      · rw [if_pos c10] at H
        have c10b0 : (a2 == 0) = true := beq_iff_eq.mpr c10
        have c10b1 : (a2 != 0) = false := bne_eq_false_iff_eq.mpr c10
        clear c10
        (first | rw [c10b0] | (simp only [i64_w, i32_w]; rw [c10b0]) | skip)
        have H' := Aside0.mk H
        clear H
        go_wp2
        go_meet
        case rel => exact ⟨_, (false), (by first | rfl | (simp; done) | (simp [*]; done)), H', ⟨by first | omega | exact Nat.le_refl _⟩, ⟨by repeat (first | (with_reducible first | exact HB.out | apply below_alloc | apply pw_below_drewN | apply below_drew1) | exact HB.out)⟩⟩
      · rw [if_neg c10] at H
        have c10b0 : (a2 == 0) = false := beq_eq_false_iff_ne.mpr c10
        have c10b1 : (a2 != 0) = true := bne_iff_ne.mpr c10
        (first | rw [c10b0] | (simp only [i64_w, i32_w]; rw [c10b0]) | skip)
        by_cases c11 : t179 = 0
        · rw [if_pos c11] at H
          have c11b0 : (t179 == 0) = true := beq_iff_eq.mpr c11
          have c11b1 : (t179 != 0) = false := bne_eq_false_iff_eq.mpr c11
          clear c11
          replace H := Option.bind_eq_some_iff.mp H
          obtain ⟨t180, A120, H⟩ := H
          replace H : (if t180 = a2 then (if t178 < 0 then (caulklaw02_GfLogs.j0 k a0 a1 true) else (caulklaw02_GfLogs.j0 k a0 a1 (decide (t178 > 254)))) else (caulklaw02_GfLogs.j0 k a0 a1 true)) = some r := H
          have A12 := Aside0.mk A120
          clear A120
          by_cases c13 : t180 = a2
          · rw [if_pos c13] at H
            have c13b0 : (t180 == a2) = true := beq_iff_eq.mpr c13
            have c13b1 : (t180 != a2) = false := bne_eq_false_iff_eq.mpr c13
            clear c13
            by_cases c14 : t178 < 0
            · rw [if_pos c14] at H
              have c14b0 : decide (t178 < 0) = true := decide_eq_true c14
              clear c14
              have H' := Aside0.mk H
              clear H
              go_wp2_with (first | (go_at_call 19; (with_reducible refine (gf_Exp.calls t178 t180 _ A12.out).mono ?_); rintro e w' ⟨rfl, ⟨nd, rfl⟩⟩))
              go_meet
              case rel => exact ⟨_, (true), (by first | rfl | (simp; done) | (simp [*]; done)), H', ⟨by first | omega | exact Nat.le_refl _⟩, ⟨by repeat (first | (with_reducible first | exact HB.out | apply below_alloc | apply pw_below_drewN | apply below_drew1) | exact HB.out)⟩⟩
            · rw [if_neg c14] at H
              have c14b0 : decide (t178 < 0) = false := decide_eq_false c14
              clear c14
              have H' := Aside0.mk H
              clear H
              go_wp2_with (first | (go_at_call 19; (with_reducible refine (gf_Exp.calls t178 t180 _ A12.out).mono ?_); rintro e w' ⟨rfl, ⟨nd, rfl⟩⟩))
              go_meet
              case rel => exact ⟨_, (decide (t178 > 254)), (by first | rfl | (simp; done) | (simp [*]; done)), H', ⟨by first | omega | exact Nat.le_refl _⟩, ⟨by repeat (first | (with_reducible first | exact HB.out | apply below_alloc | apply pw_below_drewN | apply below_drew1) | exact HB.out)⟩⟩
          · rw [if_neg c13] at H
            have c13b0 : (t180 == a2) = false := beq_eq_false_iff_ne.mpr c13
            have c13b1 : (t180 != a2) = true := bne_iff_ne.mpr c13
            have H' := Aside0.mk H
            clear H
            go_wp2_with (first | (go_at_call 19; (with_reducible refine (gf_Exp.calls t178 t180 _ A12.out).mono ?_); rintro e w' ⟨rfl, ⟨nd, rfl⟩⟩))
            go_meet
            case rel => exact ⟨_, (true), (by first | rfl | (simp; done) | (simp [*]; done)), H', ⟨by first | omega | exact Nat.le_refl _⟩, ⟨by repeat (first | (with_reducible first | exact HB.out | apply below_alloc | apply pw_below_drewN | apply below_drew1) | exact HB.out)⟩⟩
        · rw [if_neg c11] at H
          have c11b0 : (t179 == 0) = false := beq_eq_false_iff_ne.mpr c11
          have c11b1 : (t179 != 0) = true := bne_iff_ne.mpr c11
          have H' := Aside0.mk H
          clear H
          go_wp2
          go_meet
          case rel => exact ⟨_, (true), (by first | rfl | (simp; done) | (simp [*]; done)), H', ⟨by first | omega | exact Nat.le_refl _⟩, ⟨by repeat (first | (with_reducible first | exact HB.out | apply below_alloc | apply pw_below_drewN | apply below_drew1) | exact HB.out)⟩⟩
    case rest =>
      clear HC7
      try clear c1
      try clear p2
      try clear c5
      try clear c6
      try clear c10
      try clear c10b0
      try clear c10b1
      try clear c11
      try clear c11b0
      try clear c11b1
      try clear c13
      try clear c13b0
      try clear c13b1
      try clear c14
      try clear c14b0
      obtain ⟨kq, x38_6, rfl, HA, HJ6, HB⟩ := hcut
      cases kq with
      | zero => exact absurd HA.out (by simp [caulklaw02_GfLogs.j0])
      | succ kj6 =>
        have H := HA.out
        clear HA
        simp only [caulklaw02_GfLogs.j0] at H
        by_cases c15 : x38_6 = true
        · subst c15
          have H1 : (none) = some r := by rw [if_pos rfl] at H; exact H
          clear H
          have H := H1
          clear H1
          exact absurd H (by simp)
        · replace c15 := Bool.eq_false_iff.mpr c15
          subst c15
          have H1 : ((gf_Exp.f (wrap64 (a0))).bind fun t181 => ((gf_Log.f t181).bind fun bt182 => (if bt182.2 = 0 then (if (Int.tmod (wrap64 ((wrap64 (a0)) - bt182.1)) 255) = 0 then ((gf_Exp.f (wrap64 (a1))).bind fun t184 => ((gf_Mul.f t181 t184).bind fun t185 => ((gf_Exp.f (wrap64 ((wrap64 (a0)) + (wrap64 (a1))))).bind fun t186 => (some (t185 == t186))))) else (none)) else (none)))) = some r := by rw [if_neg (show ¬ (false = true) by decide)] at H; exact H
          clear H
          have H := H1
          clear H1
          replace H := Option.bind_eq_some_iff.mp H
          obtain ⟨t181, A160, H⟩ := H
          replace H : ((gf_Log.f t181).bind fun bt182 => (if bt182.2 = 0 then (if (Int.tmod (wrap64 ((wrap64 (a0)) - bt182.1)) 255) = 0 then ((gf_Exp.f (wrap64 (a1))).bind fun t184 => ((gf_Mul.f t181 t184).bind fun t185 => ((gf_Exp.f (wrap64 ((wrap64 (a0)) + (wrap64 (a1))))).bind fun t186 => (some (t185 == t186))))) else (none)) else (none))) = some r := H
          have A16 := Aside0.mk A160
          clear A160
          replace H := Option.bind_eq_some_iff.mp H
          obtain ⟨⟨t182, t183⟩, A170, H⟩ := H
          replace H : (if t183 = 0 then (if (Int.tmod (wrap64 ((wrap64 (a0)) - t182)) 255) = 0 then ((gf_Exp.f (wrap64 (a1))).bind fun t184 => ((gf_Mul.f t181 t184).bind fun t185 => ((gf_Exp.f (wrap64 ((wrap64 (a0)) + (wrap64 (a1))))).bind fun t186 => (some (t185 == t186))))) else (none)) else (none)) = some r := H
          have A17 := Aside0.mk A170
          clear A170
          by_cases c18 : t183 = 0
          · rw [if_pos c18] at H
            have c18b0 : (t183 == 0) = true := beq_iff_eq.mpr c18
            have c18b1 : (t183 != 0) = false := bne_eq_false_iff_eq.mpr c18
            clear c18
            by_cases c19 : (Int.tmod (wrap64 ((wrap64 (a0)) - t182)) 255) = 0
            · rw [if_pos c19] at H
              have c19b0 : ((Int.tmod (wrap64 ((wrap64 (a0)) - t182)) 255) == 0) = true := beq_iff_eq.mpr c19
              have c19b1 : ((Int.tmod (wrap64 ((wrap64 (a0)) - t182)) 255) != 0) = false := bne_eq_false_iff_eq.mpr c19
              clear c19
              replace H := Option.bind_eq_some_iff.mp H
              obtain ⟨t184, A200, H⟩ := H
              replace H : ((gf_Mul.f t181 t184).bind fun t185 => ((gf_Exp.f (wrap64 ((wrap64 (a0)) + (wrap64 (a1))))).bind fun t186 => (some (t185 == t186)))) = some r := H
              have A20 := Aside0.mk A200
              clear A200
              replace H := Option.bind_eq_some_iff.mp H
              obtain ⟨t185, A210, H⟩ := H
              replace H : ((gf_Exp.f (wrap64 ((wrap64 (a0)) + (wrap64 (a1))))).bind fun t186 => (some (t185 == t186))) = some r := H
              have A21 := Aside0.mk A210
              clear A210
              replace H := Option.bind_eq_some_iff.mp H
              obtain ⟨t186, A220, H⟩ := H
              replace H : (some (t185 == t186)) = some r := H
              have A22 := Aside0.mk A220
              clear A220
              obtain rfl := Option.some.inj H
              go_wp2_with (first | ((with_reducible refine gate_callee (f := 19) rfl ?_); refine goesL_ (some 41) rfl rfl Try.func19 (by kernel_rfl) rfl #[.int .i64 (wrap64 (a0))] rfl (by (try simp only [List.map_toArray, List.map_cons, List.map_nil]); first | done | rfl | (simp only [List.length_drop, List.length_take]; rfl)) ?_; (with_reducible refine (gf_Exp.calls (wrap64 (a0)) t181 _ A16.out).mono ?_); rintro e w' ⟨rfl, ⟨nd, rfl⟩⟩; refine ⟨_, rfl, ?_⟩) | ((with_reducible refine gate_callee (f := 14) rfl ?_); refine goesL_ (some 44) rfl rfl Try.func14 (by kernel_rfl) rfl #[.int .u8 t181] rfl (by (try simp only [List.map_toArray, List.map_cons, List.map_nil]); first | done | rfl | (simp only [List.length_drop, List.length_take]; rfl)) ?_; (with_reducible refine (gf_Log.calls t181 t182 t183 _ A17.out).mono ?_); rintro e w23 ⟨rfl, hb⟩; refine ⟨_, rfl, ?_⟩; have n0_ := Aside0.mk (below_step (by repeat (first | (with_reducible first | exact HB.out | apply below_alloc | apply pw_below_drewN | apply below_drew1) | exact HB.out)) hb); clear HB; have HB := n0_; clear n0_; (try clear hb); (try clear hb2); (try clear hk); (try clear hi)) | (go_at_call 19; (with_reducible refine (gf_Exp.calls (wrap64 (a1)) t184 _ A20.out).mono ?_); rintro e w' ⟨rfl, ⟨nd, rfl⟩⟩) | (go_at_call 17; (with_reducible refine (gf_Mul.calls t181 t184 t185 _ A21.out).mono ?_); rintro e w' ⟨rfl, ⟨nd, rfl⟩⟩) | (go_at_call 19; (with_reducible refine (gf_Exp.calls (wrap64 ((wrap64 (a0)) + (wrap64 (a1)))) t186 _ A22.out).mono ?_); rintro e w' ⟨rfl, ⟨nd, rfl⟩⟩))
              go_ret
              exact ⟨by first | rfl | (simp [errW_none, errW_some] <;> rfl) | (simp [*, errW_none, errW_some] <;> rfl), by repeat (first | (with_reducible first | exact HB.out | apply below_alloc | apply pw_below_drewN | apply below_drew1) | exact HB.out)⟩
            · rw [if_neg c19] at H
              exact absurd H (by simp)
          · rw [if_neg c18] at H
            exact absurd H (by simp)
  · replace c5 := Bool.eq_false_iff.mpr c5
    subst c5
    have H1 : (none) = some r := by rw [if_neg (show ¬ (false = true) by decide)] at H; exact H
    clear H
    have H := H1
    clear H1
    exact absurd H (by simp)

def caulklaw02_GfLogs.Pure : Prop := ∀ (a0 : Int) (a1 : Int) (a2 : Int), (Lit.int .i32 a0).wf = true → (Lit.int .i32 a1).wf = true → (Lit.int .u8 a2).wf = true → ∃ k, caulklaw02_GfLogs.f k a0 a1 a2 = some true

end Go.Proofs.Ytgiljibkjccgfab.G
