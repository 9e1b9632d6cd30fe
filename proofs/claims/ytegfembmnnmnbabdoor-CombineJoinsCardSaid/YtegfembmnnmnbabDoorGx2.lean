-- Written by a program of this session over the print of the translation (its own patch, foreign contracts, cut ways): not trusted: Lean checks it.
import Derived.Test.YtegfembmnnmnbabDoorGx0
import Derived.Test.YtegfembmnnmnbabDoorGx1
namespace Go.Proofs.YtegfembmnnmnbabDoor.G
open Go.RowKit Go.Proofs.YtegfembmnnmnbabDoorW.PrintWords Go.Proofs.YtegfembmnnmnbabDoorW.PrintLast Go.Proofs.YtegfembmnnmnbabDoorW.PrintMore
attribute [local go_sem] max2_int min2_int max_two min_two max_three min_three max_four min_four   -- for this text's walks alone
set_option linter.unusedVariables false
set_option linter.unusedSimpArgs false

/-! ### caulklaw33_CombineJoins: function 3 -/
def caulklaw33_CombineJoins.j0 : Nat → ByteArray → ByteArray → Bool → Option (Bool)
  | 0, _, _, _ => none
  | k + 1, x0, x1, x18 => if x18 = true then (some true) else ((crc_Sum.f x0).bind fun t136 => ((crc_Sum.f x1).bind fun t137 => ((combine_Join.f k t136 t137 (x1.size : Int)).bind fun bt138 => (if x0.size + x1.size ≤ 9223372036854775807 then ((crc_Sum.f (x0 ++ x1)).bind fun t140 => ((crc_Sum.f x1).bind fun t141 => ((combine_Head.f k t140 t141 (x1.size : Int)).bind fun bt142 => (if bt138.2 = 0 then ((crc_Sum.f (x0 ++ x1)).bind fun t144 => (if bt138.1 = t144 then (if bt142.2 = 0 then ((crc_Sum.f x0).bind fun t145 => (some (bt142.1 == t145))) else (none)) else (none))) else (none))))) else (none)))))
def caulklaw33_CombineJoins.f (k : Nat) (a0 : ByteArray) (a1 : ByteArray) : Option (Bool) := (caulklaw33_lives.f k).bind fun t135 => (if t135 = true then (if (a0.size : Int) > 16384 then (caulklaw33_CombineJoins.j0 k a0 a1 true) else (caulklaw33_CombineJoins.j0 k a0 a1 (decide ((a1.size : Int) > 16384)))) else (none))
theorem caulklaw33_CombineJoins.mono_l : ∀ k, (∀ y0 y1 y2, LeO (caulklaw33_CombineJoins.j0 k y0 y1 y2) (caulklaw33_CombineJoins.j0 (k + 1) y0 y1 y2))
  | 0 => fun _ _ _ r h => by simp [caulklaw33_CombineJoins.j0] at h
  | k + 1 => by
    have ih0 := caulklaw33_CombineJoins.mono_l k
    · intro y0 y1 y2
      unfold caulklaw33_CombineJoins.j0
      repeat' first
      | (with_reducible exact ih0 _ _ _)
      | (with_reducible exact caulklaw33_lives.mono _)
      | (with_reducible exact combine_Head.mono _ _ _ _)
      | (with_reducible exact combine_Join.mono _ _ _ _)
      | (with_reducible exact LeO.refl _)
      | (with_reducible exact LeO.none _)
      | (with_reducible refine LeO.ite ?_ ?_)
      | (with_reducible refine LeO.bind ?_ (fun _ => ?_))
      | exact ih0 _ _ _
      | exact caulklaw33_lives.mono _
      | exact combine_Head.mono _ _ _ _
      | exact combine_Join.mono _ _ _ _
      | exact LeO.none _
      | refine LeO.ite ?_ ?_
      | refine LeO.bind ?_ (fun _ => ?_)
theorem caulklaw33_CombineJoins.mono : ∀ a0 a1 k, LeO (caulklaw33_CombineJoins.f k a0 a1) (caulklaw33_CombineJoins.f (k + 1) a0 a1) := by
  intro a0 a1 k
  have ih0 := caulklaw33_CombineJoins.mono_l k
  unfold caulklaw33_CombineJoins.f
  repeat' first
      | (with_reducible exact ih0 _ _ _)
      | (with_reducible exact caulklaw33_lives.mono _)
      | (with_reducible exact combine_Head.mono _ _ _ _)
      | (with_reducible exact combine_Join.mono _ _ _ _)
      | (with_reducible exact LeO.refl _)
      | (with_reducible exact LeO.none _)
      | (with_reducible refine LeO.ite ?_ ?_)
      | (with_reducible refine LeO.bind ?_ (fun _ => ?_))
      | exact ih0 _ _ _
      | exact caulklaw33_lives.mono _
      | exact combine_Head.mono _ _ _ _
      | exact combine_Join.mono _ _ _ _
      | exact LeO.none _
      | refine LeO.ite ?_ ?_
      | refine LeO.bind ?_ (fun _ => ?_)
set_option maxHeartbeats 8000000 in
set_option maxRecDepth 100000 in
theorem caulklaw33_CombineJoins.calls (k : Nat) (a0 : ByteArray) (a1 : ByteArray) (r : Bool) (w : World) (hG : GT w) (h : caulklaw33_CombineJoins.f k a0 a1 = some r) :
    Calls Tryd.prog 3 #[.string a0, .string a1] w fun e w' => e = .returned (.bool r) ∧ Drawn0 w w' := by
  have HG := Aside0.mk hG
  clear hG
  have H : ((caulklaw33_lives.f k).bind fun t135 => (if t135 = true then (if (a0.size : Int) > 16384 then (caulklaw33_CombineJoins.j0 k a0 a1 true) else (caulklaw33_CombineJoins.j0 k a0 a1 (decide ((a1.size : Int) > 16384)))) else (none))) = some r := h
  clear h
  replace H := Option.bind_eq_some_iff.mp H
  obtain ⟨t135, A30, H⟩ := H
  replace H : (if t135 = true then (if (a0.size : Int) > 16384 then (caulklaw33_CombineJoins.j0 k a0 a1 true) else (caulklaw33_CombineJoins.j0 k a0 a1 (decide ((a1.size : Int) > 16384)))) else (none)) = some r := H
  have A3 := Aside0.mk A30
  clear A30
  by_cases c4 : t135 = true
  · subst c4
    have H1 : (if (a0.size : Int) > 16384 then (caulklaw33_CombineJoins.j0 k a0 a1 true) else (caulklaw33_CombineJoins.j0 k a0 a1 (decide ((a1.size : Int) > 16384)))) = some r := by rw [if_pos rfl] at H; exact H
    clear H
    have H := H1
    clear H1
    have HC5 := Aside0.mk H
    clear H
    go_enter Tryd.func3, Tryd.ntmps3
    go_upto_region 3 with (first | ((with_reducible refine gate_callee (f := 6) rfl ?_); refine goesL_ (some 9) rfl rfl Tryd.func6 (by kernel_rfl) rfl #[] rfl (by (try simp only [List.map_toArray, List.map_cons, List.map_nil]); first | done | rfl | (simp only [List.length_drop, List.length_take]; rfl)) ?_; (with_reducible refine (caulklaw33_lives.calls k  true _ ?side1 A3.out).mono ?_); (case side1 => repeat (first | exact HG.out | apply GT.drewN | apply GT.drew)); rintro e w' ⟨rfl, ⟨nd, rfl⟩⟩; refine ⟨_, rfl, ?_⟩))
    (try simp only [Act.put, List.setIfInBounds_toArray, List.set_cons_zero, List.set_cons_succ])
    go_cut [18] (fun v18 wc => ∃ (kq : Nat) (x18_4 : Bool), v18 = .bool x18_4 ∧ Aside0 (caulklaw33_CombineJoins.j0 kq a0 a1 x18_4 = some r) ∧ Aside0 (kq ≤ k) ∧ Drawn0 w wc)
    case first =>
      have H := HC5.out
      clear HC5
      by_cases c6 : (a0.size : Int) > 16384
      · rw [if_pos c6] at H
        have c6b0 : decide (16384 < (a0.size : Int)) = true := decide_eq_true c6
        have c6b1 : decide (16384 < a0.size) = true := decide_eq_true (by omega)
        clear c6
        (first | rw [c6b0] | (simp only [i64_w, i32_w]; rw [c6b0]) | skip)
        have H' := Aside0.mk H
        clear H
        go_wp2
        go_meet
        case rel => exact ⟨_, (true), (by first | rfl | (simp; done) | (simp [*]; done)), H', ⟨by first | omega | exact Nat.le_refl _⟩, by repeat (first | exact Drawn0.refl _ | apply Drawn0.step)⟩
      · rw [if_neg c6] at H
        have c6b0 : decide (16384 < (a0.size : Int)) = false := decide_eq_false c6
        have c6b1 : decide (16384 < a0.size) = false := decide_eq_false (by omega)
        clear c6
        (first | rw [c6b0] | (simp only [i64_w, i32_w]; rw [c6b0]) | skip)
        have H' := Aside0.mk H
        clear H
        go_wp2
        go_meet
        case rel => exact ⟨_, (decide ((a1.size : Int) > 16384)), (by first | rfl | (simp; done) | (simp [*]; done)), H', ⟨by first | omega | exact Nat.le_refl _⟩, by repeat (first | exact Drawn0.refl _ | apply Drawn0.step)⟩
    case rest =>
      clear HC5
      try clear p2
      try clear c3
      try clear c4
      try clear c6
      try clear c6b0
      try clear c6b1
      obtain ⟨kq, x18_4, rfl, HA, HJ4, ⟨mc4, rfl⟩⟩ := hcut
      cases kq with
      | zero => exact absurd HA.out (by simp [caulklaw33_CombineJoins.j0])
      | succ kj4 =>
        have H := HA.out
        clear HA
        simp only [caulklaw33_CombineJoins.j0] at H
        by_cases c7 : x18_4 = true
        · subst c7
          have H1 : (some true) = some r := by rw [if_pos rfl] at H; exact H
          clear H
          have H := H1
          clear H1
          obtain rfl := Option.some.inj H
          go_wp2
          go_ret
          exact ⟨by first | rfl | (simp; done) | (simp [*]; done), by repeat (first | exact Drawn0.refl _ | apply Drawn0.step)⟩
        · replace c7 := Bool.eq_false_iff.mpr c7
          subst c7
          have H1 : ((crc_Sum.f a0).bind fun t136 => ((crc_Sum.f a1).bind fun t137 => ((combine_Join.f kj4 t136 t137 (a1.size : Int)).bind fun bt138 => (if a0.size + a1.size ≤ 9223372036854775807 then ((crc_Sum.f (a0 ++ a1)).bind fun t140 => ((crc_Sum.f a1).bind fun t141 => ((combine_Head.f kj4 t140 t141 (a1.size : Int)).bind fun bt142 => (if bt138.2 = 0 then ((crc_Sum.f (a0 ++ a1)).bind fun t144 => (if bt138.1 = t144 then (if bt142.2 = 0 then ((crc_Sum.f a0).bind fun t145 => (some (bt142.1 == t145))) else (none)) else (none))) else (none))))) else (none))))) = some r := by rw [if_neg (show ¬ (false = true) by decide)] at H; exact H
          clear H
          have H := H1
          clear H1
          replace H := Option.bind_eq_some_iff.mp H
          obtain ⟨t136, A80, H⟩ := H
          replace H : ((crc_Sum.f a1).bind fun t137 => ((combine_Join.f kj4 t136 t137 (a1.size : Int)).bind fun bt138 => (if a0.size + a1.size ≤ 9223372036854775807 then ((crc_Sum.f (a0 ++ a1)).bind fun t140 => ((crc_Sum.f a1).bind fun t141 => ((combine_Head.f kj4 t140 t141 (a1.size : Int)).bind fun bt142 => (if bt138.2 = 0 then ((crc_Sum.f (a0 ++ a1)).bind fun t144 => (if bt138.1 = t144 then (if bt142.2 = 0 then ((crc_Sum.f a0).bind fun t145 => (some (bt142.1 == t145))) else (none)) else (none))) else (none))))) else (none)))) = some r := H
          have A8 := Aside0.mk A80
          clear A80
          replace H := Option.bind_eq_some_iff.mp H
          obtain ⟨t137, A90, H⟩ := H
          replace H : ((combine_Join.f kj4 t136 t137 (a1.size : Int)).bind fun bt138 => (if a0.size + a1.size ≤ 9223372036854775807 then ((crc_Sum.f (a0 ++ a1)).bind fun t140 => ((crc_Sum.f a1).bind fun t141 => ((combine_Head.f kj4 t140 t141 (a1.size : Int)).bind fun bt142 => (if bt138.2 = 0 then ((crc_Sum.f (a0 ++ a1)).bind fun t144 => (if bt138.1 = t144 then (if bt142.2 = 0 then ((crc_Sum.f a0).bind fun t145 => (some (bt142.1 == t145))) else (none)) else (none))) else (none))))) else (none))) = some r := H
          have A9 := Aside0.mk A90
          clear A90
          replace H := Option.bind_eq_some_iff.mp H
          obtain ⟨⟨t138, t139⟩, A100, H⟩ := H
          replace H : (if a0.size + a1.size ≤ 9223372036854775807 then ((crc_Sum.f (a0 ++ a1)).bind fun t140 => ((crc_Sum.f a1).bind fun t141 => ((combine_Head.f kj4 t140 t141 (a1.size : Int)).bind fun bt142 => (if t139 = 0 then ((crc_Sum.f (a0 ++ a1)).bind fun t144 => (if t138 = t144 then (if bt142.2 = 0 then ((crc_Sum.f a0).bind fun t145 => (some (bt142.1 == t145))) else (none)) else (none))) else (none))))) else (none)) = some r := H
          have A10 := Aside0.mk A100
          clear A100
          by_cases c11 : a0.size + a1.size ≤ 9223372036854775807
          · rw [if_pos c11] at H
            have c11b0 := eq_true c11
            have c11b1 : decide (a0.size + a1.size ≤ 9223372036854775807) = true := decide_eq_true c11
            try have c11b2 : (9223372036854775807 < a0.size + a1.size) = False := eq_false (Nat.not_lt.2 c11)
            replace H := Option.bind_eq_some_iff.mp H
            obtain ⟨t140, A120, H⟩ := H
            replace H : ((crc_Sum.f a1).bind fun t141 => ((combine_Head.f kj4 t140 t141 (a1.size : Int)).bind fun bt142 => (if t139 = 0 then ((crc_Sum.f (a0 ++ a1)).bind fun t144 => (if t138 = t144 then (if bt142.2 = 0 then ((crc_Sum.f a0).bind fun t145 => (some (bt142.1 == t145))) else (none)) else (none))) else (none)))) = some r := H
            have A12 := Aside0.mk A120
            clear A120
            replace H := Option.bind_eq_some_iff.mp H
            obtain ⟨t141, A130, H⟩ := H
            replace H : ((combine_Head.f kj4 t140 t141 (a1.size : Int)).bind fun bt142 => (if t139 = 0 then ((crc_Sum.f (a0 ++ a1)).bind fun t144 => (if t138 = t144 then (if bt142.2 = 0 then ((crc_Sum.f a0).bind fun t145 => (some (bt142.1 == t145))) else (none)) else (none))) else (none))) = some r := H
            have A13 := Aside0.mk A130
            clear A130
            replace H := Option.bind_eq_some_iff.mp H
            obtain ⟨⟨t142, t143⟩, A140, H⟩ := H
            replace H : (if t139 = 0 then ((crc_Sum.f (a0 ++ a1)).bind fun t144 => (if t138 = t144 then (if t143 = 0 then ((crc_Sum.f a0).bind fun t145 => (some (t142 == t145))) else (none)) else (none))) else (none)) = some r := H
            have A14 := Aside0.mk A140
            clear A140
            by_cases c15 : t139 = 0
            · rw [if_pos c15] at H
              have c15b0 : (t139 == 0) = true := beq_iff_eq.mpr c15
              have c15b1 : (t139 != 0) = false := bne_eq_false_iff_eq.mpr c15
              clear c15
              replace H := Option.bind_eq_some_iff.mp H
              obtain ⟨t144, A160, H⟩ := H
              replace H : (if t138 = t144 then (if t143 = 0 then ((crc_Sum.f a0).bind fun t145 => (some (t142 == t145))) else (none)) else (none)) = some r := H
              have A16 := Aside0.mk A160
              clear A160
              by_cases c17 : t138 = t144
              · rw [if_pos c17] at H
                have c17b0 : (t138 == t144) = true := beq_iff_eq.mpr c17
                have c17b1 : (t138 != t144) = false := bne_eq_false_iff_eq.mpr c17
                clear c17
                by_cases c18 : t143 = 0
                · rw [if_pos c18] at H
                  have c18b0 : (t143 == 0) = true := beq_iff_eq.mpr c18
                  have c18b1 : (t143 != 0) = false := bne_eq_false_iff_eq.mpr c18
                  clear c18
                  replace H := Option.bind_eq_some_iff.mp H
                  obtain ⟨t145, A190, H⟩ := H
                  replace H : (some (t142 == t145)) = some r := H
                  have A19 := Aside0.mk A190
                  clear A190
                  obtain rfl := Option.some.inj H
                  go_wp2_with (first | ((with_reducible refine gate_bin rfl ?_); first | (refine step_val (v := .bool true) (by rfl) (by first | (go_simp; done) | (go_simp; rfl)) ?_) | (refine step_val (v := .bool false) (by rfl) (by first | (go_simp; done) | (go_simp; rfl)) ?_)) | ((with_reducible refine gate_store rfl ?_); refine step_unit (by rfl) ?hst ?_; (case hst => go_simp; rfl)) | ((with_reducible refine gate_callee (f := 8) rfl ?_); refine goesL_ (some 21) rfl rfl Tryd.func8 (by kernel_rfl) rfl #[.string a0] rfl (by (try simp only [List.map_toArray, List.map_cons, List.map_nil]); first | done | rfl | (simp only [List.length_drop, List.length_take]; rfl)) ?_; (with_reducible refine (crc_Sum.calls a0 t136 _ ?side1 A8.out).mono ?_); (case side1 => repeat (first | exact HG.out | apply GT.drewN | apply GT.drew)); rintro e w' ⟨rfl, ⟨nd, rfl⟩⟩; refine ⟨_, rfl, ?_⟩) | ((with_reducible refine gate_callee (f := 8) rfl ?_); refine goesL_ (some 23) rfl rfl Tryd.func8 (by kernel_rfl) rfl #[.string a1] rfl (by (try simp only [List.map_toArray, List.map_cons, List.map_nil]); first | done | rfl | (simp only [List.length_drop, List.length_take]; rfl)) ?_; (with_reducible refine (crc_Sum.calls a1 t137 _ ?side1 A9.out).mono ?_); (case side1 => repeat (first | exact HG.out | apply GT.drewN | apply GT.drew)); rintro e w' ⟨rfl, ⟨nd, rfl⟩⟩; refine ⟨_, rfl, ?_⟩) | ((with_reducible refine gate_callee (f := 7) rfl ?_); refine goesL_ (some 26) rfl rfl Tryd.func7 (by kernel_rfl) rfl #[.int .u32 t136, .int .u32 t137, .int .i64 (a1.size : Int)] rfl (by (try simp only [List.map_toArray, List.map_cons, List.map_nil]); first | done | rfl | (simp only [List.length_drop, List.length_take]; rfl)) ?_; (with_reducible refine (combine_Join.calls kj4 t136 t137 (a1.size : Int) t138 t139 _ A10.out).mono ?_); rintro e w' ⟨rfl, ⟨nd, rfl⟩⟩; refine ⟨_, rfl, ?_⟩) | ((with_reducible refine gate_callee (f := 8) rfl ?_); refine goesL_ (some 33) rfl rfl Tryd.func8 (by kernel_rfl) rfl #[.string (a0 ++ a1)] rfl (by (try simp only [List.map_toArray, List.map_cons, List.map_nil]); first | done | rfl | (simp only [List.length_drop, List.length_take]; rfl)) ?_; (with_reducible refine (crc_Sum.calls (a0 ++ a1) t140 _ ?side1 A12.out).mono ?_); (case side1 => repeat (first | exact HG.out | apply GT.drewN | apply GT.drew)); rintro e w' ⟨rfl, ⟨nd, rfl⟩⟩; refine ⟨_, rfl, ?_⟩) | ((with_reducible refine gate_callee (f := 8) rfl ?_); refine goesL_ (some 35) rfl rfl Tryd.func8 (by kernel_rfl) rfl #[.string a1] rfl (by (try simp only [List.map_toArray, List.map_cons, List.map_nil]); first | done | rfl | (simp only [List.length_drop, List.length_take]; rfl)) ?_; (with_reducible refine (crc_Sum.calls a1 t141 _ ?side1 A13.out).mono ?_); (case side1 => repeat (first | exact HG.out | apply GT.drewN | apply GT.drew)); rintro e w' ⟨rfl, ⟨nd, rfl⟩⟩; refine ⟨_, rfl, ?_⟩) | ((with_reducible refine gate_callee (f := 9) rfl ?_); refine goesL_ (some 38) rfl rfl Tryd.func9 (by kernel_rfl) rfl #[.int .u32 t140, .int .u32 t141, .int .i64 (a1.size : Int)] rfl (by (try simp only [List.map_toArray, List.map_cons, List.map_nil]); first | done | rfl | (simp only [List.length_drop, List.length_take]; rfl)) ?_; (with_reducible refine (combine_Head.calls kj4 t140 t141 (a1.size : Int) t142 t143 _ A14.out).mono ?_); rintro e w' ⟨rfl, ⟨nd, rfl⟩⟩; refine ⟨_, rfl, ?_⟩) | (go_at_call 8; (with_reducible refine (crc_Sum.calls (a0 ++ a1) t144 _ ?side1 A16.out).mono ?_); (case side1 => repeat (first | exact HG.out | apply GT.drewN | apply GT.drew)); rintro e w' ⟨rfl, ⟨nd, rfl⟩⟩) | (go_at_call 8; (with_reducible refine (crc_Sum.calls a0 t145 _ ?side1 A19.out).mono ?_); (case side1 => repeat (first | exact HG.out | apply GT.drewN | apply GT.drew)); rintro e w' ⟨rfl, ⟨nd, rfl⟩⟩))
                  go_ret
                  exact ⟨by first | rfl | (simp; done) | (simp [*]; done), by repeat (first | exact Drawn0.refl _ | apply Drawn0.step)⟩
                · rw [if_neg c18] at H
                  exact absurd H (by simp)
              · rw [if_neg c17] at H
                exact absurd H (by simp)
            · rw [if_neg c15] at H
              exact absurd H (by simp)
          · rw [if_neg c11] at H
            exact absurd H (by simp)
  · replace c4 := Bool.eq_false_iff.mpr c4
    subst c4
    have H1 : (none) = some r := by rw [if_neg (show ¬ (false = true) by decide)] at H; exact H
    clear H
    have H := H1
    clear H1
    exact absurd H (by simp)

def caulklaw33_CombineJoins.Pure : Prop := ∀ (a0 : ByteArray) (a1 : ByteArray), a0.size ≤ 140737488351232 → a1.size ≤ 140737488351232 → ∃ k, caulklaw33_CombineJoins.f k a0 a1 = some true

/-! ### caulklaw33_CombineSteps: function 4 -/
def caulklaw33_CombineSteps.j0 : Nat → Int → Int → Int → Bool → Option (Bool)
  | 0, _, _, _, _ => none
  | k + 1, x0, x1, x2, x32 => if x32 = true then (some true) else ((combine_Shift.f k x0 x1).bind fun bt147 => ((combine_Shift.f k bt147.1 x2).bind fun bt149 => ((combine_Shift.f k x0 (wrap64 (x1 + x2))).bind fun bt151 => ((combine_Back.f k bt149.1 x2).bind fun bt153 => ((combine_Back.f k bt149.1 (wrap64 (x1 + x2))).bind fun bt155 => (if bt147.2 = 0 then (if bt149.2 = 0 then (if bt151.2 = 0 then (if bt149.1 = bt151.1 then (if bt153.2 = 0 then (if bt153.1 = bt147.1 then (if bt155.2 = 0 then (some (bt155.1 == x0)) else (none)) else (none)) else (none)) else (none)) else (none)) else (none)) else (none)))))))
def caulklaw33_CombineSteps.f (k : Nat) (a0 : Int) (a1 : Int) (a2 : Int) : Option (Bool) := (caulklaw33_lives.f k).bind fun t146 => (if t146 = true then (if a1 < 0 then (caulklaw33_CombineSteps.j0 k a0 a1 a2 true) else (if a2 < 0 then (caulklaw33_CombineSteps.j0 k a0 a1 a2 true) else (if a1 > 549755813888 then (caulklaw33_CombineSteps.j0 k a0 a1 a2 true) else (caulklaw33_CombineSteps.j0 k a0 a1 a2 (decide (a2 > 549755813888)))))) else (none))
theorem caulklaw33_CombineSteps.mono_l : ∀ k, (∀ y0 y1 y2 y3, LeO (caulklaw33_CombineSteps.j0 k y0 y1 y2 y3) (caulklaw33_CombineSteps.j0 (k + 1) y0 y1 y2 y3))
  | 0 => fun _ _ _ _ r h => by simp [caulklaw33_CombineSteps.j0] at h
  | k + 1 => by
    have ih0 := caulklaw33_CombineSteps.mono_l k
    · intro y0 y1 y2 y3
      unfold caulklaw33_CombineSteps.j0
      repeat' first
      | (with_reducible exact ih0 _ _ _ _)
      | (with_reducible exact caulklaw33_lives.mono _)
      | (with_reducible exact combine_Back.mono _ _ _)
      | (with_reducible exact combine_Shift.mono _ _ _)
      | (with_reducible exact LeO.refl _)
      | (with_reducible exact LeO.none _)
      | (with_reducible refine LeO.ite ?_ ?_)
      | (with_reducible refine LeO.bind ?_ (fun _ => ?_))
      | exact ih0 _ _ _ _
      | exact caulklaw33_lives.mono _
      | exact combine_Back.mono _ _ _
      | exact combine_Shift.mono _ _ _
      | exact LeO.none _
      | refine LeO.ite ?_ ?_
      | refine LeO.bind ?_ (fun _ => ?_)
theorem caulklaw33_CombineSteps.mono : ∀ a0 a1 a2 k, LeO (caulklaw33_CombineSteps.f k a0 a1 a2) (caulklaw33_CombineSteps.f (k + 1) a0 a1 a2) := by
  intro a0 a1 a2 k
  have ih0 := caulklaw33_CombineSteps.mono_l k
  unfold caulklaw33_CombineSteps.f
  repeat' first
      | (with_reducible exact ih0 _ _ _ _)
      | (with_reducible exact caulklaw33_lives.mono _)
      | (with_reducible exact combine_Back.mono _ _ _)
      | (with_reducible exact combine_Shift.mono _ _ _)
      | (with_reducible exact LeO.refl _)
      | (with_reducible exact LeO.none _)
      | (with_reducible refine LeO.ite ?_ ?_)
      | (with_reducible refine LeO.bind ?_ (fun _ => ?_))
      | exact ih0 _ _ _ _
      | exact caulklaw33_lives.mono _
      | exact combine_Back.mono _ _ _
      | exact combine_Shift.mono _ _ _
      | exact LeO.none _
      | refine LeO.ite ?_ ?_
      | refine LeO.bind ?_ (fun _ => ?_)
set_option maxHeartbeats 8000000 in
set_option maxRecDepth 100000 in
theorem caulklaw33_CombineSteps.calls (k : Nat) (a0 : Int) (a1 : Int) (a2 : Int) (r : Bool) (w : World) (hG : GT w) (h : caulklaw33_CombineSteps.f k a0 a1 a2 = some r) :
    Calls Tryd.prog 4 #[.int .u32 a0, .int .i64 a1, .int .i64 a2] w fun e w' => e = .returned (.bool r) ∧ Drawn0 w w' := by
  have HG := Aside0.mk hG
  clear hG
  have H : ((caulklaw33_lives.f k).bind fun t146 => (if t146 = true then (if a1 < 0 then (caulklaw33_CombineSteps.j0 k a0 a1 a2 true) else (if a2 < 0 then (caulklaw33_CombineSteps.j0 k a0 a1 a2 true) else (if a1 > 549755813888 then (caulklaw33_CombineSteps.j0 k a0 a1 a2 true) else (caulklaw33_CombineSteps.j0 k a0 a1 a2 (decide (a2 > 549755813888)))))) else (none))) = some r := h
  clear h
  replace H := Option.bind_eq_some_iff.mp H
  obtain ⟨t146, A40, H⟩ := H
  replace H : (if t146 = true then (if a1 < 0 then (caulklaw33_CombineSteps.j0 k a0 a1 a2 true) else (if a2 < 0 then (caulklaw33_CombineSteps.j0 k a0 a1 a2 true) else (if a1 > 549755813888 then (caulklaw33_CombineSteps.j0 k a0 a1 a2 true) else (caulklaw33_CombineSteps.j0 k a0 a1 a2 (decide (a2 > 549755813888)))))) else (none)) = some r := H
  have A4 := Aside0.mk A40
  clear A40
  by_cases c5 : t146 = true
  · subst c5
    have H1 : (if a1 < 0 then (caulklaw33_CombineSteps.j0 k a0 a1 a2 true) else (if a2 < 0 then (caulklaw33_CombineSteps.j0 k a0 a1 a2 true) else (if a1 > 549755813888 then (caulklaw33_CombineSteps.j0 k a0 a1 a2 true) else (caulklaw33_CombineSteps.j0 k a0 a1 a2 (decide (a2 > 549755813888)))))) = some r := by rw [if_pos rfl] at H; exact H
    clear H
    have H := H1
    clear H1
    have HC6 := Aside0.mk H
    clear H
    go_enter Tryd.func4, Tryd.ntmps4
    go_upto_region 3 with (first | ((with_reducible refine gate_callee (f := 6) rfl ?_); refine goesL_ (some 17) rfl rfl Tryd.func6 (by kernel_rfl) rfl #[] rfl (by (try simp only [List.map_toArray, List.map_cons, List.map_nil]); first | done | rfl | (simp only [List.length_drop, List.length_take]; rfl)) ?_; (with_reducible refine (caulklaw33_lives.calls k  true _ ?side1 A4.out).mono ?_); (case side1 => repeat (first | exact HG.out | apply GT.drewN | apply GT.drew)); rintro e w' ⟨rfl, ⟨nd, rfl⟩⟩; refine ⟨_, rfl, ?_⟩))
    (try simp only [Act.put, List.setIfInBounds_toArray, List.set_cons_zero, List.set_cons_succ])
    go_cut [32] (fun v32 wc => ∃ (kq : Nat) (x32_5 : Bool), v32 = .bool x32_5 ∧ Aside0 (caulklaw33_CombineSteps.j0 kq a0 a1 a2 x32_5 = some r) ∧ Aside0 (kq ≤ k) ∧ Drawn0 w wc)
    case first =>
      have H := HC6.out
      clear HC6
      by_cases c7 : a1 < 0
      · rw [if_pos c7] at H
        have c7b0 : decide (a1 < 0) = true := decide_eq_true c7
        clear c7
        (first | rw [c7b0] | (simp only [i64_w, i32_w]; rw [c7b0]) | skip)
        have H' := Aside0.mk H
        clear H
        go_wp2
        go_meet
        case rel => exact ⟨_, (true), (by first | rfl | (simp; done) | (simp [*]; done)), H', ⟨by first | omega | exact Nat.le_refl _⟩, by repeat (first | exact Drawn0.refl _ | apply Drawn0.step)⟩
      · rw [if_neg c7] at H
        have c7b0 : decide (a1 < 0) = false := decide_eq_false c7
        clear c7
        (first | rw [c7b0] | (simp only [i64_w, i32_w]; rw [c7b0]) | skip)
        by_cases c8 : a2 < 0
        · rw [if_pos c8] at H
          have c8b0 : decide (a2 < 0) = true := decide_eq_true c8
          clear c8
          have H' := Aside0.mk H
          clear H
          go_wp2
          go_meet
          case rel => exact ⟨_, (true), (by first | rfl | (simp; done) | (simp [*]; done)), H', ⟨by first | omega | exact Nat.le_refl _⟩, by repeat (first | exact Drawn0.refl _ | apply Drawn0.step)⟩
        · rw [if_neg c8] at H
          have c8b0 : decide (a2 < 0) = false := decide_eq_false c8
          clear c8
          by_cases c9 : a1 > 549755813888
          · rw [if_pos c9] at H
            have c9b0 : decide (549755813888 < a1) = true := decide_eq_true c9
            clear c9
            have H' := Aside0.mk H
            clear H
            go_wp2
            go_meet
            case rel => exact ⟨_, (true), (by first | rfl | (simp; done) | (simp [*]; done)), H', ⟨by first | omega | exact Nat.le_refl _⟩, by repeat (first | exact Drawn0.refl _ | apply Drawn0.step)⟩
          · rw [if_neg c9] at H
            have c9b0 : decide (549755813888 < a1) = false := decide_eq_false c9
            clear c9
            have H' := Aside0.mk H
            clear H
            go_wp2
            go_meet
            case rel => exact ⟨_, (decide (a2 > 549755813888)), (by first | rfl | (simp; done) | (simp [*]; done)), H', ⟨by first | omega | exact Nat.le_refl _⟩, by repeat (first | exact Drawn0.refl _ | apply Drawn0.step)⟩
    case rest =>
      clear HC6
      try clear p2
      try clear c4
      try clear c5
      try clear c6
      try clear c7
      try clear c7b0
      try clear c8
      try clear c8b0
      try clear c9
      try clear c9b0
      obtain ⟨kq, x32_5, rfl, HA, HJ5, ⟨mc5, rfl⟩⟩ := hcut
      cases kq with
      | zero => exact absurd HA.out (by simp [caulklaw33_CombineSteps.j0])
      | succ kj5 =>
        have H := HA.out
        clear HA
        simp only [caulklaw33_CombineSteps.j0] at H
        by_cases c10 : x32_5 = true
        · subst c10
          have H1 : (some true) = some r := by rw [if_pos rfl] at H; exact H
          clear H
          have H := H1
          clear H1
          obtain rfl := Option.some.inj H
          go_wp2
          go_ret
          exact ⟨by first | rfl | (simp; done) | (simp [*]; done), by repeat (first | exact Drawn0.refl _ | apply Drawn0.step)⟩
        · replace c10 := Bool.eq_false_iff.mpr c10
          subst c10
          have H1 : ((combine_Shift.f kj5 a0 a1).bind fun bt147 => ((combine_Shift.f kj5 bt147.1 a2).bind fun bt149 => ((combine_Shift.f kj5 a0 (wrap64 (a1 + a2))).bind fun bt151 => ((combine_Back.f kj5 bt149.1 a2).bind fun bt153 => ((combine_Back.f kj5 bt149.1 (wrap64 (a1 + a2))).bind fun bt155 => (if bt147.2 = 0 then (if bt149.2 = 0 then (if bt151.2 = 0 then (if bt149.1 = bt151.1 then (if bt153.2 = 0 then (if bt153.1 = bt147.1 then (if bt155.2 = 0 then (some (bt155.1 == a0)) else (none)) else (none)) else (none)) else (none)) else (none)) else (none)) else (none))))))) = some r := by rw [if_neg (show ¬ (false = true) by decide)] at H; exact H
          clear H
          have H := H1
          clear H1
          replace H := Option.bind_eq_some_iff.mp H
          obtain ⟨⟨t147, t148⟩, A110, H⟩ := H
          replace H : ((combine_Shift.f kj5 t147 a2).bind fun bt149 => ((combine_Shift.f kj5 a0 (wrap64 (a1 + a2))).bind fun bt151 => ((combine_Back.f kj5 bt149.1 a2).bind fun bt153 => ((combine_Back.f kj5 bt149.1 (wrap64 (a1 + a2))).bind fun bt155 => (if t148 = 0 then (if bt149.2 = 0 then (if bt151.2 = 0 then (if bt149.1 = bt151.1 then (if bt153.2 = 0 then (if bt153.1 = t147 then (if bt155.2 = 0 then (some (bt155.1 == a0)) else (none)) else (none)) else (none)) else (none)) else (none)) else (none)) else (none)))))) = some r := H
          have A11 := Aside0.mk A110
          clear A110
          replace H := Option.bind_eq_some_iff.mp H
          obtain ⟨⟨t149, t150⟩, A120, H⟩ := H
          replace H : ((combine_Shift.f kj5 a0 (wrap64 (a1 + a2))).bind fun bt151 => ((combine_Back.f kj5 t149 a2).bind fun bt153 => ((combine_Back.f kj5 t149 (wrap64 (a1 + a2))).bind fun bt155 => (if t148 = 0 then (if t150 = 0 then (if bt151.2 = 0 then (if t149 = bt151.1 then (if bt153.2 = 0 then (if bt153.1 = t147 then (if bt155.2 = 0 then (some (bt155.1 == a0)) else (none)) else (none)) else (none)) else (none)) else (none)) else (none)) else (none))))) = some r := H
          have A12 := Aside0.mk A120
          clear A120
          replace H := Option.bind_eq_some_iff.mp H
          obtain ⟨⟨t151, t152⟩, A130, H⟩ := H
          replace H : ((combine_Back.f kj5 t149 a2).bind fun bt153 => ((combine_Back.f kj5 t149 (wrap64 (a1 + a2))).bind fun bt155 => (if t148 = 0 then (if t150 = 0 then (if t152 = 0 then (if t149 = t151 then (if bt153.2 = 0 then (if bt153.1 = t147 then (if bt155.2 = 0 then (some (bt155.1 == a0)) else (none)) else (none)) else (none)) else (none)) else (none)) else (none)) else (none)))) = some r := H
          have A13 := Aside0.mk A130
          clear A130
          replace H := Option.bind_eq_some_iff.mp H
          obtain ⟨⟨t153, t154⟩, A140, H⟩ := H
          replace H : ((combine_Back.f kj5 t149 (wrap64 (a1 + a2))).bind fun bt155 => (if t148 = 0 then (if t150 = 0 then (if t152 = 0 then (if t149 = t151 then (if t154 = 0 then (if t153 = t147 then (if bt155.2 = 0 then (some (bt155.1 == a0)) else (none)) else (none)) else (none)) else (none)) else (none)) else (none)) else (none))) = some r := H
          have A14 := Aside0.mk A140
          clear A140
          replace H := Option.bind_eq_some_iff.mp H
          obtain ⟨⟨t155, t156⟩, A150, H⟩ := H
          replace H : (if t148 = 0 then (if t150 = 0 then (if t152 = 0 then (if t149 = t151 then (if t154 = 0 then (if t153 = t147 then (if t156 = 0 then (some (t155 == a0)) else (none)) else (none)) else (none)) else (none)) else (none)) else (none)) else (none)) = some r := H
          have A15 := Aside0.mk A150
          clear A150
          by_cases c16 : t148 = 0
          · rw [if_pos c16] at H
            have c16b0 : (t148 == 0) = true := beq_iff_eq.mpr c16
            have c16b1 : (t148 != 0) = false := bne_eq_false_iff_eq.mpr c16
            clear c16
            by_cases c17 : t150 = 0
            · rw [if_pos c17] at H
              have c17b0 : (t150 == 0) = true := beq_iff_eq.mpr c17
              have c17b1 : (t150 != 0) = false := bne_eq_false_iff_eq.mpr c17
              clear c17
              by_cases c18 : t152 = 0
              · rw [if_pos c18] at H
                have c18b0 : (t152 == 0) = true := beq_iff_eq.mpr c18
                have c18b1 : (t152 != 0) = false := bne_eq_false_iff_eq.mpr c18
                clear c18
                by_cases c19 : t149 = t151
                · rw [if_pos c19] at H
                  have c19b0 : (t149 == t151) = true := beq_iff_eq.mpr c19
                  have c19b1 : (t149 != t151) = false := bne_eq_false_iff_eq.mpr c19
                  clear c19
                  by_cases c20 : t154 = 0
                  · rw [if_pos c20] at H
                    have c20b0 : (t154 == 0) = true := beq_iff_eq.mpr c20
                    have c20b1 : (t154 != 0) = false := bne_eq_false_iff_eq.mpr c20
                    clear c20
                    by_cases c21 : t153 = t147
                    · rw [if_pos c21] at H
                      have c21b0 : (t153 == t147) = true := beq_iff_eq.mpr c21
                      have c21b1 : (t153 != t147) = false := bne_eq_false_iff_eq.mpr c21
                      clear c21
                      by_cases c22 : t156 = 0
                      · rw [if_pos c22] at H
                        have c22b0 : (t156 == 0) = true := beq_iff_eq.mpr c22
                        have c22b1 : (t156 != 0) = false := bne_eq_false_iff_eq.mpr c22
                        clear c22
                        obtain rfl := Option.some.inj H
                        go_wp2_with (first | ((with_reducible refine gate_callee (f := 10) rfl ?_); refine goesL_ (some 36) rfl rfl Tryd.func10 (by kernel_rfl) rfl #[.int .u32 a0, .int .i64 a1] rfl (by (try simp only [List.map_toArray, List.map_cons, List.map_nil]); first | done | rfl | (simp only [List.length_drop, List.length_take]; rfl)) ?_; (with_reducible refine (combine_Shift.calls kj5 a0 a1 t147 t148 _ A11.out).mono ?_); rintro e w' ⟨rfl, ⟨nd, rfl⟩⟩; refine ⟨_, rfl, ?_⟩) | ((with_reducible refine gate_callee (f := 10) rfl ?_); refine goesL_ (some 42) rfl rfl Tryd.func10 (by kernel_rfl) rfl #[.int .u32 t147, .int .i64 a2] rfl (by (try simp only [List.map_toArray, List.map_cons, List.map_nil]); first | done | rfl | (simp only [List.length_drop, List.length_take]; rfl)) ?_; (with_reducible refine (combine_Shift.calls kj5 t147 a2 t149 t150 _ A12.out).mono ?_); rintro e w' ⟨rfl, ⟨nd, rfl⟩⟩; refine ⟨_, rfl, ?_⟩) | ((with_reducible refine gate_callee (f := 10) rfl ?_); refine goesL_ (some 50) rfl rfl Tryd.func10 (by kernel_rfl) rfl #[.int .u32 a0, .int .i64 (wrap64 (a1 + a2))] rfl (by (try simp only [List.map_toArray, List.map_cons, List.map_nil]); first | done | rfl | (simp only [List.length_drop, List.length_take]; rfl)) ?_; (with_reducible refine (combine_Shift.calls kj5 a0 (wrap64 (a1 + a2)) t151 t152 _ A13.out).mono ?_); rintro e w' ⟨rfl, ⟨nd, rfl⟩⟩; refine ⟨_, rfl, ?_⟩) | ((with_reducible refine gate_callee (f := 11) rfl ?_); refine goesL_ (some 56) rfl rfl Tryd.func11 (by kernel_rfl) rfl #[.int .u32 t149, .int .i64 a2] rfl (by (try simp only [List.map_toArray, List.map_cons, List.map_nil]); first | done | rfl | (simp only [List.length_drop, List.length_take]; rfl)) ?_; (with_reducible refine (combine_Back.calls kj5 t149 a2 t153 t154 _ A14.out).mono ?_); rintro e w' ⟨rfl, ⟨nd, rfl⟩⟩; refine ⟨_, rfl, ?_⟩) | ((with_reducible refine gate_callee (f := 11) rfl ?_); refine goesL_ (some 64) rfl rfl Tryd.func11 (by kernel_rfl) rfl #[.int .u32 t149, .int .i64 (wrap64 (a1 + a2))] rfl (by (try simp only [List.map_toArray, List.map_cons, List.map_nil]); first | done | rfl | (simp only [List.length_drop, List.length_take]; rfl)) ?_; (with_reducible refine (combine_Back.calls kj5 t149 (wrap64 (a1 + a2)) t155 t156 _ A15.out).mono ?_); rintro e w' ⟨rfl, ⟨nd, rfl⟩⟩; refine ⟨_, rfl, ?_⟩))
                        go_ret
                        exact ⟨by first | rfl | (simp; done) | (simp [*]; done), by repeat (first | exact Drawn0.refl _ | apply Drawn0.step)⟩
                      · rw [if_neg c22] at H
                        exact absurd H (by simp)
                    · rw [if_neg c21] at H
                      exact absurd H (by simp)
                  · rw [if_neg c20] at H
                    exact absurd H (by simp)
                · rw [if_neg c19] at H
                  exact absurd H (by simp)
              · rw [if_neg c18] at H
                exact absurd H (by simp)
            · rw [if_neg c17] at H
              exact absurd H (by simp)
          · rw [if_neg c16] at H
            exact absurd H (by simp)
  · replace c5 := Bool.eq_false_iff.mpr c5
    subst c5
    have H1 : (none) = some r := by rw [if_neg (show ¬ (false = true) by decide)] at H; exact H
    clear H
    have H := H1
    clear H1
    exact absurd H (by simp)

def caulklaw33_CombineSteps.Pure : Prop := ∀ (a0 : Int) (a1 : Int) (a2 : Int), (Lit.int .u32 a0).wf = true → (Lit.int .i64 a1).wf = true → (Lit.int .i64 a2).wf = true → ∃ k, caulklaw33_CombineSteps.f k a0 a1 a2 = some true

/-! ### caulklaw33_CombineOne: function 5 -/
def caulklaw33_CombineOne.f (k : Nat) (a0 : Int) (a1 : Int) (a2 : Int) : Option (Bool) := (caulklaw33_lives.f k).bind fun t157 => (if t157 = true then ((combine_Shift.f k a0 a2).bind fun bt158 => ((combine_Shift.f k a1 a2).bind fun bt160 => ((combine_Shift.f k (Go.bits .xor .u32 a0 a1) a2).bind fun bt162 => (if bt158.2 = 0 then (if bt160.2 = 0 then (if bt162.2 = 0 then (if (Go.bits .xor .u32 bt158.1 bt160.1) = bt162.1 then (if ((bt158.1 == 0) == (a0 == 0)) = true then (some ((bt158.1 == bt160.1) == (a0 == a1))) else (none)) else (none)) else (none)) else (none)) else (if bt158.2 = 1 then (if bt160.2 = bt158.2 then (some (bt162.2 == bt158.2)) else (none)) else (none)))))) else (none))
theorem caulklaw33_CombineOne.mono : ∀ a0 a1 a2 k, LeO (caulklaw33_CombineOne.f k a0 a1 a2) (caulklaw33_CombineOne.f (k + 1) a0 a1 a2) := by
  intro a0 a1 a2 k
  unfold caulklaw33_CombineOne.f
  repeat' first
      | (with_reducible exact caulklaw33_lives.mono _)
      | (with_reducible exact combine_Shift.mono _ _ _)
      | (with_reducible exact LeO.refl _)
      | (with_reducible exact LeO.none _)
      | (with_reducible refine LeO.ite ?_ ?_)
      | (with_reducible refine LeO.bind ?_ (fun _ => ?_))
      | exact caulklaw33_lives.mono _
      | exact combine_Shift.mono _ _ _
      | exact LeO.none _
      | refine LeO.ite ?_ ?_
      | refine LeO.bind ?_ (fun _ => ?_)
set_option maxHeartbeats 8000000 in
set_option maxRecDepth 100000 in
theorem caulklaw33_CombineOne.calls (k : Nat) (a0 : Int) (a1 : Int) (a2 : Int) (r : Bool) (w : World) (hG : GT w) (h : caulklaw33_CombineOne.f k a0 a1 a2 = some r) :
    Calls Tryd.prog 5 #[.int .u32 a0, .int .u32 a1, .int .i64 a2] w fun e w' => e = .returned (.bool r) ∧ Drawn0 w w' := by
  have HG := Aside0.mk hG
  clear hG
  have H : ((caulklaw33_lives.f k).bind fun t157 => (if t157 = true then ((combine_Shift.f k a0 a2).bind fun bt158 => ((combine_Shift.f k a1 a2).bind fun bt160 => ((combine_Shift.f k (Go.bits .xor .u32 a0 a1) a2).bind fun bt162 => (if bt158.2 = 0 then (if bt160.2 = 0 then (if bt162.2 = 0 then (if (Go.bits .xor .u32 bt158.1 bt160.1) = bt162.1 then (if ((bt158.1 == 0) == (a0 == 0)) = true then (some ((bt158.1 == bt160.1) == (a0 == a1))) else (none)) else (none)) else (none)) else (none)) else (if bt158.2 = 1 then (if bt160.2 = bt158.2 then (some (bt162.2 == bt158.2)) else (none)) else (none)))))) else (none))) = some r := h
  clear h
  replace H := Option.bind_eq_some_iff.mp H
  obtain ⟨t157, A40, H⟩ := H
  replace H : (if t157 = true then ((combine_Shift.f k a0 a2).bind fun bt158 => ((combine_Shift.f k a1 a2).bind fun bt160 => ((combine_Shift.f k (Go.bits .xor .u32 a0 a1) a2).bind fun bt162 => (if bt158.2 = 0 then (if bt160.2 = 0 then (if bt162.2 = 0 then (if (Go.bits .xor .u32 bt158.1 bt160.1) = bt162.1 then (if ((bt158.1 == 0) == (a0 == 0)) = true then (some ((bt158.1 == bt160.1) == (a0 == a1))) else (none)) else (none)) else (none)) else (none)) else (if bt158.2 = 1 then (if bt160.2 = bt158.2 then (some (bt162.2 == bt158.2)) else (none)) else (none)))))) else (none)) = some r := H
  have A4 := Aside0.mk A40
  clear A40
  by_cases c5 : t157 = true
  · subst c5
    have H1 : ((combine_Shift.f k a0 a2).bind fun bt158 => ((combine_Shift.f k a1 a2).bind fun bt160 => ((combine_Shift.f k (Go.bits .xor .u32 a0 a1) a2).bind fun bt162 => (if bt158.2 = 0 then (if bt160.2 = 0 then (if bt162.2 = 0 then (if (Go.bits .xor .u32 bt158.1 bt160.1) = bt162.1 then (if ((bt158.1 == 0) == (a0 == 0)) = true then (some ((bt158.1 == bt160.1) == (a0 == a1))) else (none)) else (none)) else (none)) else (none)) else (if bt158.2 = 1 then (if bt160.2 = bt158.2 then (some (bt162.2 == bt158.2)) else (none)) else (none)))))) = some r := by rw [if_pos rfl] at H; exact H
    clear H
    have H := H1
    clear H1
    replace H := Option.bind_eq_some_iff.mp H
    obtain ⟨⟨t158, t159⟩, A60, H⟩ := H
    replace H : ((combine_Shift.f k a1 a2).bind fun bt160 => ((combine_Shift.f k (Go.bits .xor .u32 a0 a1) a2).bind fun bt162 => (if t159 = 0 then (if bt160.2 = 0 then (if bt162.2 = 0 then (if (Go.bits .xor .u32 t158 bt160.1) = bt162.1 then (if ((t158 == 0) == (a0 == 0)) = true then (some ((t158 == bt160.1) == (a0 == a1))) else (none)) else (none)) else (none)) else (none)) else (if t159 = 1 then (if bt160.2 = t159 then (some (bt162.2 == t159)) else (none)) else (none))))) = some r := H
    have A6 := Aside0.mk A60
    clear A60
    replace H := Option.bind_eq_some_iff.mp H
    obtain ⟨⟨t160, t161⟩, A70, H⟩ := H
    replace H : ((combine_Shift.f k (Go.bits .xor .u32 a0 a1) a2).bind fun bt162 => (if t159 = 0 then (if t161 = 0 then (if bt162.2 = 0 then (if (Go.bits .xor .u32 t158 t160) = bt162.1 then (if ((t158 == 0) == (a0 == 0)) = true then (some ((t158 == t160) == (a0 == a1))) else (none)) else (none)) else (none)) else (none)) else (if t159 = 1 then (if t161 = t159 then (some (bt162.2 == t159)) else (none)) else (none)))) = some r := H
    have A7 := Aside0.mk A70
    clear A70
    replace H := Option.bind_eq_some_iff.mp H
    obtain ⟨⟨t162, t163⟩, A80, H⟩ := H
    replace H : (if t159 = 0 then (if t161 = 0 then (if t163 = 0 then (if (Go.bits .xor .u32 t158 t160) = t162 then (if ((t158 == 0) == (a0 == 0)) = true then (some ((t158 == t160) == (a0 == a1))) else (none)) else (none)) else (none)) else (none)) else (if t159 = 1 then (if t161 = t159 then (some (t163 == t159)) else (none)) else (none))) = some r := H
    have A8 := Aside0.mk A80
    clear A80
    by_cases c9 : t159 = 0
    · rw [if_pos c9] at H
      have c9b0 : (t159 == 0) = true := beq_iff_eq.mpr c9
      have c9b1 : (t159 != 0) = false := bne_eq_false_iff_eq.mpr c9
      clear c9
      by_cases c10 : t161 = 0
      · rw [if_pos c10] at H
        have c10b0 : (t161 == 0) = true := beq_iff_eq.mpr c10
        have c10b1 : (t161 != 0) = false := bne_eq_false_iff_eq.mpr c10
        clear c10
        by_cases c11 : t163 = 0
        · rw [if_pos c11] at H
          have c11b0 : (t163 == 0) = true := beq_iff_eq.mpr c11
          have c11b1 : (t163 != 0) = false := bne_eq_false_iff_eq.mpr c11
          clear c11
          by_cases c12 : (Go.bits .xor .u32 t158 t160) = t162
          · rw [if_pos c12] at H
            have c12b0 : ((Go.bits .xor .u32 t158 t160) == t162) = true := beq_iff_eq.mpr c12
            have c12b1 : ((Go.bits .xor .u32 t158 t160) != t162) = false := bne_eq_false_iff_eq.mpr c12
            clear c12
            by_cases c13 : ((t158 == 0) == (a0 == 0)) = true
            · rw [if_pos c13] at H
              have c13b0 : ((t158 == 0) == (a0 == 0)) = true := c13
              (try (have c13b1 : decide ((t158 == 0) = (a0 == 0)) = true := by simpa using c13))
              (try (have c13b2 : ((t158 == 0) == (a0 == 0)) = true := by simpa using c13))
              clear c13
              obtain rfl := Option.some.inj H
              go_enter Tryd.func5, Tryd.ntmps5
              go_wp2_with (first | ((with_reducible refine gate_callee (f := 6) rfl ?_); refine goesL_ (some 13) rfl rfl Tryd.func6 (by kernel_rfl) rfl #[] rfl (by (try simp only [List.map_toArray, List.map_cons, List.map_nil]); first | done | rfl | (simp only [List.length_drop, List.length_take]; rfl)) ?_; (with_reducible refine (caulklaw33_lives.calls k  true _ ?side1 A4.out).mono ?_); (case side1 => repeat (first | exact HG.out | apply GT.drewN | apply GT.drew)); rintro e w' ⟨rfl, ⟨nd, rfl⟩⟩; refine ⟨_, rfl, ?_⟩) | ((with_reducible refine gate_callee (f := 10) rfl ?_); refine goesL_ (some 18) rfl rfl Tryd.func10 (by kernel_rfl) rfl #[.int .u32 a0, .int .i64 a2] rfl (by (try simp only [List.map_toArray, List.map_cons, List.map_nil]); first | done | rfl | (simp only [List.length_drop, List.length_take]; rfl)) ?_; (with_reducible refine (combine_Shift.calls k a0 a2 t158 t159 _ A6.out).mono ?_); rintro e w' ⟨rfl, ⟨nd, rfl⟩⟩; refine ⟨_, rfl, ?_⟩) | ((with_reducible refine gate_callee (f := 10) rfl ?_); refine goesL_ (some 24) rfl rfl Tryd.func10 (by kernel_rfl) rfl #[.int .u32 a1, .int .i64 a2] rfl (by (try simp only [List.map_toArray, List.map_cons, List.map_nil]); first | done | rfl | (simp only [List.length_drop, List.length_take]; rfl)) ?_; (with_reducible refine (combine_Shift.calls k a1 a2 t160 t161 _ A7.out).mono ?_); rintro e w' ⟨rfl, ⟨nd, rfl⟩⟩; refine ⟨_, rfl, ?_⟩) | ((with_reducible refine gate_callee (f := 10) rfl ?_); refine goesL_ (some 32) rfl rfl Tryd.func10 (by kernel_rfl) rfl #[.int .u32 (Go.bits .xor .u32 a0 a1), .int .i64 a2] rfl (by (try simp only [List.map_toArray, List.map_cons, List.map_nil]); first | done | rfl | (simp only [List.length_drop, List.length_take]; rfl)) ?_; (with_reducible refine (combine_Shift.calls k (Go.bits .xor .u32 a0 a1) a2 t162 t163 _ A8.out).mono ?_); rintro e w' ⟨rfl, ⟨nd, rfl⟩⟩; refine ⟨_, rfl, ?_⟩))
              go_ret
              exact ⟨by first | rfl | (simp; done) | (simp [*]; done), by repeat (first | exact Drawn0.refl _ | apply Drawn0.step)⟩
            · rw [if_neg c13] at H
              exact absurd H (by simp)
          · rw [if_neg c12] at H
            exact absurd H (by simp)
        · rw [if_neg c11] at H
          exact absurd H (by simp)
      · rw [if_neg c10] at H
        exact absurd H (by simp)
    · rw [if_neg c9] at H
      have c9b0 : (t159 == 0) = false := beq_eq_false_iff_ne.mpr c9
      have c9b1 : (t159 != 0) = true := bne_iff_ne.mpr c9
      by_cases c14 : t159 = 1
      · rw [if_pos c14] at H
        have c14b0 : (t159 == 1) = true := beq_iff_eq.mpr c14
        have c14b1 : (t159 != 1) = false := bne_eq_false_iff_eq.mpr c14
        clear c14
        by_cases c15 : t161 = t159
        · rw [if_pos c15] at H
          have c15b0 : (t161 == t159) = true := beq_iff_eq.mpr c15
          have c15b1 : (t161 != t159) = false := bne_eq_false_iff_eq.mpr c15
          clear c15
          obtain rfl := Option.some.inj H
          go_enter Tryd.func5, Tryd.ntmps5
          go_wp2_with (first | ((with_reducible refine gate_callee (f := 6) rfl ?_); refine goesL_ (some 13) rfl rfl Tryd.func6 (by kernel_rfl) rfl #[] rfl (by (try simp only [List.map_toArray, List.map_cons, List.map_nil]); first | done | rfl | (simp only [List.length_drop, List.length_take]; rfl)) ?_; (with_reducible refine (caulklaw33_lives.calls k  true _ ?side1 A4.out).mono ?_); (case side1 => repeat (first | exact HG.out | apply GT.drewN | apply GT.drew)); rintro e w' ⟨rfl, ⟨nd, rfl⟩⟩; refine ⟨_, rfl, ?_⟩) | ((with_reducible refine gate_callee (f := 10) rfl ?_); refine goesL_ (some 18) rfl rfl Tryd.func10 (by kernel_rfl) rfl #[.int .u32 a0, .int .i64 a2] rfl (by (try simp only [List.map_toArray, List.map_cons, List.map_nil]); first | done | rfl | (simp only [List.length_drop, List.length_take]; rfl)) ?_; (with_reducible refine (combine_Shift.calls k a0 a2 t158 t159 _ A6.out).mono ?_); rintro e w' ⟨rfl, ⟨nd, rfl⟩⟩; refine ⟨_, rfl, ?_⟩) | ((with_reducible refine gate_callee (f := 10) rfl ?_); refine goesL_ (some 24) rfl rfl Tryd.func10 (by kernel_rfl) rfl #[.int .u32 a1, .int .i64 a2] rfl (by (try simp only [List.map_toArray, List.map_cons, List.map_nil]); first | done | rfl | (simp only [List.length_drop, List.length_take]; rfl)) ?_; (with_reducible refine (combine_Shift.calls k a1 a2 t160 t161 _ A7.out).mono ?_); rintro e w' ⟨rfl, ⟨nd, rfl⟩⟩; refine ⟨_, rfl, ?_⟩) | ((with_reducible refine gate_callee (f := 10) rfl ?_); refine goesL_ (some 32) rfl rfl Tryd.func10 (by kernel_rfl) rfl #[.int .u32 (Go.bits .xor .u32 a0 a1), .int .i64 a2] rfl (by (try simp only [List.map_toArray, List.map_cons, List.map_nil]); first | done | rfl | (simp only [List.length_drop, List.length_take]; rfl)) ?_; (with_reducible refine (combine_Shift.calls k (Go.bits .xor .u32 a0 a1) a2 t162 t163 _ A8.out).mono ?_); rintro e w' ⟨rfl, ⟨nd, rfl⟩⟩; refine ⟨_, rfl, ?_⟩))
          go_ret
          exact ⟨by first | rfl | (simp; done) | (simp [*]; done), by repeat (first | exact Drawn0.refl _ | apply Drawn0.step)⟩
        · rw [if_neg c15] at H
          exact absurd H (by simp)
      · rw [if_neg c14] at H
        exact absurd H (by simp)
  · replace c5 := Bool.eq_false_iff.mpr c5
    subst c5
    have H1 : (none) = some r := by rw [if_neg (show ¬ (false = true) by decide)] at H; exact H
    clear H
    have H := H1
    clear H1
    exact absurd H (by simp)

def caulklaw33_CombineOne.Pure : Prop := ∀ (a0 : Int) (a1 : Int) (a2 : Int), (Lit.int .u32 a0).wf = true → (Lit.int .u32 a1).wf = true → (Lit.int .i64 a2).wf = true → ∃ k, caulklaw33_CombineOne.f k a0 a1 a2 = some true

end Go.Proofs.YtegfembmnnmnbabDoor.G
