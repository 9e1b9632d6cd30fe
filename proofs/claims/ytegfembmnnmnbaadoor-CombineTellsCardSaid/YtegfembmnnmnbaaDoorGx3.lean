-- Written by a program of this session over the print of the translation (its own patch, foreign contracts, cut ways): not trusted: Lean checks it.
import Derived.Test.YtegfembmnnmnbaaDoorGx0
import Derived.Test.YtegfembmnnmnbaaDoorGx2
namespace Go.Proofs.YtegfembmnnmnbaaDoor.G
open Go.RowKit Go.Proofs.YtegfembmnnmnbaaDoorW.PrintWords Go.Proofs.YtegfembmnnmnbaaDoorW.PrintLast Go.Proofs.YtegfembmnnmnbaaDoorW.PrintMore
attribute [local go_sem] max2_int min2_int max_two min_two max_three min_three max_four min_four   -- for this text's walks alone
set_option linter.unusedVariables false
set_option linter.unusedSimpArgs false

/-! ### caulkref33_Blank: function 31 -/
def caulkref33_Blank.f (k : Nat) (a0 : Int) : Option (Int × Int) := (caulkref33_Shift.f k 4294967295 a0).bind fun bt152 => (if bt152.2 = 0 then (some (Go.bits .xor .u32 4294967295 bt152.1, 0)) else (some (0, bt152.2)))
theorem caulkref33_Blank.mono : ∀ a0 k, LeO (caulkref33_Blank.f k a0) (caulkref33_Blank.f (k + 1) a0) := by
  intro a0 k
  unfold caulkref33_Blank.f
  repeat' first
      | (with_reducible exact caulkref33_Shift.mono _ _ _)
      | (with_reducible exact LeO.refl _)
      | (with_reducible exact LeO.none _)
      | (with_reducible refine LeO.ite ?_ ?_)
      | (with_reducible refine LeO.bind ?_ (fun _ => ?_))
      | exact caulkref33_Shift.mono _ _ _
      | exact LeO.none _
      | refine LeO.ite ?_ ?_
      | refine LeO.bind ?_ (fun _ => ?_)
set_option maxHeartbeats 8000000 in
set_option maxRecDepth 100000 in
theorem caulkref33_Blank.calls (k : Nat) (a0 : Int) (r1 : Int) (r2 : Int) (w : World) (h : caulkref33_Blank.f k a0 = some (r1, r2)) :
    Calls Tryd.prog 31 #[.int .i64 a0] w fun e w' => e = .returned (.tuple #[.int .u32 r1, .int .i64 r2]) ∧ Drawn0 w w' := by
  have H : ((caulkref33_Shift.f k 4294967295 a0).bind fun bt152 => (if bt152.2 = 0 then (some (Go.bits .xor .u32 4294967295 bt152.1, 0)) else (some (0, bt152.2)))) = some (r1, r2) := h
  clear h
  replace H := Option.bind_eq_some_iff.mp H
  obtain ⟨⟨t152, t153⟩, A20, H⟩ := H
  replace H : (if t153 = 0 then (some (Go.bits .xor .u32 4294967295 t152, 0)) else (some (0, t153))) = some (r1, r2) := H
  have A2 := Aside0.mk A20
  clear A20
  by_cases c3 : t153 = 0
  · rw [if_pos c3] at H
    have c3b0 : (t153 == 0) = true := beq_iff_eq.mpr c3
    have c3b1 : (t153 != 0) = false := bne_eq_false_iff_eq.mpr c3
    clear c3
    simp only [Option.some.injEq, Prod.mk.injEq] at H
    obtain ⟨rfl, rfl⟩ := H
    go_enter Tryd.func31, Tryd.ntmps31
    go_wp2_with (first | ((with_reducible refine gate_callee (f := 23) rfl ?_); refine goesL_ (some 8) rfl rfl Tryd.func23 (by kernel_rfl) rfl #[.int .u32 4294967295, .int .i64 a0] rfl (by (try simp only [List.map_toArray, List.map_cons, List.map_nil]); first | done | rfl | (simp only [List.length_drop, List.length_take]; rfl)) ?_; (with_reducible refine (caulkref33_Shift.calls k 4294967295 a0 t152 t153 _ A2.out).mono ?_); rintro e w' ⟨rfl, ⟨nd, rfl⟩⟩; refine ⟨_, rfl, ?_⟩))
    go_ret2
    exact ⟨by first | rfl | (simp; done) | (simp [*]; done), by repeat (first | exact Drawn0.refl _ | apply Drawn0.step)⟩
  · rw [if_neg c3] at H
    have c3b0 : (t153 == 0) = false := beq_eq_false_iff_ne.mpr c3
    have c3b1 : (t153 != 0) = true := bne_iff_ne.mpr c3
    simp only [Option.some.injEq, Prod.mk.injEq] at H
    obtain ⟨rfl, rfl⟩ := H
    go_enter Tryd.func31, Tryd.ntmps31
    go_wp2_with (first | ((with_reducible refine gate_callee (f := 23) rfl ?_); refine goesL_ (some 8) rfl rfl Tryd.func23 (by kernel_rfl) rfl #[.int .u32 4294967295, .int .i64 a0] rfl (by (try simp only [List.map_toArray, List.map_cons, List.map_nil]); first | done | rfl | (simp only [List.length_drop, List.length_take]; rfl)) ?_; (with_reducible refine (caulkref33_Shift.calls k 4294967295 a0 t152 t153 _ A2.out).mono ?_); rintro e w' ⟨rfl, ⟨nd, rfl⟩⟩; refine ⟨_, rfl, ?_⟩))
    go_ret2
    exact ⟨by first | rfl | (simp; done) | (simp [*]; done), by repeat (first | exact Drawn0.refl _ | apply Drawn0.step)⟩

/-! ### caulklaw33_CombineTells: function 8 -/
def caulklaw33_CombineTells.j0 : Nat → Int → Int → Int → Bool → Option (Bool)
  | 0, _, _, _, _ => none
  | k + 1, x0, x1, x2, x32 => if x32 = true then ((caulklaw33_lives.f k).bind fun t154 => (some t154)) else ((combine_Shift.f k x0 x2).bind fun bt155 => ((caulkref33_Shift.f k x0 x2).bind fun bt157 => ((combine_Back.f k x0 x2).bind fun bt159 => ((caulkref33_Back.f k x0 x2).bind fun bt161 => ((combine_Join.f k x0 x1 x2).bind fun bt163 => ((caulkref33_Join.f k x0 x1 x2).bind fun bt165 => ((combine_Head.f k x0 x1 x2).bind fun bt167 => ((caulkref33_Head.f k x0 x1 x2).bind fun bt169 => ((combine_Blank.f k x2).bind fun bt171 => ((caulkref33_Blank.f k x2).bind fun bt173 => ((caulklaw33_lives.f k).bind fun t175 => (if t175 = true then (if bt155.1 = bt157.1 then (if bt155.2 = bt157.2 then (if bt159.1 = bt161.1 then (if bt159.2 = bt161.2 then (if bt163.1 = bt165.1 then (if bt163.2 = bt165.2 then (if bt167.1 = bt169.1 then (if bt167.2 = bt169.2 then (if bt171.1 = bt173.1 then (some (bt171.2 == bt173.2)) else (none)) else (none)) else (none)) else (none)) else (none)) else (none)) else (none)) else (none)) else (none)) else (none)))))))))))))
def caulklaw33_CombineTells.f (k : Nat) (a0 : Int) (a1 : Int) (a2 : Int) : Option (Bool) := if a2 > 16384 then (caulklaw33_CombineTells.j0 k a0 a1 a2 (decide (a2 ≤ 1099511627776))) else (caulklaw33_CombineTells.j0 k a0 a1 a2 false)
theorem caulklaw33_CombineTells.mono_l : ∀ k, (∀ y0 y1 y2 y3, LeO (caulklaw33_CombineTells.j0 k y0 y1 y2 y3) (caulklaw33_CombineTells.j0 (k + 1) y0 y1 y2 y3))
  | 0 => fun _ _ _ _ r h => by simp [caulklaw33_CombineTells.j0] at h
  | k + 1 => by
    have ih0 := caulklaw33_CombineTells.mono_l k
    · intro y0 y1 y2 y3
      unfold caulklaw33_CombineTells.j0
      repeat' first
      | (with_reducible exact ih0 _ _ _ _)
      | (with_reducible exact caulklaw33_lives.mono _)
      | (with_reducible exact caulkref33_Back.mono _ _ _)
      | (with_reducible exact caulkref33_Blank.mono _ _)
      | (with_reducible exact caulkref33_Head.mono _ _ _ _)
      | (with_reducible exact caulkref33_Join.mono _ _ _ _)
      | (with_reducible exact caulkref33_Shift.mono _ _ _)
      | (with_reducible exact combine_Back.mono _ _ _)
      | (with_reducible exact combine_Blank.mono _ _)
      | (with_reducible exact combine_Head.mono _ _ _ _)
      | (with_reducible exact combine_Join.mono _ _ _ _)
      | (with_reducible exact combine_Shift.mono _ _ _)
      | (with_reducible exact LeO.refl _)
      | (with_reducible exact LeO.none _)
      | (with_reducible refine LeO.ite ?_ ?_)
      | (with_reducible refine LeO.bind ?_ (fun _ => ?_))
      | exact ih0 _ _ _ _
      | exact caulklaw33_lives.mono _
      | exact caulkref33_Back.mono _ _ _
      | exact caulkref33_Blank.mono _ _
      | exact caulkref33_Head.mono _ _ _ _
      | exact caulkref33_Join.mono _ _ _ _
      | exact caulkref33_Shift.mono _ _ _
      | exact combine_Back.mono _ _ _
      | exact combine_Blank.mono _ _
      | exact combine_Head.mono _ _ _ _
      | exact combine_Join.mono _ _ _ _
      | exact combine_Shift.mono _ _ _
      | exact LeO.none _
      | refine LeO.ite ?_ ?_
      | refine LeO.bind ?_ (fun _ => ?_)
theorem caulklaw33_CombineTells.mono : ∀ a0 a1 a2 k, LeO (caulklaw33_CombineTells.f k a0 a1 a2) (caulklaw33_CombineTells.f (k + 1) a0 a1 a2) := by
  intro a0 a1 a2 k
  have ih0 := caulklaw33_CombineTells.mono_l k
  unfold caulklaw33_CombineTells.f
  repeat' first
      | (with_reducible exact ih0 _ _ _ _)
      | (with_reducible exact caulklaw33_lives.mono _)
      | (with_reducible exact caulkref33_Back.mono _ _ _)
      | (with_reducible exact caulkref33_Blank.mono _ _)
      | (with_reducible exact caulkref33_Head.mono _ _ _ _)
      | (with_reducible exact caulkref33_Join.mono _ _ _ _)
      | (with_reducible exact caulkref33_Shift.mono _ _ _)
      | (with_reducible exact combine_Back.mono _ _ _)
      | (with_reducible exact combine_Blank.mono _ _)
      | (with_reducible exact combine_Head.mono _ _ _ _)
      | (with_reducible exact combine_Join.mono _ _ _ _)
      | (with_reducible exact combine_Shift.mono _ _ _)
      | (with_reducible exact LeO.refl _)
      | (with_reducible exact LeO.none _)
      | (with_reducible refine LeO.ite ?_ ?_)
      | (with_reducible refine LeO.bind ?_ (fun _ => ?_))
      | exact ih0 _ _ _ _
      | exact caulklaw33_lives.mono _
      | exact caulkref33_Back.mono _ _ _
      | exact caulkref33_Blank.mono _ _
      | exact caulkref33_Head.mono _ _ _ _
      | exact caulkref33_Join.mono _ _ _ _
      | exact caulkref33_Shift.mono _ _ _
      | exact combine_Back.mono _ _ _
      | exact combine_Blank.mono _ _
      | exact combine_Head.mono _ _ _ _
      | exact combine_Join.mono _ _ _ _
      | exact combine_Shift.mono _ _ _
      | exact LeO.none _
      | refine LeO.ite ?_ ?_
      | refine LeO.bind ?_ (fun _ => ?_)
set_option maxHeartbeats 8000000 in
set_option maxRecDepth 100000 in
theorem caulklaw33_CombineTells.calls (k : Nat) (a0 : Int) (a1 : Int) (a2 : Int) (r : Bool) (w : World) (hG : GT w) (h : caulklaw33_CombineTells.f k a0 a1 a2 = some r) :
    Calls Tryd.prog 8 #[.int .u32 a0, .int .u32 a1, .int .i64 a2] w fun e w' => e = .returned (.bool r) ∧ Drawn0 w w' := by
  have HG := Aside0.mk hG
  clear hG
  have H : (if a2 > 16384 then (caulklaw33_CombineTells.j0 k a0 a1 a2 (decide (a2 ≤ 1099511627776))) else (caulklaw33_CombineTells.j0 k a0 a1 a2 false)) = some r := h
  clear h
  have HC4 := Aside0.mk H
  clear H
  go_enter Tryd.func8, Tryd.ntmps8
  go_upto_region 1 with (fail)
  go_cut [32] (fun v32 wc => ∃ (kq : Nat) (x32_3 : Bool), v32 = .bool x32_3 ∧ Aside0 (caulklaw33_CombineTells.j0 kq a0 a1 a2 x32_3 = some r) ∧ Aside0 (kq ≤ k) ∧ Drawn0 w wc)
  case first =>
    have H := HC4.out
    clear HC4
    by_cases c5 : a2 > 16384
    · rw [if_pos c5] at H
      have c5b0 : decide (16384 < a2) = true := decide_eq_true c5
      clear c5
      (first | rw [c5b0] | (simp only [i64_w, i32_w]; rw [c5b0]) | skip)
      have H' := Aside0.mk H
      clear H
      go_wp2
      go_meet
      case rel => exact ⟨_, (decide (a2 ≤ 1099511627776)), (by first | rfl | (simp; done) | (simp [*]; done)), H', ⟨by first | omega | exact Nat.le_refl _⟩, by repeat (first | exact Drawn0.refl _ | apply Drawn0.step)⟩
    · rw [if_neg c5] at H
      have c5b0 : decide (16384 < a2) = false := decide_eq_false c5
      clear c5
      (first | rw [c5b0] | (simp only [i64_w, i32_w]; rw [c5b0]) | skip)
      have H' := Aside0.mk H
      clear H
      go_wp2
      go_meet
      case rel => exact ⟨_, (false), (by first | rfl | (simp; done) | (simp [*]; done)), H', ⟨by first | omega | exact Nat.le_refl _⟩, by repeat (first | exact Drawn0.refl _ | apply Drawn0.step)⟩
  case rest =>
    clear HC4
    try clear p2
    try clear c5
    try clear c5b0
    obtain ⟨kq, x32_3, rfl, HA, HJ3, ⟨mc3, rfl⟩⟩ := hcut
    cases kq with
    | zero => exact absurd HA.out (by simp [caulklaw33_CombineTells.j0])
    | succ kj3 =>
      have H := HA.out
      clear HA
      simp only [caulklaw33_CombineTells.j0] at H
      by_cases c6 : x32_3 = true
      · subst c6
        have H1 : ((caulklaw33_lives.f kj3).bind fun t154 => (some t154)) = some r := by rw [if_pos rfl] at H; exact H
        clear H
        have H := H1
        clear H1
        replace H := Option.bind_eq_some_iff.mp H
        obtain ⟨t154, A70, H⟩ := H
        replace H : (some t154) = some r := H
        have A7 := Aside0.mk A70
        clear A70
        obtain rfl := Option.some.inj H
        go_wp2_with (first | ((with_reducible refine gate_callee (f := 21) rfl ?_); refine goesL_ (some 33) rfl rfl Tryd.func21 (by kernel_rfl) rfl #[] rfl (by (try simp only [List.map_toArray, List.map_cons, List.map_nil]); first | done | rfl | (simp only [List.length_drop, List.length_take]; rfl)) ?_; (with_reducible refine (caulklaw33_lives.calls kj3  t154 _ ?side1 A7.out).mono ?_); (case side1 => repeat (first | exact HG.out | apply GT.drewN | apply GT.drew)); rintro e w' ⟨rfl, ⟨nd, rfl⟩⟩; refine ⟨_, rfl, ?_⟩))
        go_ret
        exact ⟨by first | rfl | (simp; done) | (simp [*]; done), by repeat (first | exact Drawn0.refl _ | apply Drawn0.step)⟩
      · replace c6 := Bool.eq_false_iff.mpr c6
        subst c6
        have H1 : ((combine_Shift.f kj3 a0 a2).bind fun bt155 => ((caulkref33_Shift.f kj3 a0 a2).bind fun bt157 => ((combine_Back.f kj3 a0 a2).bind fun bt159 => ((caulkref33_Back.f kj3 a0 a2).bind fun bt161 => ((combine_Join.f kj3 a0 a1 a2).bind fun bt163 => ((caulkref33_Join.f kj3 a0 a1 a2).bind fun bt165 => ((combine_Head.f kj3 a0 a1 a2).bind fun bt167 => ((caulkref33_Head.f kj3 a0 a1 a2).bind fun bt169 => ((combine_Blank.f kj3 a2).bind fun bt171 => ((caulkref33_Blank.f kj3 a2).bind fun bt173 => ((caulklaw33_lives.f kj3).bind fun t175 => (if t175 = true then (if bt155.1 = bt157.1 then (if bt155.2 = bt157.2 then (if bt159.1 = bt161.1 then (if bt159.2 = bt161.2 then (if bt163.1 = bt165.1 then (if bt163.2 = bt165.2 then (if bt167.1 = bt169.1 then (if bt167.2 = bt169.2 then (if bt171.1 = bt173.1 then (some (bt171.2 == bt173.2)) else (none)) else (none)) else (none)) else (none)) else (none)) else (none)) else (none)) else (none)) else (none)) else (none))))))))))))) = some r := by rw [if_neg (show ¬ (false = true) by decide)] at H; exact H
        clear H
        have H := H1
        clear H1
        replace H := Option.bind_eq_some_iff.mp H
        obtain ⟨⟨t155, t156⟩, A80, H⟩ := H
        replace H : ((caulkref33_Shift.f kj3 a0 a2).bind fun bt157 => ((combine_Back.f kj3 a0 a2).bind fun bt159 => ((caulkref33_Back.f kj3 a0 a2).bind fun bt161 => ((combine_Join.f kj3 a0 a1 a2).bind fun bt163 => ((caulkref33_Join.f kj3 a0 a1 a2).bind fun bt165 => ((combine_Head.f kj3 a0 a1 a2).bind fun bt167 => ((caulkref33_Head.f kj3 a0 a1 a2).bind fun bt169 => ((combine_Blank.f kj3 a2).bind fun bt171 => ((caulkref33_Blank.f kj3 a2).bind fun bt173 => ((caulklaw33_lives.f kj3).bind fun t175 => (if t175 = true then (if t155 = bt157.1 then (if t156 = bt157.2 then (if bt159.1 = bt161.1 then (if bt159.2 = bt161.2 then (if bt163.1 = bt165.1 then (if bt163.2 = bt165.2 then (if bt167.1 = bt169.1 then (if bt167.2 = bt169.2 then (if bt171.1 = bt173.1 then (some (bt171.2 == bt173.2)) else (none)) else (none)) else (none)) else (none)) else (none)) else (none)) else (none)) else (none)) else (none)) else (none)))))))))))) = some r := H
        have A8 := Aside0.mk A80
        clear A80
        replace H := Option.bind_eq_some_iff.mp H
        obtain ⟨⟨t157, t158⟩, A90, H⟩ := H
        replace H : ((combine_Back.f kj3 a0 a2).bind fun bt159 => ((caulkref33_Back.f kj3 a0 a2).bind fun bt161 => ((combine_Join.f kj3 a0 a1 a2).bind fun bt163 => ((caulkref33_Join.f kj3 a0 a1 a2).bind fun bt165 => ((combine_Head.f kj3 a0 a1 a2).bind fun bt167 => ((caulkref33_Head.f kj3 a0 a1 a2).bind fun bt169 => ((combine_Blank.f kj3 a2).bind fun bt171 => ((caulkref33_Blank.f kj3 a2).bind fun bt173 => ((caulklaw33_lives.f kj3).bind fun t175 => (if t175 = true then (if t155 = t157 then (if t156 = t158 then (if bt159.1 = bt161.1 then (if bt159.2 = bt161.2 then (if bt163.1 = bt165.1 then (if bt163.2 = bt165.2 then (if bt167.1 = bt169.1 then (if bt167.2 = bt169.2 then (if bt171.1 = bt173.1 then (some (bt171.2 == bt173.2)) else (none)) else (none)) else (none)) else (none)) else (none)) else (none)) else (none)) else (none)) else (none)) else (none))))))))))) = some r := H
        have A9 := Aside0.mk A90
        clear A90
        replace H := Option.bind_eq_some_iff.mp H
        obtain ⟨⟨t159, t160⟩, A100, H⟩ := H
        replace H : ((caulkref33_Back.f kj3 a0 a2).bind fun bt161 => ((combine_Join.f kj3 a0 a1 a2).bind fun bt163 => ((caulkref33_Join.f kj3 a0 a1 a2).bind fun bt165 => ((combine_Head.f kj3 a0 a1 a2).bind fun bt167 => ((caulkref33_Head.f kj3 a0 a1 a2).bind fun bt169 => ((combine_Blank.f kj3 a2).bind fun bt171 => ((caulkref33_Blank.f kj3 a2).bind fun bt173 => ((caulklaw33_lives.f kj3).bind fun t175 => (if t175 = true then (if t155 = t157 then (if t156 = t158 then (if t159 = bt161.1 then (if t160 = bt161.2 then (if bt163.1 = bt165.1 then (if bt163.2 = bt165.2 then (if bt167.1 = bt169.1 then (if bt167.2 = bt169.2 then (if bt171.1 = bt173.1 then (some (bt171.2 == bt173.2)) else (none)) else (none)) else (none)) else (none)) else (none)) else (none)) else (none)) else (none)) else (none)) else (none)))))))))) = some r := H
        have A10 := Aside0.mk A100
        clear A100
        replace H := Option.bind_eq_some_iff.mp H
        obtain ⟨⟨t161, t162⟩, A110, H⟩ := H
        replace H : ((combine_Join.f kj3 a0 a1 a2).bind fun bt163 => ((caulkref33_Join.f kj3 a0 a1 a2).bind fun bt165 => ((combine_Head.f kj3 a0 a1 a2).bind fun bt167 => ((caulkref33_Head.f kj3 a0 a1 a2).bind fun bt169 => ((combine_Blank.f kj3 a2).bind fun bt171 => ((caulkref33_Blank.f kj3 a2).bind fun bt173 => ((caulklaw33_lives.f kj3).bind fun t175 => (if t175 = true then (if t155 = t157 then (if t156 = t158 then (if t159 = t161 then (if t160 = t162 then (if bt163.1 = bt165.1 then (if bt163.2 = bt165.2 then (if bt167.1 = bt169.1 then (if bt167.2 = bt169.2 then (if bt171.1 = bt173.1 then (some (bt171.2 == bt173.2)) else (none)) else (none)) else (none)) else (none)) else (none)) else (none)) else (none)) else (none)) else (none)) else (none))))))))) = some r := H
        have A11 := Aside0.mk A110
        clear A110
        replace H := Option.bind_eq_some_iff.mp H
        obtain ⟨⟨t163, t164⟩, A120, H⟩ := H
        replace H : ((caulkref33_Join.f kj3 a0 a1 a2).bind fun bt165 => ((combine_Head.f kj3 a0 a1 a2).bind fun bt167 => ((caulkref33_Head.f kj3 a0 a1 a2).bind fun bt169 => ((combine_Blank.f kj3 a2).bind fun bt171 => ((caulkref33_Blank.f kj3 a2).bind fun bt173 => ((caulklaw33_lives.f kj3).bind fun t175 => (if t175 = true then (if t155 = t157 then (if t156 = t158 then (if t159 = t161 then (if t160 = t162 then (if t163 = bt165.1 then (if t164 = bt165.2 then (if bt167.1 = bt169.1 then (if bt167.2 = bt169.2 then (if bt171.1 = bt173.1 then (some (bt171.2 == bt173.2)) else (none)) else (none)) else (none)) else (none)) else (none)) else (none)) else (none)) else (none)) else (none)) else (none)))))))) = some r := H
        have A12 := Aside0.mk A120
        clear A120
        replace H := Option.bind_eq_some_iff.mp H
        obtain ⟨⟨t165, t166⟩, A130, H⟩ := H
        replace H : ((combine_Head.f kj3 a0 a1 a2).bind fun bt167 => ((caulkref33_Head.f kj3 a0 a1 a2).bind fun bt169 => ((combine_Blank.f kj3 a2).bind fun bt171 => ((caulkref33_Blank.f kj3 a2).bind fun bt173 => ((caulklaw33_lives.f kj3).bind fun t175 => (if t175 = true then (if t155 = t157 then (if t156 = t158 then (if t159 = t161 then (if t160 = t162 then (if t163 = t165 then (if t164 = t166 then (if bt167.1 = bt169.1 then (if bt167.2 = bt169.2 then (if bt171.1 = bt173.1 then (some (bt171.2 == bt173.2)) else (none)) else (none)) else (none)) else (none)) else (none)) else (none)) else (none)) else (none)) else (none)) else (none))))))) = some r := H
        have A13 := Aside0.mk A130
        clear A130
        replace H := Option.bind_eq_some_iff.mp H
        obtain ⟨⟨t167, t168⟩, A140, H⟩ := H
        replace H : ((caulkref33_Head.f kj3 a0 a1 a2).bind fun bt169 => ((combine_Blank.f kj3 a2).bind fun bt171 => ((caulkref33_Blank.f kj3 a2).bind fun bt173 => ((caulklaw33_lives.f kj3).bind fun t175 => (if t175 = true then (if t155 = t157 then (if t156 = t158 then (if t159 = t161 then (if t160 = t162 then (if t163 = t165 then (if t164 = t166 then (if t167 = bt169.1 then (if t168 = bt169.2 then (if bt171.1 = bt173.1 then (some (bt171.2 == bt173.2)) else (none)) else (none)) else (none)) else (none)) else (none)) else (none)) else (none)) else (none)) else (none)) else (none)))))) = some r := H
        have A14 := Aside0.mk A140
        clear A140
        replace H := Option.bind_eq_some_iff.mp H
        obtain ⟨⟨t169, t170⟩, A150, H⟩ := H
        replace H : ((combine_Blank.f kj3 a2).bind fun bt171 => ((caulkref33_Blank.f kj3 a2).bind fun bt173 => ((caulklaw33_lives.f kj3).bind fun t175 => (if t175 = true then (if t155 = t157 then (if t156 = t158 then (if t159 = t161 then (if t160 = t162 then (if t163 = t165 then (if t164 = t166 then (if t167 = t169 then (if t168 = t170 then (if bt171.1 = bt173.1 then (some (bt171.2 == bt173.2)) else (none)) else (none)) else (none)) else (none)) else (none)) else (none)) else (none)) else (none)) else (none)) else (none))))) = some r := H
        have A15 := Aside0.mk A150
        clear A150
        replace H := Option.bind_eq_some_iff.mp H
        obtain ⟨⟨t171, t172⟩, A160, H⟩ := H
        replace H : ((caulkref33_Blank.f kj3 a2).bind fun bt173 => ((caulklaw33_lives.f kj3).bind fun t175 => (if t175 = true then (if t155 = t157 then (if t156 = t158 then (if t159 = t161 then (if t160 = t162 then (if t163 = t165 then (if t164 = t166 then (if t167 = t169 then (if t168 = t170 then (if t171 = bt173.1 then (some (t172 == bt173.2)) else (none)) else (none)) else (none)) else (none)) else (none)) else (none)) else (none)) else (none)) else (none)) else (none)))) = some r := H
        have A16 := Aside0.mk A160
        clear A160
        replace H := Option.bind_eq_some_iff.mp H
        obtain ⟨⟨t173, t174⟩, A170, H⟩ := H
        replace H : ((caulklaw33_lives.f kj3).bind fun t175 => (if t175 = true then (if t155 = t157 then (if t156 = t158 then (if t159 = t161 then (if t160 = t162 then (if t163 = t165 then (if t164 = t166 then (if t167 = t169 then (if t168 = t170 then (if t171 = t173 then (some (t172 == t174)) else (none)) else (none)) else (none)) else (none)) else (none)) else (none)) else (none)) else (none)) else (none)) else (none))) = some r := H
        have A17 := Aside0.mk A170
        clear A170
        replace H := Option.bind_eq_some_iff.mp H
        obtain ⟨t175, A180, H⟩ := H
        replace H : (if t175 = true then (if t155 = t157 then (if t156 = t158 then (if t159 = t161 then (if t160 = t162 then (if t163 = t165 then (if t164 = t166 then (if t167 = t169 then (if t168 = t170 then (if t171 = t173 then (some (t172 == t174)) else (none)) else (none)) else (none)) else (none)) else (none)) else (none)) else (none)) else (none)) else (none)) else (none)) = some r := H
        have A18 := Aside0.mk A180
        clear A180
        by_cases c19 : t175 = true
        · subst c19
          have H1 : (if t155 = t157 then (if t156 = t158 then (if t159 = t161 then (if t160 = t162 then (if t163 = t165 then (if t164 = t166 then (if t167 = t169 then (if t168 = t170 then (if t171 = t173 then (some (t172 == t174)) else (none)) else (none)) else (none)) else (none)) else (none)) else (none)) else (none)) else (none)) else (none)) = some r := by rw [if_pos rfl] at H; exact H
          clear H
          have H := H1
          clear H1
          by_cases c20 : t155 = t157
          · rw [if_pos c20] at H
            have c20b0 : (t155 == t157) = true := beq_iff_eq.mpr c20
            have c20b1 : (t155 != t157) = false := bne_eq_false_iff_eq.mpr c20
            clear c20
            by_cases c21 : t156 = t158
            · rw [if_pos c21] at H
              have c21b0 : (t156 == t158) = true := beq_iff_eq.mpr c21
              have c21b1 : (t156 != t158) = false := bne_eq_false_iff_eq.mpr c21
              clear c21
              by_cases c22 : t159 = t161
              · rw [if_pos c22] at H
                have c22b0 : (t159 == t161) = true := beq_iff_eq.mpr c22
                have c22b1 : (t159 != t161) = false := bne_eq_false_iff_eq.mpr c22
                clear c22
                by_cases c23 : t160 = t162
                · rw [if_pos c23] at H
                  have c23b0 : (t160 == t162) = true := beq_iff_eq.mpr c23
                  have c23b1 : (t160 != t162) = false := bne_eq_false_iff_eq.mpr c23
                  clear c23
                  by_cases c24 : t163 = t165
                  · rw [if_pos c24] at H
                    have c24b0 : (t163 == t165) = true := beq_iff_eq.mpr c24
                    have c24b1 : (t163 != t165) = false := bne_eq_false_iff_eq.mpr c24
                    clear c24
                    by_cases c25 : t164 = t166
                    · rw [if_pos c25] at H
                      have c25b0 : (t164 == t166) = true := beq_iff_eq.mpr c25
                      have c25b1 : (t164 != t166) = false := bne_eq_false_iff_eq.mpr c25
                      clear c25
                      by_cases c26 : t167 = t169
                      · rw [if_pos c26] at H
                        have c26b0 : (t167 == t169) = true := beq_iff_eq.mpr c26
                        have c26b1 : (t167 != t169) = false := bne_eq_false_iff_eq.mpr c26
                        clear c26
                        by_cases c27 : t168 = t170
                        · rw [if_pos c27] at H
                          have c27b0 : (t168 == t170) = true := beq_iff_eq.mpr c27
                          have c27b1 : (t168 != t170) = false := bne_eq_false_iff_eq.mpr c27
                          clear c27
                          by_cases c28 : t171 = t173
                          · rw [if_pos c28] at H
                            have c28b0 : (t171 == t173) = true := beq_iff_eq.mpr c28
                            have c28b1 : (t171 != t173) = false := bne_eq_false_iff_eq.mpr c28
                            clear c28
                            obtain rfl := Option.some.inj H
                            go_wp2_with (first | ((with_reducible refine gate_callee (f := 22) rfl ?_); refine goesL_ (some 37) rfl rfl Tryd.func22 (by kernel_rfl) rfl #[.int .u32 a0, .int .i64 a2] rfl (by (try simp only [List.map_toArray, List.map_cons, List.map_nil]); first | done | rfl | (simp only [List.length_drop, List.length_take]; rfl)) ?_; (with_reducible refine (combine_Shift.calls kj3 a0 a2 t155 t156 _ A8.out).mono ?_); rintro e w' ⟨rfl, ⟨nd, rfl⟩⟩; refine ⟨_, rfl, ?_⟩) | ((with_reducible refine gate_callee (f := 23) rfl ?_); refine goesL_ (some 43) rfl rfl Tryd.func23 (by kernel_rfl) rfl #[.int .u32 a0, .int .i64 a2] rfl (by (try simp only [List.map_toArray, List.map_cons, List.map_nil]); first | done | rfl | (simp only [List.length_drop, List.length_take]; rfl)) ?_; (with_reducible refine (caulkref33_Shift.calls kj3 a0 a2 t157 t158 _ A9.out).mono ?_); rintro e w' ⟨rfl, ⟨nd, rfl⟩⟩; refine ⟨_, rfl, ?_⟩) | ((with_reducible refine gate_callee (f := 24) rfl ?_); refine goesL_ (some 49) rfl rfl Tryd.func24 (by kernel_rfl) rfl #[.int .u32 a0, .int .i64 a2] rfl (by (try simp only [List.map_toArray, List.map_cons, List.map_nil]); first | done | rfl | (simp only [List.length_drop, List.length_take]; rfl)) ?_; (with_reducible refine (combine_Back.calls kj3 a0 a2 t159 t160 _ A10.out).mono ?_); rintro e w' ⟨rfl, ⟨nd, rfl⟩⟩; refine ⟨_, rfl, ?_⟩) | ((with_reducible refine gate_callee (f := 25) rfl ?_); refine goesL_ (some 55) rfl rfl Tryd.func25 (by kernel_rfl) rfl #[.int .u32 a0, .int .i64 a2] rfl (by (try simp only [List.map_toArray, List.map_cons, List.map_nil]); first | done | rfl | (simp only [List.length_drop, List.length_take]; rfl)) ?_; (with_reducible refine (caulkref33_Back.calls kj3 a0 a2 t161 t162 _ A11.out).mono ?_); rintro e w' ⟨rfl, ⟨nd, rfl⟩⟩; refine ⟨_, rfl, ?_⟩) | ((with_reducible refine gate_callee (f := 26) rfl ?_); refine goesL_ (some 62) rfl rfl Tryd.func26 (by kernel_rfl) rfl #[.int .u32 a0, .int .u32 a1, .int .i64 a2] rfl (by (try simp only [List.map_toArray, List.map_cons, List.map_nil]); first | done | rfl | (simp only [List.length_drop, List.length_take]; rfl)) ?_; (with_reducible refine (combine_Join.calls kj3 a0 a1 a2 t163 t164 _ A12.out).mono ?_); rintro e w' ⟨rfl, ⟨nd, rfl⟩⟩; refine ⟨_, rfl, ?_⟩) | ((with_reducible refine gate_callee (f := 27) rfl ?_); refine goesL_ (some 69) rfl rfl Tryd.func27 (by kernel_rfl) rfl #[.int .u32 a0, .int .u32 a1, .int .i64 a2] rfl (by (try simp only [List.map_toArray, List.map_cons, List.map_nil]); first | done | rfl | (simp only [List.length_drop, List.length_take]; rfl)) ?_; (with_reducible refine (caulkref33_Join.calls kj3 a0 a1 a2 t165 t166 _ A13.out).mono ?_); rintro e w' ⟨rfl, ⟨nd, rfl⟩⟩; refine ⟨_, rfl, ?_⟩) | ((with_reducible refine gate_callee (f := 28) rfl ?_); refine goesL_ (some 76) rfl rfl Tryd.func28 (by kernel_rfl) rfl #[.int .u32 a0, .int .u32 a1, .int .i64 a2] rfl (by (try simp only [List.map_toArray, List.map_cons, List.map_nil]); first | done | rfl | (simp only [List.length_drop, List.length_take]; rfl)) ?_; (with_reducible refine (combine_Head.calls kj3 a0 a1 a2 t167 t168 _ A14.out).mono ?_); rintro e w' ⟨rfl, ⟨nd, rfl⟩⟩; refine ⟨_, rfl, ?_⟩) | ((with_reducible refine gate_callee (f := 29) rfl ?_); refine goesL_ (some 83) rfl rfl Tryd.func29 (by kernel_rfl) rfl #[.int .u32 a0, .int .u32 a1, .int .i64 a2] rfl (by (try simp only [List.map_toArray, List.map_cons, List.map_nil]); first | done | rfl | (simp only [List.length_drop, List.length_take]; rfl)) ?_; (with_reducible refine (caulkref33_Head.calls kj3 a0 a1 a2 t169 t170 _ A15.out).mono ?_); rintro e w' ⟨rfl, ⟨nd, rfl⟩⟩; refine ⟨_, rfl, ?_⟩) | ((with_reducible refine gate_callee (f := 30) rfl ?_); refine goesL_ (some 88) rfl rfl Tryd.func30 (by kernel_rfl) rfl #[.int .i64 a2] rfl (by (try simp only [List.map_toArray, List.map_cons, List.map_nil]); first | done | rfl | (simp only [List.length_drop, List.length_take]; rfl)) ?_; (with_reducible refine (combine_Blank.calls kj3 a2 t171 t172 _ A16.out).mono ?_); rintro e w' ⟨rfl, ⟨nd, rfl⟩⟩; refine ⟨_, rfl, ?_⟩) | ((with_reducible refine gate_callee (f := 31) rfl ?_); refine goesL_ (some 93) rfl rfl Tryd.func31 (by kernel_rfl) rfl #[.int .i64 a2] rfl (by (try simp only [List.map_toArray, List.map_cons, List.map_nil]); first | done | rfl | (simp only [List.length_drop, List.length_take]; rfl)) ?_; (with_reducible refine (caulkref33_Blank.calls kj3 a2 t173 t174 _ A17.out).mono ?_); rintro e w' ⟨rfl, ⟨nd, rfl⟩⟩; refine ⟨_, rfl, ?_⟩) | ((with_reducible refine gate_callee (f := 21) rfl ?_); refine goesL_ (some 96) rfl rfl Tryd.func21 (by kernel_rfl) rfl #[] rfl (by (try simp only [List.map_toArray, List.map_cons, List.map_nil]); first | done | rfl | (simp only [List.length_drop, List.length_take]; rfl)) ?_; (with_reducible refine (caulklaw33_lives.calls kj3  true _ ?side1 A18.out).mono ?_); (case side1 => repeat (first | exact HG.out | apply GT.drewN | apply GT.drew)); rintro e w' ⟨rfl, ⟨nd, rfl⟩⟩; refine ⟨_, rfl, ?_⟩))
                            go_ret
                            exact ⟨by first | rfl | (simp; done) | (simp [*]; done), by repeat (first | exact Drawn0.refl _ | apply Drawn0.step)⟩
                          · rw [if_neg c28] at H
                            exact absurd H (by simp)
                        · rw [if_neg c27] at H
                          exact absurd H (by simp)
                      · rw [if_neg c26] at H
                        exact absurd H (by simp)
                    · rw [if_neg c25] at H
                      exact absurd H (by simp)
                  · rw [if_neg c24] at H
                    exact absurd H (by simp)
                · rw [if_neg c23] at H
                  exact absurd H (by simp)
              · rw [if_neg c22] at H
                exact absurd H (by simp)
            · rw [if_neg c21] at H
              exact absurd H (by simp)
          · rw [if_neg c20] at H
            exact absurd H (by simp)
        · replace c19 := Bool.eq_false_iff.mpr c19
          subst c19
          have H1 : (none) = some r := by rw [if_neg (show ¬ (false = true) by decide)] at H; exact H
          clear H
          have H := H1
          clear H1
          exact absurd H (by simp)

def caulklaw33_CombineTells.Pure : Prop := ∀ (a0 : Int) (a1 : Int) (a2 : Int), (Lit.int .u32 a0).wf = true → (Lit.int .u32 a1).wf = true → (Lit.int .i64 a2).wf = true → ∃ k, caulklaw33_CombineTells.f k a0 a1 a2 = some true

end Go.Proofs.YtegfembmnnmnbaaDoor.G
