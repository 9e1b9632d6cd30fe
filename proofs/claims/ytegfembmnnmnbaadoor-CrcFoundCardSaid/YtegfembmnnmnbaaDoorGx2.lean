-- Written by a program of this session over the print of the translation (its own patch, foreign contracts, cut ways): not trusted: Lean checks it.
import Derived.Test.YtegfembmnnmnbaaDoorGx0
import Derived.Test.YtegfembmnnmnbaaDoorGx1
import Derived.Test.YtegfembmnnmnbaaDoorBurst
import Derived.Test.YtegfembmnnmnbaaDoorCrcAdd
import Derived.Test.YtegfembmnnmnbaaDoorCrcBytes
namespace Go.Proofs.YtegfembmnnmnbaaDoor.G
open Go.RowKit Go.Proofs.YtegfembmnnmnbaaDoorW.PrintWords Go.Proofs.YtegfembmnnmnbaaDoorW.PrintLast Go.Proofs.YtegfembmnnmnbaaDoorW.PrintMore
attribute [local go_sem] max2_int min2_int max_two min_two max_three min_three max_four min_four   -- for this text's walks alone
set_option linter.unusedVariables false
set_option linter.unusedSimpArgs false

/-! ### caulklaw01_CrcAdds: function 4 -/
def caulklaw01_CrcAdds.f (k : Nat) (a0 : Int) (a1 : ByteArray) : Option (Bool) := (caulklaw01_lives.f).bind fun t125 => (if t125 = true then (if (a1.size : Int) > 131072 then (some true) else ((crc_Add.f a0 a1).bind fun t126 => ((caulkref01_Add.f k a0 a1).bind fun t127 => (if t126 = t127 then ((crc_End.f a0).bind fun t128 => (some (t128 == (Go.bits .xor .u32 4294967295 a0)))) else (none))))) else (none))
theorem caulklaw01_CrcAdds.mono : ∀ a0 a1 k, LeO (caulklaw01_CrcAdds.f k a0 a1) (caulklaw01_CrcAdds.f (k + 1) a0 a1) := by
  intro a0 a1 k
  unfold caulklaw01_CrcAdds.f
  repeat' first
      | (with_reducible exact caulkref01_Add.mono _ _ _)
      | (with_reducible exact LeO.refl _)
      | (with_reducible exact LeO.none _)
      | (with_reducible refine LeO.ite ?_ ?_)
      | (with_reducible refine LeO.bind ?_ (fun _ => ?_))
      | exact caulkref01_Add.mono _ _ _
      | exact LeO.none _
      | refine LeO.ite ?_ ?_
      | refine LeO.bind ?_ (fun _ => ?_)
set_option maxHeartbeats 8000000 in
set_option maxRecDepth 100000 in
theorem caulklaw01_CrcAdds.calls (k : Nat) (a0 : Int) (a1 : ByteArray) (r : Bool) (w : World) (hG : GT w) (h : caulklaw01_CrcAdds.f k a0 a1 = some r) :
    Calls Tryd.prog 4 #[.int .u32 a0, .string a1] w fun e w' => e = .returned (.bool r) ∧ Below w.heap.size w w' := by
  have HB := Aside0.mk (Below.refl w.heap.size w)
  have HG := Aside0.mk hG
  clear hG
  have H : ((caulklaw01_lives.f).bind fun t125 => (if t125 = true then (if (a1.size : Int) > 131072 then (some true) else ((crc_Add.f a0 a1).bind fun t126 => ((caulkref01_Add.f k a0 a1).bind fun t127 => (if t126 = t127 then ((crc_End.f a0).bind fun t128 => (some (t128 == (Go.bits .xor .u32 4294967295 a0)))) else (none))))) else (none))) = some r := h
  clear h
  replace H := Option.bind_eq_some_iff.mp H
  obtain ⟨t125, A30, H⟩ := H
  replace H : (if t125 = true then (if (a1.size : Int) > 131072 then (some true) else ((crc_Add.f a0 a1).bind fun t126 => ((caulkref01_Add.f k a0 a1).bind fun t127 => (if t126 = t127 then ((crc_End.f a0).bind fun t128 => (some (t128 == (Go.bits .xor .u32 4294967295 a0)))) else (none))))) else (none)) = some r := H
  have A3 := Aside0.mk A30
  clear A30
  by_cases c4 : t125 = true
  · subst c4
    have H1 : (if (a1.size : Int) > 131072 then (some true) else ((crc_Add.f a0 a1).bind fun t126 => ((caulkref01_Add.f k a0 a1).bind fun t127 => (if t126 = t127 then ((crc_End.f a0).bind fun t128 => (some (t128 == (Go.bits .xor .u32 4294967295 a0)))) else (none))))) = some r := by rw [if_pos rfl] at H; exact H
    clear H
    have H := H1
    clear H1
    by_cases c5 : (a1.size : Int) > 131072
    · rw [if_pos c5] at H
      have c5b0 : decide (131072 < (a1.size : Int)) = true := decide_eq_true c5
      have c5b1 : decide (131072 < a1.size) = true := decide_eq_true (by omega)
      clear c5
      obtain rfl := Option.some.inj H
      go_enter Tryd.func4, Tryd.ntmps4
      go_wp2_with (first | ((with_reducible refine gate_bin rfl ?_); first | (refine step_val (v := .bool true) (by rfl) (by first | (go_simp; done) | (go_simp; rfl)) ?_) | (refine step_val (v := .bool false) (by rfl) (by first | (go_simp; done) | (go_simp; rfl)) ?_)) | ((with_reducible refine gate_store rfl ?_); refine step_unit (by rfl) ?hst ?_; (case hst => go_simp; rfl)) | ((with_reducible refine gate_callee (f := 9) rfl ?_); refine goesL_ (some 5) rfl rfl Tryd.func9 (by kernel_rfl) rfl #[] rfl (by (try simp only [List.map_toArray, List.map_cons, List.map_nil]); first | done | rfl | (simp only [List.length_drop, List.length_take]; rfl)) ?_; (with_reducible refine (caulklaw01_lives.calls  true _ ?side1 A3.out).mono ?_); (case side1 => first | exact HG.out | exact GT.below HG.out (by repeat (first | (with_reducible first | exact HB.out | apply below_alloc | apply pw_below_drewN | apply below_drew1) | exact HB.out))); rintro e w6 ⟨rfl, hb⟩; refine ⟨_, rfl, ?_⟩; have n0_ := Aside0.mk (below_step (by repeat (first | (with_reducible first | exact HB.out | apply below_alloc | apply pw_below_drewN | apply below_drew1) | exact HB.out)) hb); clear HB; have HB := n0_; clear n0_; (try clear hb); (try clear hb2); (try clear hk); (try clear hi)))
      go_ret
      exact ⟨by first | rfl | (simp [errW_none, errW_some] <;> rfl) | (simp [*, errW_none, errW_some] <;> rfl), by repeat (first | (with_reducible first | exact HB.out | apply below_alloc | apply pw_below_drewN | apply below_drew1) | exact HB.out)⟩
    · rw [if_neg c5] at H
      have c5b0 : decide (131072 < (a1.size : Int)) = false := decide_eq_false c5
      have c5b1 : decide (131072 < a1.size) = false := decide_eq_false (by omega)
      clear c5
      replace H := Option.bind_eq_some_iff.mp H
      obtain ⟨t126, A70, H⟩ := H
      replace H : ((caulkref01_Add.f k a0 a1).bind fun t127 => (if t126 = t127 then ((crc_End.f a0).bind fun t128 => (some (t128 == (Go.bits .xor .u32 4294967295 a0)))) else (none))) = some r := H
      have A7 := Aside0.mk A70
      clear A70
      replace H := Option.bind_eq_some_iff.mp H
      obtain ⟨t127, A80, H⟩ := H
      replace H : (if t126 = t127 then ((crc_End.f a0).bind fun t128 => (some (t128 == (Go.bits .xor .u32 4294967295 a0)))) else (none)) = some r := H
      have A8 := Aside0.mk A80
      clear A80
      by_cases c9 : t126 = t127
      · rw [if_pos c9] at H
        have c9b0 : (t126 == t127) = true := beq_iff_eq.mpr c9
        have c9b1 : (t126 != t127) = false := bne_eq_false_iff_eq.mpr c9
        clear c9
        replace H := Option.bind_eq_some_iff.mp H
        obtain ⟨t128, A100, H⟩ := H
        replace H : (some (t128 == (Go.bits .xor .u32 4294967295 a0))) = some r := H
        have A10 := Aside0.mk A100
        clear A100
        obtain rfl := Option.some.inj H
        go_enter Tryd.func4, Tryd.ntmps4
        go_wp2_with (first | ((with_reducible refine gate_bin rfl ?_); first | (refine step_val (v := .bool true) (by rfl) (by first | (go_simp; done) | (go_simp; rfl)) ?_) | (refine step_val (v := .bool false) (by rfl) (by first | (go_simp; done) | (go_simp; rfl)) ?_)) | ((with_reducible refine gate_store rfl ?_); refine step_unit (by rfl) ?hst ?_; (case hst => go_simp; rfl)) | ((with_reducible refine gate_callee (f := 9) rfl ?_); refine goesL_ (some 5) rfl rfl Tryd.func9 (by kernel_rfl) rfl #[] rfl (by (try simp only [List.map_toArray, List.map_cons, List.map_nil]); first | done | rfl | (simp only [List.length_drop, List.length_take]; rfl)) ?_; (with_reducible refine (caulklaw01_lives.calls  true _ ?side1 A3.out).mono ?_); (case side1 => first | exact HG.out | exact GT.below HG.out (by repeat (first | (with_reducible first | exact HB.out | apply below_alloc | apply pw_below_drewN | apply below_drew1) | exact HB.out))); rintro e w11 ⟨rfl, hb⟩; refine ⟨_, rfl, ?_⟩; have n0_ := Aside0.mk (below_step (by repeat (first | (with_reducible first | exact HB.out | apply below_alloc | apply pw_below_drewN | apply below_drew1) | exact HB.out)) hb); clear HB; have HB := n0_; clear n0_; (try clear hb); (try clear hb2); (try clear hk); (try clear hi)) | (go_at_call 16; (with_reducible refine (crc_Add.calls a0 a1 t126 _ ?side1 A7.out).mono ?_); (case side1 => first | exact HG.out | exact GT.below HG.out (by repeat (first | (with_reducible first | exact HB.out | apply below_alloc | apply pw_below_drewN | apply below_drew1) | exact HB.out))); rintro e w' ⟨rfl, ⟨nd, rfl⟩⟩) | (go_at_call 17; (with_reducible refine (caulkref01_Add.calls k a0 a1 t127 _ A8.out).mono ?_); rintro e w' ⟨rfl, ⟨nd, rfl⟩⟩) | (go_at_call 18; (with_reducible refine (crc_End.calls a0 t128 _ A10.out).mono ?_); rintro e w' ⟨rfl, ⟨nd, rfl⟩⟩))
        go_ret
        exact ⟨by first | rfl | (simp [errW_none, errW_some] <;> rfl) | (simp [*, errW_none, errW_some] <;> rfl), by repeat (first | (with_reducible first | exact HB.out | apply below_alloc | apply pw_below_drewN | apply below_drew1) | exact HB.out)⟩
      · rw [if_neg c9] at H
        exact absurd H (by simp)
  · replace c4 := Bool.eq_false_iff.mpr c4
    subst c4
    have H1 : (none) = some r := by rw [if_neg (show ¬ (false = true) by decide)] at H; exact H
    clear H
    have H := H1
    clear H1
    exact absurd H (by simp)

def caulklaw01_CrcAdds.Pure : Prop := ∀ (a0 : Int) (a1 : ByteArray), (Lit.int .u32 a0).wf = true → a1.size ≤ 140737488351232 → ∃ k, caulklaw01_CrcAdds.f k a0 a1 = some true

/-! ### caulklaw01_CrcPieces: function 5 -/
mutual
def caulklaw01_CrcPieces.j1 : Nat → ByteArray → Int → Option (Bool)
  | 0, _, _ => none
  | k + 1, x3, x4 => (crc_End.f x4).bind fun t133 => ((crc_Sum.f x3).bind fun t134 => (if t133 = t134 then ((crc_Bytes.f x3).bind fun t135 => (if x3.size + t135.size ≤ 9223372036854775807 then ((crc_Good.f (x3 ++ t135)).bind fun t136 => (some t136)) else (none))) else (none)))
def caulklaw01_CrcPieces.l0 : Nat → ByteArray → Int → List ByteArray → Int → Int → Option (Bool)
  | 0, _, _, _, _, _ => none
  | k + 1, x3, x4, x10, x11, x12 => if x12 < x11 then (if 0 ≤ x12 then (if x12 < (x10.length : Int) then (if x12 = 60 then (caulklaw01_CrcPieces.j1 k x3 x4) else (if (x3.size : Int) > 131072 then (caulklaw01_CrcPieces.j1 k x3 x4) else (if ((rdOf ByteArray.empty x10 x12).size : Int) > 131072 then (caulklaw01_CrcPieces.j1 k x3 x4) else (if x3.size + (rdOf ByteArray.empty x10 x12).size ≤ 9223372036854775807 then ((crc_Add.f x4 (rdOf ByteArray.empty x10 x12)).bind fun t132 => (caulklaw01_CrcPieces.l0 k (x3 ++ (rdOf ByteArray.empty x10 x12)) t132 x10 x11 (wrap64 (x12 + 1)))) else (none))))) else (none)) else (none)) else (caulklaw01_CrcPieces.j1 k x3 x4)
end
def caulklaw01_CrcPieces.f (k : Nat) (l0 : List ByteArray) : Option (Bool) := (caulklaw01_lives.f).bind fun t129 => (if t129 = true then ((crc_Start.f).bind fun t130 => (caulklaw01_CrcPieces.l0 k (⟨#[]⟩ : ByteArray) t130 l0 (l0.length : Int) 0)) else (none))
theorem caulklaw01_CrcPieces.mono_l : ∀ k, (∀ y0 y1, LeO (caulklaw01_CrcPieces.j1 k y0 y1) (caulklaw01_CrcPieces.j1 (k + 1) y0 y1)) ∧ (∀ y0 y1 y2 y3 y4, LeO (caulklaw01_CrcPieces.l0 k y0 y1 y2 y3 y4) (caulklaw01_CrcPieces.l0 (k + 1) y0 y1 y2 y3 y4))
  | 0 => ⟨fun _ _ r h => by simp [caulklaw01_CrcPieces.j1] at h, fun _ _ _ _ _ r h => by simp [caulklaw01_CrcPieces.l0] at h⟩
  | k + 1 => by
    obtain ⟨ih0, ih1⟩ := caulklaw01_CrcPieces.mono_l k
    refine ⟨?_, ?_⟩
    · intro y0 y1
      unfold caulklaw01_CrcPieces.j1
      repeat' first
      | (with_reducible exact ih0 _ _)
      | (with_reducible exact ih1 _ _ _ _ _)
      | (with_reducible exact LeO.refl _)
      | (with_reducible exact LeO.none _)
      | (with_reducible refine LeO.ite ?_ ?_)
      | (with_reducible refine LeO.bind ?_ (fun _ => ?_))
      | exact ih0 _ _
      | exact ih1 _ _ _ _ _
      | exact LeO.none _
      | refine LeO.ite ?_ ?_
      | refine LeO.bind ?_ (fun _ => ?_)
    · intro y0 y1 y2 y3 y4
      unfold caulklaw01_CrcPieces.l0
      repeat' first
      | (with_reducible exact ih0 _ _)
      | (with_reducible exact ih1 _ _ _ _ _)
      | (with_reducible exact LeO.refl _)
      | (with_reducible exact LeO.none _)
      | (with_reducible refine LeO.ite ?_ ?_)
      | (with_reducible refine LeO.bind ?_ (fun _ => ?_))
      | exact ih0 _ _
      | exact ih1 _ _ _ _ _
      | exact LeO.none _
      | refine LeO.ite ?_ ?_
      | refine LeO.bind ?_ (fun _ => ?_)
theorem caulklaw01_CrcPieces.mono : ∀ a0 k, LeO (caulklaw01_CrcPieces.f k a0) (caulklaw01_CrcPieces.f (k + 1) a0) := by
  intro a0 k
  obtain ⟨ih0, ih1⟩ := caulklaw01_CrcPieces.mono_l k
  unfold caulklaw01_CrcPieces.f
  repeat' first
      | (with_reducible exact ih0 _ _)
      | (with_reducible exact ih1 _ _ _ _ _)
      | (with_reducible exact LeO.refl _)
      | (with_reducible exact LeO.none _)
      | (with_reducible refine LeO.ite ?_ ?_)
      | (with_reducible refine LeO.bind ?_ (fun _ => ?_))
      | exact ih0 _ _
      | exact ih1 _ _ _ _ _
      | exact LeO.none _
      | refine LeO.ite ?_ ?_
      | refine LeO.bind ?_ (fun _ => ?_)
set_option maxHeartbeats 8000000 in
set_option maxRecDepth 100000 in
theorem caulklaw01_CrcPieces.calls (k : Nat) (A0 : Option Addr) (c0 : Nat) (l0 : List ByteArray) (r : Bool) (w : World) (hr0 : Kd.C Kd.string w A0 l0.length l0) (hc0 : l0.length ≤ c0) (hG : GT w) (h : caulklaw01_CrcPieces.f k l0 = some r) :
    Calls Tryd.prog 5 #[.slice A0 l0.length c0] w fun e w' => e = .returned (.bool r) ∧ Below w.heap.size w w' := by
  have HR0 := Aside0.mk hr0
  have HC0 := Aside0.mk hc0
  clear hr0 hc0
  have HB := Aside0.mk (Below.refl w.heap.size w)
  have HG := Aside0.mk hG
  clear hG
  have H : ((caulklaw01_lives.f).bind fun t129 => (if t129 = true then ((crc_Start.f).bind fun t130 => (caulklaw01_CrcPieces.l0 k (⟨#[]⟩ : ByteArray) t130 l0 (l0.length : Int) 0)) else (none))) = some r := h
  clear h
  replace H := Option.bind_eq_some_iff.mp H
  obtain ⟨t129, A20, H⟩ := H
  replace H : (if t129 = true then ((crc_Start.f).bind fun t130 => (caulklaw01_CrcPieces.l0 k (⟨#[]⟩ : ByteArray) t130 l0 (l0.length : Int) 0)) else (none)) = some r := H
  have A2 := Aside0.mk A20
  clear A20
  by_cases c3 : t129 = true
  · subst c3
    have H1 : ((crc_Start.f).bind fun t130 => (caulklaw01_CrcPieces.l0 k (⟨#[]⟩ : ByteArray) t130 l0 (l0.length : Int) 0)) = some r := by rw [if_pos rfl] at H; exact H
    clear H
    have H := H1
    clear H1
    replace H := Option.bind_eq_some_iff.mp H
    obtain ⟨t130, A40, H⟩ := H
    replace H : (caulklaw01_CrcPieces.l0 k (⟨#[]⟩ : ByteArray) t130 l0 (l0.length : Int) 0) = some r := H
    have A4 := Aside0.mk A40
    clear A40
    have HC5 := Aside0.mk H
    clear H
    go_enter Tryd.func5, Tryd.ntmps5
    go_upto_block 0 with (first | ((with_reducible refine gate_callee (f := 9) rfl ?_); refine goesL_ (some 7) rfl rfl Tryd.func9 (by kernel_rfl) rfl #[] rfl (by (try simp only [List.map_toArray, List.map_cons, List.map_nil]); first | done | rfl | (simp only [List.length_drop, List.length_take]; rfl)) ?_; (with_reducible refine (caulklaw01_lives.calls  true _ ?side1 A2.out).mono ?_); (case side1 => first | exact HG.out | exact GT.below HG.out (by repeat (first | (with_reducible first | exact HB.out | apply below_alloc | apply pw_below_drewN | apply below_drew1) | exact HB.out))); rintro e w6 ⟨rfl, hb⟩; refine ⟨_, rfl, ?_⟩; have n0_ := Aside0.mk (below_step (by repeat (first | (with_reducible first | exact HB.out | apply below_alloc | apply pw_below_drewN | apply below_drew1) | exact HB.out)) hb); clear HB; have HB := n0_; clear n0_; (try clear hb); (try clear hb2); (try clear hk); (try clear hi)) | ((with_reducible refine gate_callee (f := 19) rfl ?_); refine goesL_ (some 9) rfl rfl Tryd.func19 (by kernel_rfl) rfl #[] rfl (by (try simp only [List.map_toArray, List.map_cons, List.map_nil]); first | done | rfl | (simp only [List.length_drop, List.length_take]; rfl)) ?_; (with_reducible refine (crc_Start.calls  t130 _ A4.out).mono ?_); rintro e w' ⟨rfl, ⟨nd, rfl⟩⟩; refine ⟨_, rfl, ?_⟩))
    (try simp only [Act.put, List.setIfInBounds_toArray, List.set_cons_zero, List.set_cons_succ])
    go_cut [3, 4] (fun v3 v4 wc => ∃ (kq : Nat) (x3_4 : ByteArray) (x4_4 : Int), v3 = .string x3_4 ∧ v4 = .int .u32 x4_4 ∧ Aside0 (caulklaw01_CrcPieces.j1 kq x3_4 x4_4 = some r) ∧ Aside0 (kq ≤ k) ∧ Aside0 (Below w.heap.size w wc))
    case first =>
      have H := HC5.out
      clear HC5
      have H' := Aside0.mk H
      clear H
      go_wp2
      go_loopg [3, 4, 12] k (fun kq v3 v4 v12 w' => ∃ (x3_1 : ByteArray) (x4_1 : Int) (x12_1 : Int), v3 = .string x3_1 ∧ v4 = .int .u32 x4_1 ∧ v12 = .int .i64 x12_1 ∧ Aside0 (caulklaw01_CrcPieces.l0 kq x3_1 x4_1 l0 (l0.length : Int) x12_1 = some r) ∧ Aside0 (kq ≤ k) ∧ Aside0 (Below w.heap.size w w'))
      case atStart => exact ⟨((⟨#[]⟩ : ByteArray)), (t130), (0), (by first | rfl | (simp; done) | (simp [*]; done)), (by first | rfl | (simp; done) | (simp [*]; done)), (by first | rfl | (simp; done) | (simp [*]; done)), H', ⟨Nat.le_refl _⟩, ⟨by repeat (first | (with_reducible first | exact HB.out | apply below_alloc | apply pw_below_drewN | apply below_drew1) | exact HB.out)⟩⟩
      case round =>
        clear H'
        try clear c1
        try clear p2
        try clear c3
        try clear c5
        obtain ⟨x3_1, x4_1, x12_1, rfl, rfl, rfl, HA, HK1, HB⟩ := hrel
        cases gk with
        | zero => exact absurd HA.out (by simp [caulklaw01_CrcPieces.l0])
        | succ k1 =>
          have H := HA.out
          clear HA
          simp only [caulklaw01_CrcPieces.l0] at H
          by_cases c7 : x12_1 < (l0.length : Int)
          · rw [if_pos c7] at H
            have c7b0 : decide (x12_1 < (l0.length : Int)) = true := decide_eq_true c7
            clear c7
            (first | rw [c7b0] | (simp only [i64_w, i32_w]; rw [c7b0]) | skip)
            by_cases c8 : 0 ≤ x12_1
            · rw [if_pos c8] at H
              have c8b0 : decide (0 ≤ x12_1) = true := decide_eq_true c8
              clear c8
              by_cases c9 : x12_1 < (l0.length : Int)
              · rw [if_pos c9] at H
                have c9b0 : decide (x12_1 < (l0.length : Int)) = true := decide_eq_true c9
                clear c9
                by_cases c10 : x12_1 = 60
                · rw [if_pos c10] at H
                  have c10b0 : (x12_1 == 60) = true := beq_iff_eq.mpr c10
                  have c10b1 : (x12_1 != 60) = false := bne_eq_false_iff_eq.mpr c10
                  clear c10
                  have H' := Aside0.mk H
                  clear H
                  have p131 : 0 ≤ (x12_1 : Int) := of_decide_eq_true (by first | (with_reducible assumption) | assumption)
                  have q131 : x12_1 < (l0.length : Int) := of_decide_eq_true (by first | (with_reducible assumption) | assumption)
                  obtain ⟨ad131, e131, hx131_0⟩ := Kd.at_string HR0.out x12_1 p131 q131
                  cases e131
                  replace hx131_0 := (HB.out.cell (World.block_lt_of_cell? w _ hx131_0)).trans hx131_0
                  replace p131 := eq_true p131
                  replace q131 := eq_true q131
                  go_wp2
                  go_meet
                  case rel => exact ⟨_, (x3_1), (x4_1), (by first | rfl | (simp; done) | (simp [*]; done)), (by first | rfl | (simp; done) | (simp [*]; done)), H', ⟨by have := HK1.out; first | omega | exact Nat.le_refl _⟩, ⟨by repeat (first | (with_reducible first | exact HB.out | apply below_alloc | apply pw_below_drewN | apply below_drew1) | exact HB.out)⟩⟩
                · rw [if_neg c10] at H
                  have c10b0 : (x12_1 == 60) = false := beq_eq_false_iff_ne.mpr c10
                  have c10b1 : (x12_1 != 60) = true := bne_iff_ne.mpr c10
                  by_cases c11 : (x3_1.size : Int) > 131072
                  · rw [if_pos c11] at H
                    have c11b0 : decide (131072 < (x3_1.size : Int)) = true := decide_eq_true c11
                    have c11b1 : decide (131072 < x3_1.size) = true := decide_eq_true (by omega)
                    clear c11
                    have H' := Aside0.mk H
                    clear H
                    have p131 : 0 ≤ (x12_1 : Int) := of_decide_eq_true (by first | (with_reducible assumption) | assumption)
                    have q131 : x12_1 < (l0.length : Int) := of_decide_eq_true (by first | (with_reducible assumption) | assumption)
                    obtain ⟨ad131, e131, hx131_0⟩ := Kd.at_string HR0.out x12_1 p131 q131
                    cases e131
                    replace hx131_0 := (HB.out.cell (World.block_lt_of_cell? w _ hx131_0)).trans hx131_0
                    replace p131 := eq_true p131
                    replace q131 := eq_true q131
                    go_wp2
                    go_meet
                    case rel => exact ⟨_, (x3_1), (x4_1), (by first | rfl | (simp; done) | (simp [*]; done)), (by first | rfl | (simp; done) | (simp [*]; done)), H', ⟨by have := HK1.out; first | omega | exact Nat.le_refl _⟩, ⟨by repeat (first | (with_reducible first | exact HB.out | apply below_alloc | apply pw_below_drewN | apply below_drew1) | exact HB.out)⟩⟩
                  · rw [if_neg c11] at H
                    have c11b0 : decide (131072 < (x3_1.size : Int)) = false := decide_eq_false c11
                    have c11b1 : decide (131072 < x3_1.size) = false := decide_eq_false (by omega)
                    clear c11
                    by_cases c12 : ((rdOf ByteArray.empty l0 x12_1).size : Int) > 131072
                    · rw [if_pos c12] at H
                      have c12b0 : decide (131072 < ((rdOf ByteArray.empty l0 x12_1).size : Int)) = true := decide_eq_true c12
                      have c12b1 : decide (131072 < (rdOf ByteArray.empty l0 x12_1).size) = true := decide_eq_true (by omega)
                      clear c12
                      have H' := Aside0.mk H
                      clear H
                      have p131 : 0 ≤ (x12_1 : Int) := of_decide_eq_true (by first | (with_reducible assumption) | assumption)
                      have q131 : x12_1 < (l0.length : Int) := of_decide_eq_true (by first | (with_reducible assumption) | assumption)
                      obtain ⟨ad131, e131, hx131_0⟩ := Kd.at_string HR0.out x12_1 p131 q131
                      cases e131
                      replace hx131_0 := (HB.out.cell (World.block_lt_of_cell? w _ hx131_0)).trans hx131_0
                      replace p131 := eq_true p131
                      replace q131 := eq_true q131
                      go_wp2
                      go_meet
                      case rel => exact ⟨_, (x3_1), (x4_1), (by first | rfl | (simp; done) | (simp [*]; done)), (by first | rfl | (simp; done) | (simp [*]; done)), H', ⟨by have := HK1.out; first | omega | exact Nat.le_refl _⟩, ⟨by repeat (first | (with_reducible first | exact HB.out | apply below_alloc | apply pw_below_drewN | apply below_drew1) | exact HB.out)⟩⟩
                    · rw [if_neg c12] at H
                      have c12b0 : decide (131072 < ((rdOf ByteArray.empty l0 x12_1).size : Int)) = false := decide_eq_false c12
                      have c12b1 : decide (131072 < (rdOf ByteArray.empty l0 x12_1).size) = false := decide_eq_false (by omega)
                      clear c12
                      by_cases c13 : x3_1.size + (rdOf ByteArray.empty l0 x12_1).size ≤ 9223372036854775807
                      · rw [if_pos c13] at H
                        have c13b0 := eq_true c13
                        have c13b1 : decide (x3_1.size + (rdOf ByteArray.empty l0 x12_1).size ≤ 9223372036854775807) = true := decide_eq_true c13
                        try have c13b2 : (9223372036854775807 < x3_1.size + (rdOf ByteArray.empty l0 x12_1).size) = False := eq_false (Nat.not_lt.2 c13)
                        replace H := Option.bind_eq_some_iff.mp H
                        obtain ⟨t132, A140, H⟩ := H
                        replace H : (caulklaw01_CrcPieces.l0 k1 (x3_1 ++ (rdOf ByteArray.empty l0 x12_1)) t132 l0 (l0.length : Int) (wrap64 (x12_1 + 1))) = some r := H
                        have A14 := Aside0.mk A140
                        clear A140
                        have H' := Aside0.mk H
                        clear H
                        have p131 : 0 ≤ (x12_1 : Int) := of_decide_eq_true (by first | (with_reducible assumption) | assumption)
                        have q131 : x12_1 < (l0.length : Int) := of_decide_eq_true (by first | (with_reducible assumption) | assumption)
                        obtain ⟨ad131, e131, hx131_0⟩ := Kd.at_string HR0.out x12_1 p131 q131
                        cases e131
                        replace hx131_0 := (HB.out.cell (World.block_lt_of_cell? w _ hx131_0)).trans hx131_0
                        replace p131 := eq_true p131
                        replace q131 := eq_true q131
                        go_wp2_with (first | ((with_reducible refine gate_bin rfl ?_); first | (refine step_val (v := .bool true) (by rfl) (by first | (go_simp; done) | (go_simp; rfl)) ?_) | (refine step_val (v := .bool false) (by rfl) (by first | (go_simp; done) | (go_simp; rfl)) ?_)) | ((with_reducible refine gate_store rfl ?_); refine step_unit (by rfl) ?hst ?_; (case hst => go_simp; rfl)) | ((with_reducible refine gate_callee (f := 16) rfl ?_); refine goesL_ (some 34) rfl rfl Tryd.func16 (by kernel_rfl) rfl #[.int .u32 x4_1, .string (rdOf ByteArray.empty l0 x12_1)] rfl (by (try simp only [List.map_toArray, List.map_cons, List.map_nil]); first | done | rfl | (simp only [List.length_drop, List.length_take]; rfl)) ?_; (with_reducible refine (crc_Add.calls x4_1 (rdOf ByteArray.empty l0 x12_1) t132 _ ?side1 A14.out).mono ?_); (case side1 => first | exact HG.out | exact GT.below HG.out (by repeat (first | (with_reducible first | exact HB.out | apply below_alloc | apply pw_below_drewN | apply below_drew1) | exact HB.out))); rintro e w' ⟨rfl, ⟨nd, rfl⟩⟩; refine ⟨_, rfl, ?_⟩))
                        go_roundg k1
                        case measure => have := HK1.out; omega
                        case rel => exact ⟨(x3_1 ++ (rdOf ByteArray.empty l0 x12_1)), (t132), (wrap64 (x12_1 + 1)), (by first | rfl | (simp; done) | (simp [*]; done)), (by first | rfl | (simp; done) | (simp [*]; done)), (by first | rfl | (simp; done) | (simp [*]; done)), H', ⟨by have := HK1.out; omega⟩, ⟨by repeat (first | (with_reducible first | exact HB.out | apply below_alloc | apply pw_below_drewN | apply below_drew1) | exact HB.out)⟩⟩
                      · rw [if_neg c13] at H
                        exact absurd H (by simp)
              · rw [if_neg c9] at H
                exact absurd H (by simp)
            · rw [if_neg c8] at H
              exact absurd H (by simp)
          · rw [if_neg c7] at H
            have c7b0 : decide (x12_1 < (l0.length : Int)) = false := decide_eq_false c7
            clear c7
            (first | rw [c7b0] | (simp only [i64_w, i32_w]; rw [c7b0]) | skip)
            have H' := Aside0.mk H
            clear H
            go_wp2
            go_meet
            case rel => exact ⟨_, (x3_1), (x4_1), (by first | rfl | (simp; done) | (simp [*]; done)), (by first | rfl | (simp; done) | (simp [*]; done)), H', ⟨by have := HK1.out; first | omega | exact Nat.le_refl _⟩, ⟨by repeat (first | (with_reducible first | exact HB.out | apply below_alloc | apply pw_below_drewN | apply below_drew1) | exact HB.out)⟩⟩
    case rest =>
      clear HC5
      try clear c1
      try clear p1
      try clear q1
      try clear hx1
      try clear p2
      try clear c3
      try clear c5
      try clear p6
      try clear c7
      try clear c7b0
      try clear c8
      try clear c8b0
      try clear c9
      try clear c9b0
      try clear c10
      try clear c10b0
      try clear c10b1
      try clear c11
      try clear c11b0
      try clear c11b1
      try clear c12
      try clear c12b0
      try clear c12b1
      try clear c13
      try clear c13b0
      try clear c13b1
      try clear c13b2
      try clear p13
      try clear q13
      try clear hx13
      try clear hx131_0
      try clear p131
      try clear p2
      try clear q131
      obtain ⟨kq, x3_4, x4_4, rfl, rfl, HA, HJ4, HB⟩ := hcut
      cases kq with
      | zero => exact absurd HA.out (by simp [caulklaw01_CrcPieces.j1])
      | succ kj4 =>
        have H := HA.out
        clear HA
        simp only [caulklaw01_CrcPieces.j1] at H
        replace H := Option.bind_eq_some_iff.mp H
        obtain ⟨t133, A150, H⟩ := H
        replace H : ((crc_Sum.f x3_4).bind fun t134 => (if t133 = t134 then ((crc_Bytes.f x3_4).bind fun t135 => (if x3_4.size + t135.size ≤ 9223372036854775807 then ((crc_Good.f (x3_4 ++ t135)).bind fun t136 => (some t136)) else (none))) else (none))) = some r := H
        have A15 := Aside0.mk A150
        clear A150
        replace H := Option.bind_eq_some_iff.mp H
        obtain ⟨t134, A160, H⟩ := H
        replace H : (if t133 = t134 then ((crc_Bytes.f x3_4).bind fun t135 => (if x3_4.size + t135.size ≤ 9223372036854775807 then ((crc_Good.f (x3_4 ++ t135)).bind fun t136 => (some t136)) else (none))) else (none)) = some r := H
        have A16 := Aside0.mk A160
        clear A160
        by_cases c17 : t133 = t134
        · rw [if_pos c17] at H
          have c17b0 : (t133 == t134) = true := beq_iff_eq.mpr c17
          have c17b1 : (t133 != t134) = false := bne_eq_false_iff_eq.mpr c17
          clear c17
          replace H := Option.bind_eq_some_iff.mp H
          obtain ⟨t135, A180, H⟩ := H
          replace H : (if x3_4.size + t135.size ≤ 9223372036854775807 then ((crc_Good.f (x3_4 ++ t135)).bind fun t136 => (some t136)) else (none)) = some r := H
          have A18 := Aside0.mk A180
          clear A180
          by_cases c19 : x3_4.size + t135.size ≤ 9223372036854775807
          · rw [if_pos c19] at H
            have c19b0 := eq_true c19
            have c19b1 : decide (x3_4.size + t135.size ≤ 9223372036854775807) = true := decide_eq_true c19
            try have c19b2 : (9223372036854775807 < x3_4.size + t135.size) = False := eq_false (Nat.not_lt.2 c19)
            replace H := Option.bind_eq_some_iff.mp H
            obtain ⟨t136, A200, H⟩ := H
            replace H : (some t136) = some r := H
            have A20 := Aside0.mk A200
            clear A200
            obtain rfl := Option.some.inj H
            go_wp2_with (first | ((with_reducible refine gate_bin rfl ?_); first | (refine step_val (v := .bool true) (by rfl) (by first | (go_simp; done) | (go_simp; rfl)) ?_) | (refine step_val (v := .bool false) (by rfl) (by first | (go_simp; done) | (go_simp; rfl)) ?_)) | ((with_reducible refine gate_store rfl ?_); refine step_unit (by rfl) ?hst ?_; (case hst => go_simp; rfl)) | ((with_reducible refine gate_callee (f := 18) rfl ?_); refine goesL_ (some 37) rfl rfl Tryd.func18 (by kernel_rfl) rfl #[.int .u32 x4_4] rfl (by (try simp only [List.map_toArray, List.map_cons, List.map_nil]); first | done | rfl | (simp only [List.length_drop, List.length_take]; rfl)) ?_; (with_reducible refine (crc_End.calls x4_4 t133 _ A15.out).mono ?_); rintro e w' ⟨rfl, ⟨nd, rfl⟩⟩; refine ⟨_, rfl, ?_⟩) | ((with_reducible refine gate_callee (f := 10) rfl ?_); refine goesL_ (some 39) rfl rfl Tryd.func10 (by kernel_rfl) rfl #[.string x3_4] rfl (by (try simp only [List.map_toArray, List.map_cons, List.map_nil]); first | done | rfl | (simp only [List.length_drop, List.length_take]; rfl)) ?_; (with_reducible refine (crc_Sum.calls x3_4 t134 _ ?side1 A16.out).mono ?_); (case side1 => first | exact HG.out | exact GT.below HG.out (by repeat (first | (with_reducible first | exact HB.out | apply below_alloc | apply pw_below_drewN | apply below_drew1) | exact HB.out))); rintro e w' ⟨rfl, ⟨nd, rfl⟩⟩; refine ⟨_, rfl, ?_⟩) | (go_at_call 12; (with_reducible refine (crc_Bytes.calls x3_4 t135 _ ?side1 A18.out).mono ?_); (case side1 => first | exact HG.out | exact GT.below HG.out (by repeat (first | (with_reducible first | exact HB.out | apply below_alloc | apply pw_below_drewN | apply below_drew1) | exact HB.out))); rintro e w21 ⟨rfl, hb⟩; have n0_ := Aside0.mk (below_step (by repeat (first | (with_reducible first | exact HB.out | apply below_alloc | apply pw_below_drewN | apply below_drew1) | exact HB.out)) hb); clear HB; have HB := n0_; clear n0_; (try clear hb); (try clear hb2); (try clear hk); (try clear hi)) | (go_at_call 14; (with_reducible refine (crc_Good.calls (x3_4 ++ t135) t136 _ ?side1 A20.out).mono ?_); (case side1 => first | exact HG.out | exact GT.below HG.out (by repeat (first | (with_reducible first | exact HB.out | apply below_alloc | apply pw_below_drewN | apply below_drew1) | exact HB.out))); rintro e w' ⟨rfl, ⟨nd, rfl⟩⟩))
            go_ret
            exact ⟨by first | rfl | (simp [errW_none, errW_some] <;> rfl) | (simp [*, errW_none, errW_some] <;> rfl), by repeat (first | (with_reducible first | exact HB.out | apply below_alloc | apply pw_below_drewN | apply below_drew1) | exact HB.out)⟩
          · rw [if_neg c19] at H
            exact absurd H (by simp)
        · rw [if_neg c17] at H
          exact absurd H (by simp)
  · replace c3 := Bool.eq_false_iff.mpr c3
    subst c3
    have H1 : (none) = some r := by rw [if_neg (show ¬ (false = true) by decide)] at H; exact H
    clear H
    have H := H1
    clear H1
    exact absurd H (by simp)

def caulklaw01_CrcPieces.Pure : Prop := ∀ (l0 : List ByteArray), (l0.length * 16 ≤ 140737488351232 ∧ ∀ x0_ ∈ l0, x0_.size ≤ 140737488351232) → ∃ k, caulklaw01_CrcPieces.f k l0 = some true

-- caulklaw01_burst (function 20): its contract stands in Derived.Test.YtegfembmnnmnbaaDoorBurst

/-! ### caulklaw01_CrcFound: function 6 -/
def caulklaw01_CrcFound.j0 : Nat → ByteArray → Int → Int → Bool → Option (Bool)
  | 0, _, _, _, _ => none
  | k + 1, x0, x1, x2, x23 => if x23 = true then (some true) else ((caulklaw01_burst.f x0 x1 x2).bind fun t138 => ((crc_Sum.f t138).bind fun t139 => ((crc_Sum.f x0).bind fun t140 => (some ((t138.toList == x0.toList) == (t139 == t140))))))
def caulklaw01_CrcFound.f (k : Nat) (a0 : ByteArray) (a1 : Int) (a2 : Int) : Option (Bool) := (caulklaw01_lives.f).bind fun t137 => (if t137 = true then (if (a0.size : Int) > 16384 then (caulklaw01_CrcFound.j0 k a0 a1 a2 true) else (if a1 < 0 then (caulklaw01_CrcFound.j0 k a0 a1 a2 true) else (caulklaw01_CrcFound.j0 k a0 a1 a2 (decide (a1 ≥ (wrap64 (8 * (a0.size : Int)))))))) else (none))
theorem caulklaw01_CrcFound.mono_l : ∀ k, (∀ y0 y1 y2 y3, LeO (caulklaw01_CrcFound.j0 k y0 y1 y2 y3) (caulklaw01_CrcFound.j0 (k + 1) y0 y1 y2 y3))
  | 0 => fun _ _ _ _ r h => by simp [caulklaw01_CrcFound.j0] at h
  | k + 1 => by
    have ih0 := caulklaw01_CrcFound.mono_l k
    · intro y0 y1 y2 y3
      unfold caulklaw01_CrcFound.j0
      repeat' first
      | (with_reducible exact ih0 _ _ _ _)
      | (with_reducible exact LeO.refl _)
      | (with_reducible exact LeO.none _)
      | (with_reducible refine LeO.ite ?_ ?_)
      | (with_reducible refine LeO.bind ?_ (fun _ => ?_))
      | exact ih0 _ _ _ _
      | exact LeO.none _
      | refine LeO.ite ?_ ?_
      | refine LeO.bind ?_ (fun _ => ?_)
theorem caulklaw01_CrcFound.mono : ∀ a0 a1 a2 k, LeO (caulklaw01_CrcFound.f k a0 a1 a2) (caulklaw01_CrcFound.f (k + 1) a0 a1 a2) := by
  intro a0 a1 a2 k
  have ih0 := caulklaw01_CrcFound.mono_l k
  unfold caulklaw01_CrcFound.f
  repeat' first
      | (with_reducible exact ih0 _ _ _ _)
      | (with_reducible exact LeO.refl _)
      | (with_reducible exact LeO.none _)
      | (with_reducible refine LeO.ite ?_ ?_)
      | (with_reducible refine LeO.bind ?_ (fun _ => ?_))
      | exact ih0 _ _ _ _
      | exact LeO.none _
      | refine LeO.ite ?_ ?_
      | refine LeO.bind ?_ (fun _ => ?_)
set_option maxHeartbeats 8000000 in
set_option maxRecDepth 100000 in
theorem caulklaw01_CrcFound.calls (k : Nat) (a0 : ByteArray) (a1 : Int) (a2 : Int) (r : Bool) (w : World) (hG : GT w) (h : caulklaw01_CrcFound.f k a0 a1 a2 = some r) :
    Calls Tryd.prog 6 #[.string a0, .int .i64 a1, .int .u32 a2] w fun e w' => e = .returned (.bool r) ∧ Below w.heap.size w w' := by
  have HB := Aside0.mk (Below.refl w.heap.size w)
  have HG := Aside0.mk hG
  clear hG
  have H : ((caulklaw01_lives.f).bind fun t137 => (if t137 = true then (if (a0.size : Int) > 16384 then (caulklaw01_CrcFound.j0 k a0 a1 a2 true) else (if a1 < 0 then (caulklaw01_CrcFound.j0 k a0 a1 a2 true) else (caulklaw01_CrcFound.j0 k a0 a1 a2 (decide (a1 ≥ (wrap64 (8 * (a0.size : Int)))))))) else (none))) = some r := h
  clear h
  replace H := Option.bind_eq_some_iff.mp H
  obtain ⟨t137, A40, H⟩ := H
  replace H : (if t137 = true then (if (a0.size : Int) > 16384 then (caulklaw01_CrcFound.j0 k a0 a1 a2 true) else (if a1 < 0 then (caulklaw01_CrcFound.j0 k a0 a1 a2 true) else (caulklaw01_CrcFound.j0 k a0 a1 a2 (decide (a1 ≥ (wrap64 (8 * (a0.size : Int)))))))) else (none)) = some r := H
  have A4 := Aside0.mk A40
  clear A40
  by_cases c5 : t137 = true
  · subst c5
    have H1 : (if (a0.size : Int) > 16384 then (caulklaw01_CrcFound.j0 k a0 a1 a2 true) else (if a1 < 0 then (caulklaw01_CrcFound.j0 k a0 a1 a2 true) else (caulklaw01_CrcFound.j0 k a0 a1 a2 (decide (a1 ≥ (wrap64 (8 * (a0.size : Int)))))))) = some r := by rw [if_pos rfl] at H; exact H
    clear H
    have H := H1
    clear H1
    have HC6 := Aside0.mk H
    clear H
    go_enter Tryd.func6, Tryd.ntmps6
    go_upto_region 3 with (first | ((with_reducible refine gate_callee (f := 9) rfl ?_); refine goesL_ (some 8) rfl rfl Tryd.func9 (by kernel_rfl) rfl #[] rfl (by (try simp only [List.map_toArray, List.map_cons, List.map_nil]); first | done | rfl | (simp only [List.length_drop, List.length_take]; rfl)) ?_; (with_reducible refine (caulklaw01_lives.calls  true _ ?side1 A4.out).mono ?_); (case side1 => first | exact HG.out | exact GT.below HG.out (by repeat (first | (with_reducible first | exact HB.out | apply below_alloc | apply pw_below_drewN | apply below_drew1) | exact HB.out))); rintro e w7 ⟨rfl, hb⟩; refine ⟨_, rfl, ?_⟩; have n0_ := Aside0.mk (below_step (by repeat (first | (with_reducible first | exact HB.out | apply below_alloc | apply pw_below_drewN | apply below_drew1) | exact HB.out)) hb); clear HB; have HB := n0_; clear n0_; (try clear hb); (try clear hb2); (try clear hk); (try clear hi)))
    (try simp only [Act.put, List.setIfInBounds_toArray, List.set_cons_zero, List.set_cons_succ])
    go_cut [23] (fun v23 wc => ∃ (kq : Nat) (x23_5 : Bool), v23 = .bool x23_5 ∧ Aside0 (caulklaw01_CrcFound.j0 kq a0 a1 a2 x23_5 = some r) ∧ Aside0 (kq ≤ k) ∧ Aside0 (Below w.heap.size w wc))
    case first =>
      have H := HC6.out
      clear HC6
      by_cases c8 : (a0.size : Int) > 16384
      · rw [if_pos c8] at H
        have c8b0 : decide (16384 < (a0.size : Int)) = true := decide_eq_true c8
        have c8b1 : decide (16384 < a0.size) = true := decide_eq_true (by omega)
        clear c8
        (first | rw [c8b0] | (simp only [i64_w, i32_w]; rw [c8b0]) | skip)
        have H' := Aside0.mk H
        clear H
        go_wp2
        go_meet
        case rel => exact ⟨_, (true), (by first | rfl | (simp; done) | (simp [*]; done)), H', ⟨by first | omega | exact Nat.le_refl _⟩, ⟨by repeat (first | (with_reducible first | exact HB.out | apply below_alloc | apply pw_below_drewN | apply below_drew1) | exact HB.out)⟩⟩
      · rw [if_neg c8] at H
        have c8b0 : decide (16384 < (a0.size : Int)) = false := decide_eq_false c8
        have c8b1 : decide (16384 < a0.size) = false := decide_eq_false (by omega)
        clear c8
        (first | rw [c8b0] | (simp only [i64_w, i32_w]; rw [c8b0]) | skip)
        by_cases c9 : a1 < 0
        · rw [if_pos c9] at H
          have c9b0 : decide (a1 < 0) = true := decide_eq_true c9
          clear c9
          have H' := Aside0.mk H
          clear H
          go_wp2
          go_meet
          case rel => exact ⟨_, (true), (by first | rfl | (simp; done) | (simp [*]; done)), H', ⟨by first | omega | exact Nat.le_refl _⟩, ⟨by repeat (first | (with_reducible first | exact HB.out | apply below_alloc | apply pw_below_drewN | apply below_drew1) | exact HB.out)⟩⟩
        · rw [if_neg c9] at H
          have c9b0 : decide (a1 < 0) = false := decide_eq_false c9
          clear c9
          have H' := Aside0.mk H
          clear H
          go_wp2
          go_meet
          case rel => exact ⟨_, (decide (a1 ≥ (wrap64 (8 * (a0.size : Int))))), (by first | rfl | (simp; done) | (simp [*]; done)), H', ⟨by first | omega | exact Nat.le_refl _⟩, ⟨by repeat (first | (with_reducible first | exact HB.out | apply below_alloc | apply pw_below_drewN | apply below_drew1) | exact HB.out)⟩⟩
    case rest =>
      clear HC6
      try clear p2
      try clear c5
      try clear c6
      try clear p6
      try clear c8
      try clear c8b0
      try clear c8b1
      try clear c9
      try clear c9b0
      obtain ⟨kq, x23_5, rfl, HA, HJ5, HB⟩ := hcut
      cases kq with
      | zero => exact absurd HA.out (by simp [caulklaw01_CrcFound.j0])
      | succ kj5 =>
        have H := HA.out
        clear HA
        simp only [caulklaw01_CrcFound.j0] at H
        by_cases c10 : x23_5 = true
        · subst c10
          have H1 : (some true) = some r := by rw [if_pos rfl] at H; exact H
          clear H
          have H := H1
          clear H1
          obtain rfl := Option.some.inj H
          go_wp2
          go_ret
          exact ⟨by first | rfl | (simp [errW_none, errW_some] <;> rfl) | (simp [*, errW_none, errW_some] <;> rfl), by repeat (first | (with_reducible first | exact HB.out | apply below_alloc | apply pw_below_drewN | apply below_drew1) | exact HB.out)⟩
        · replace c10 := Bool.eq_false_iff.mpr c10
          subst c10
          have H1 : ((caulklaw01_burst.f a0 a1 a2).bind fun t138 => ((crc_Sum.f t138).bind fun t139 => ((crc_Sum.f a0).bind fun t140 => (some ((t138.toList == a0.toList) == (t139 == t140)))))) = some r := by rw [if_neg (show ¬ (false = true) by decide)] at H; exact H
          clear H
          have H := H1
          clear H1
          replace H := Option.bind_eq_some_iff.mp H
          obtain ⟨t138, A110, H⟩ := H
          replace H : ((crc_Sum.f t138).bind fun t139 => ((crc_Sum.f a0).bind fun t140 => (some ((t138.toList == a0.toList) == (t139 == t140))))) = some r := H
          have A11 := Aside0.mk A110
          clear A110
          replace H := Option.bind_eq_some_iff.mp H
          obtain ⟨t139, A120, H⟩ := H
          replace H : ((crc_Sum.f a0).bind fun t140 => (some ((t138.toList == a0.toList) == (t139 == t140)))) = some r := H
          have A12 := Aside0.mk A120
          clear A120
          replace H := Option.bind_eq_some_iff.mp H
          obtain ⟨t140, A130, H⟩ := H
          replace H : (some ((t138.toList == a0.toList) == (t139 == t140))) = some r := H
          have A13 := Aside0.mk A130
          clear A130
          obtain rfl := Option.some.inj H
          go_wp2_with (first | ((with_reducible refine gate_bin rfl ?_); first | (refine step_val (v := .bool true) (by rfl) (by first | (go_simp; done) | (go_simp; rfl)) ?_) | (refine step_val (v := .bool false) (by rfl) (by first | (go_simp; done) | (go_simp; rfl)) ?_)) | ((with_reducible refine gate_store rfl ?_); refine step_unit (by rfl) ?hst ?_; (case hst => go_simp; rfl)) | ((with_reducible refine gate_callee (f := 20) rfl ?_); refine goesL_ (some 27) rfl rfl Tryd.func20 (by kernel_rfl) rfl #[.string a0, .int .i64 a1, .int .u32 a2] rfl (by (try simp only [List.map_toArray, List.map_cons, List.map_nil]); first | done | rfl | (simp only [List.length_drop, List.length_take]; rfl)) ?_; (with_reducible refine (caulklaw01_burst.calls a0 a1 a2 t138 _ A11.out).mono ?_); rintro e w14 ⟨rfl, hb⟩; refine ⟨_, rfl, ?_⟩; have n0_ := Aside0.mk (below_step (by repeat (first | (with_reducible first | exact HB.out | apply below_alloc | apply pw_below_drewN | apply below_drew1) | exact HB.out)) hb); clear HB; have HB := n0_; clear n0_; (try clear hb); (try clear hb2); (try clear hk); (try clear hi)) | ((with_reducible refine gate_callee (f := 10) rfl ?_); refine goesL_ (some 32) rfl rfl Tryd.func10 (by kernel_rfl) rfl #[.string t138] rfl (by (try simp only [List.map_toArray, List.map_cons, List.map_nil]); first | done | rfl | (simp only [List.length_drop, List.length_take]; rfl)) ?_; (with_reducible refine (crc_Sum.calls t138 t139 _ ?side1 A12.out).mono ?_); (case side1 => first | exact HG.out | exact GT.below HG.out (by repeat (first | (with_reducible first | exact HB.out | apply below_alloc | apply pw_below_drewN | apply below_drew1) | exact HB.out))); rintro e w' ⟨rfl, ⟨nd, rfl⟩⟩; refine ⟨_, rfl, ?_⟩) | ((with_reducible refine gate_callee (f := 10) rfl ?_); refine goesL_ (some 34) rfl rfl Tryd.func10 (by kernel_rfl) rfl #[.string a0] rfl (by (try simp only [List.map_toArray, List.map_cons, List.map_nil]); first | done | rfl | (simp only [List.length_drop, List.length_take]; rfl)) ?_; (with_reducible refine (crc_Sum.calls a0 t140 _ ?side1 A13.out).mono ?_); (case side1 => first | exact HG.out | exact GT.below HG.out (by repeat (first | (with_reducible first | exact HB.out | apply below_alloc | apply pw_below_drewN | apply below_drew1) | exact HB.out))); rintro e w' ⟨rfl, ⟨nd, rfl⟩⟩; refine ⟨_, rfl, ?_⟩))
          go_ret
          exact ⟨by first | rfl | (simp [errW_none, errW_some] <;> rfl) | (simp [*, errW_none, errW_some] <;> rfl), by repeat (first | (with_reducible first | exact HB.out | apply below_alloc | apply pw_below_drewN | apply below_drew1) | exact HB.out)⟩
  · replace c5 := Bool.eq_false_iff.mpr c5
    subst c5
    have H1 : (none) = some r := by rw [if_neg (show ¬ (false = true) by decide)] at H; exact H
    clear H
    have H := H1
    clear H1
    exact absurd H (by simp)

def caulklaw01_CrcFound.Pure : Prop := ∀ (a0 : ByteArray) (a1 : Int) (a2 : Int), a0.size ≤ 140737488351232 → (Lit.int .i64 a1).wf = true → (Lit.int .u32 a2).wf = true → ∃ k, caulklaw01_CrcFound.f k a0 a1 a2 = some true

-- NOT PRINTED: function 7 (caulklaw01_CrcTogether)

/-! ### combine_mul: function 36 -/
def combine_mul.l0 : Nat → Int → Int → Int → Option (Int)
  | 0, _, _, _ => none
  | k + 1, x0, x1, x5 => if x0 = 0 then (some x5) else (if (Go.bits .and .u32 x0 2147483648) = 0 then (combine_mul.l0 k ((x0 * 2) % 4294967296) (Go.bits .xor .u32 (x1 / 2) (Go.bits .and .u32 2197175160 ((-(Go.bits .and .u32 x1 1)) % 4294967296))) x5) else (combine_mul.l0 k ((x0 * 2) % 4294967296) (Go.bits .xor .u32 (x1 / 2) (Go.bits .and .u32 2197175160 ((-(Go.bits .and .u32 x1 1)) % 4294967296))) (Go.bits .xor .u32 x5 x1)))
def combine_mul.f (k : Nat) (a0 : Int) (a1 : Int) : Option (Int) := combine_mul.l0 k a0 a1 0
theorem combine_mul.mono_l : ∀ k, (∀ y0 y1 y2, LeO (combine_mul.l0 k y0 y1 y2) (combine_mul.l0 (k + 1) y0 y1 y2))
  | 0 => fun _ _ _ r h => by simp [combine_mul.l0] at h
  | k + 1 => by
    have ih0 := combine_mul.mono_l k
    · intro y0 y1 y2
      unfold combine_mul.l0
      repeat' first
      | (with_reducible exact ih0 _ _ _)
      | (with_reducible exact LeO.refl _)
      | (with_reducible exact LeO.none _)
      | (with_reducible refine LeO.ite ?_ ?_)
      | (with_reducible refine LeO.bind ?_ (fun _ => ?_))
      | exact ih0 _ _ _
      | exact LeO.none _
      | refine LeO.ite ?_ ?_
      | refine LeO.bind ?_ (fun _ => ?_)
theorem combine_mul.mono : ∀ a0 a1 k, LeO (combine_mul.f k a0 a1) (combine_mul.f (k + 1) a0 a1) := by
  intro a0 a1 k
  have ih0 := combine_mul.mono_l k
  unfold combine_mul.f
  repeat' first
      | (with_reducible exact ih0 _ _ _)
      | (with_reducible exact LeO.refl _)
      | (with_reducible exact LeO.none _)
      | (with_reducible refine LeO.ite ?_ ?_)
      | (with_reducible refine LeO.bind ?_ (fun _ => ?_))
      | exact ih0 _ _ _
      | exact LeO.none _
      | refine LeO.ite ?_ ?_
      | refine LeO.bind ?_ (fun _ => ?_)
set_option maxHeartbeats 8000000 in
set_option maxRecDepth 100000 in
theorem combine_mul.calls (k : Nat) (a0 : Int) (a1 : Int) (r : Int) (w : World) (h : combine_mul.f k a0 a1 = some r) :
    Calls Tryd.prog 36 #[.int .u32 a0, .int .u32 a1] w fun e w' => e = .returned (.int .u32 r) ∧ Drawn0 w w' := by
  have H : (combine_mul.l0 k a0 a1 0) = some r := h
  clear h
  have H' := Aside0.mk H
  clear H
  go_enter Tryd.func36, Tryd.ntmps36
  go_wp2
  go_loopg [0, 1, 5] k (fun kq v0 v1 v5 w' => ∃ (x0_1 : Int) (x1_1 : Int) (x5_1 : Int), v0 = .int .u32 x0_1 ∧ v1 = .int .u32 x1_1 ∧ v5 = .int .u32 x5_1 ∧ Aside0 (combine_mul.l0 kq x0_1 x1_1 x5_1 = some r) ∧ Aside0 (kq ≤ k) ∧ Drawn0 w w')
  case atStart => exact ⟨(a0), (a1), (0), (by first | rfl | (simp; done) | (simp [*]; done)), (by first | rfl | (simp; done) | (simp [*]; done)), (by first | rfl | (simp; done) | (simp [*]; done)), H', ⟨Nat.le_refl _⟩, by repeat (first | exact Drawn0.refl _ | apply Drawn0.step)⟩
  case round =>
    clear H'
    try clear p2
    obtain ⟨x0_1, x1_1, x5_1, rfl, rfl, rfl, HA, HK1, ⟨m1, rfl⟩⟩ := hrel
    cases gk with
    | zero => exact absurd HA.out (by simp [combine_mul.l0])
    | succ k1 =>
      have H := HA.out
      clear HA
      simp only [combine_mul.l0] at H
      by_cases c3 : x0_1 = 0
      · rw [if_pos c3] at H
        have c3b0 : (x0_1 == 0) = true := beq_iff_eq.mpr c3
        have c3b1 : (x0_1 != 0) = false := bne_eq_false_iff_eq.mpr c3
        clear c3
        obtain rfl := Option.some.inj H
        go_wp2
        go_ret
        exact ⟨by first | rfl | (simp; done) | (simp [*]; done), by repeat (first | exact Drawn0.refl _ | apply Drawn0.step)⟩
      · rw [if_neg c3] at H
        have c3b0 : (x0_1 == 0) = false := beq_eq_false_iff_ne.mpr c3
        have c3b1 : (x0_1 != 0) = true := bne_iff_ne.mpr c3
        by_cases c4 : (Go.bits .and .u32 x0_1 2147483648) = 0
        · rw [if_pos c4] at H
          have c4b0 : ((Go.bits .and .u32 x0_1 2147483648) == 0) = true := beq_iff_eq.mpr c4
          have c4b1 : ((Go.bits .and .u32 x0_1 2147483648) != 0) = false := bne_eq_false_iff_eq.mpr c4
          clear c4
          have H' := Aside0.mk H
          clear H
          go_wp2
          go_roundg k1
          case measure => have := HK1.out; omega
          case rel => exact ⟨((x0_1 * 2) % 4294967296), (Go.bits .xor .u32 (x1_1 / 2) (Go.bits .and .u32 2197175160 ((-(Go.bits .and .u32 x1_1 1)) % 4294967296))), (x5_1), (by first | rfl | (simp; done) | (simp [*]; done)), (by first | rfl | (simp; done) | (simp [*]; done)), (by first | rfl | (simp; done) | (simp [*]; done)), H', ⟨by have := HK1.out; omega⟩, by repeat (first | exact Drawn0.refl _ | apply Drawn0.step)⟩
        · rw [if_neg c4] at H
          have c4b0 : ((Go.bits .and .u32 x0_1 2147483648) == 0) = false := beq_eq_false_iff_ne.mpr c4
          have c4b1 : ((Go.bits .and .u32 x0_1 2147483648) != 0) = true := bne_iff_ne.mpr c4
          have H' := Aside0.mk H
          clear H
          go_wp2
          go_roundg k1
          case measure => have := HK1.out; omega
          case rel => exact ⟨((x0_1 * 2) % 4294967296), (Go.bits .xor .u32 (x1_1 / 2) (Go.bits .and .u32 2197175160 ((-(Go.bits .and .u32 x1_1 1)) % 4294967296))), (Go.bits .xor .u32 x5_1 x1_1), (by first | rfl | (simp; done) | (simp [*]; done)), (by first | rfl | (simp; done) | (simp [*]; done)), (by first | rfl | (simp; done) | (simp [*]; done)), H', ⟨by have := HK1.out; omega⟩, by repeat (first | exact Drawn0.refl _ | apply Drawn0.step)⟩

/-! ### combine_power: function 34 -/
def combine_power.l0 : Nat → Int → Int → Int → Option (Int)
  | 0, _, _, _ => none
  | k + 1, x0, x1, x5 => if x1 > 0 then (if (Go.bits .and .i64 x1 1) = 1 then ((combine_mul.f k x5 x0).bind fun t153 => ((combine_mul.f k x0 x0).bind fun t154 => (combine_power.l0 k t154 (x1 / 2) t153))) else ((combine_mul.f k x0 x0).bind fun t155 => (combine_power.l0 k t155 (x1 / 2) x5))) else (some x5)
def combine_power.f (k : Nat) (a0 : Int) (a1 : Int) : Option (Int) := combine_power.l0 k a0 a1 2147483648
theorem combine_power.mono_l : ∀ k, (∀ y0 y1 y2, LeO (combine_power.l0 k y0 y1 y2) (combine_power.l0 (k + 1) y0 y1 y2))
  | 0 => fun _ _ _ r h => by simp [combine_power.l0] at h
  | k + 1 => by
    have ih0 := combine_power.mono_l k
    · intro y0 y1 y2
      unfold combine_power.l0
      repeat' first
      | (with_reducible exact ih0 _ _ _)
      | (with_reducible exact combine_mul.mono _ _ _)
      | (with_reducible exact LeO.refl _)
      | (with_reducible exact LeO.none _)
      | (with_reducible refine LeO.ite ?_ ?_)
      | (with_reducible refine LeO.bind ?_ (fun _ => ?_))
      | exact ih0 _ _ _
      | exact combine_mul.mono _ _ _
      | exact LeO.none _
      | refine LeO.ite ?_ ?_
      | refine LeO.bind ?_ (fun _ => ?_)
theorem combine_power.mono : ∀ a0 a1 k, LeO (combine_power.f k a0 a1) (combine_power.f (k + 1) a0 a1) := by
  intro a0 a1 k
  have ih0 := combine_power.mono_l k
  unfold combine_power.f
  repeat' first
      | (with_reducible exact ih0 _ _ _)
      | (with_reducible exact combine_mul.mono _ _ _)
      | (with_reducible exact LeO.refl _)
      | (with_reducible exact LeO.none _)
      | (with_reducible refine LeO.ite ?_ ?_)
      | (with_reducible refine LeO.bind ?_ (fun _ => ?_))
      | exact ih0 _ _ _
      | exact combine_mul.mono _ _ _
      | exact LeO.none _
      | refine LeO.ite ?_ ?_
      | refine LeO.bind ?_ (fun _ => ?_)
set_option maxHeartbeats 8000000 in
set_option maxRecDepth 100000 in
theorem combine_power.calls (k : Nat) (a0 : Int) (a1 : Int) (r : Int) (w : World) (h : combine_power.f k a0 a1 = some r) :
    Calls Tryd.prog 34 #[.int .u32 a0, .int .i64 a1] w fun e w' => e = .returned (.int .u32 r) ∧ Drawn0 w w' := by
  have H : (combine_power.l0 k a0 a1 2147483648) = some r := h
  clear h
  have H' := Aside0.mk H
  clear H
  go_enter Tryd.func34, Tryd.ntmps34
  go_wp2
  go_loopg [0, 1, 5] k (fun kq v0 v1 v5 w' => ∃ (x0_1 : Int) (x1_1 : Int) (x5_1 : Int), v0 = .int .u32 x0_1 ∧ v1 = .int .i64 x1_1 ∧ v5 = .int .u32 x5_1 ∧ Aside0 (combine_power.l0 kq x0_1 x1_1 x5_1 = some r) ∧ Aside0 (kq ≤ k) ∧ Drawn0 w w')
  case atStart => exact ⟨(a0), (a1), (2147483648), (by first | rfl | (simp; done) | (simp [*]; done)), (by first | rfl | (simp; done) | (simp [*]; done)), (by first | rfl | (simp; done) | (simp [*]; done)), H', ⟨Nat.le_refl _⟩, by repeat (first | exact Drawn0.refl _ | apply Drawn0.step)⟩
  case round =>
    clear H'
    try clear p2
    obtain ⟨x0_1, x1_1, x5_1, rfl, rfl, rfl, HA, HK1, ⟨m1, rfl⟩⟩ := hrel
    cases gk with
    | zero => exact absurd HA.out (by simp [combine_power.l0])
    | succ k1 =>
      have H := HA.out
      clear HA
      simp only [combine_power.l0] at H
      by_cases c3 : x1_1 > 0
      · rw [if_pos c3] at H
        have c3b0 : decide (0 < x1_1) = true := decide_eq_true c3
        clear c3
        by_cases c4 : (Go.bits .and .i64 x1_1 1) = 1
        · rw [if_pos c4] at H
          have c4b0 : ((Go.bits .and .i64 x1_1 1) == 1) = true := beq_iff_eq.mpr c4
          have c4b1 : ((Go.bits .and .i64 x1_1 1) != 1) = false := bne_eq_false_iff_eq.mpr c4
          clear c4
          replace H := Option.bind_eq_some_iff.mp H
          obtain ⟨t153, A50, H⟩ := H
          replace H : ((combine_mul.f k1 x0_1 x0_1).bind fun t154 => (combine_power.l0 k1 t154 (x1_1 / 2) t153)) = some r := H
          have A5 := Aside0.mk A50
          clear A50
          replace H := Option.bind_eq_some_iff.mp H
          obtain ⟨t154, A60, H⟩ := H
          replace H : (combine_power.l0 k1 t154 (x1_1 / 2) t153) = some r := H
          have A6 := Aside0.mk A60
          clear A60
          have H' := Aside0.mk H
          clear H
          go_wp2_with (first | ((with_reducible refine gate_callee (f := 36) rfl ?_); refine goesL_ (some 15) rfl rfl Tryd.func36 (by kernel_rfl) rfl #[.int .u32 x5_1, .int .u32 x0_1] rfl (by (try simp only [List.map_toArray, List.map_cons, List.map_nil]); first | done | rfl | (simp only [List.length_drop, List.length_take]; rfl)) ?_; (with_reducible refine (combine_mul.calls k1 x5_1 x0_1 t153 _ A5.out).mono ?_); rintro e w' ⟨rfl, ⟨nd, rfl⟩⟩; refine ⟨_, rfl, ?_⟩) | ((with_reducible refine gate_callee (f := 36) rfl ?_); refine goesL_ (some 18) rfl rfl Tryd.func36 (by kernel_rfl) rfl #[.int .u32 x0_1, .int .u32 x0_1] rfl (by (try simp only [List.map_toArray, List.map_cons, List.map_nil]); first | done | rfl | (simp only [List.length_drop, List.length_take]; rfl)) ?_; (with_reducible refine (combine_mul.calls k1 x0_1 x0_1 t154 _ A6.out).mono ?_); rintro e w' ⟨rfl, ⟨nd, rfl⟩⟩; refine ⟨_, rfl, ?_⟩))
          go_roundg k1
          case measure => have := HK1.out; omega
          case rel => exact ⟨(t154), (x1_1 / 2), (t153), (by first | rfl | (simp; done) | (simp [*]; done)), (by first | rfl | (simp; done) | (simp [*]; done)), (by first | rfl | (simp; done) | (simp [*]; done)), H', ⟨by have := HK1.out; omega⟩, by repeat (first | exact Drawn0.refl _ | apply Drawn0.step)⟩
        · rw [if_neg c4] at H
          have c4b0 : ((Go.bits .and .i64 x1_1 1) == 1) = false := beq_eq_false_iff_ne.mpr c4
          have c4b1 : ((Go.bits .and .i64 x1_1 1) != 1) = true := bne_iff_ne.mpr c4
          replace H := Option.bind_eq_some_iff.mp H
          obtain ⟨t155, A70, H⟩ := H
          replace H : (combine_power.l0 k1 t155 (x1_1 / 2) x5_1) = some r := H
          have A7 := Aside0.mk A70
          clear A70
          have H' := Aside0.mk H
          clear H
          go_wp2_with (first | ((with_reducible refine gate_callee (f := 36) rfl ?_); refine goesL_ (some 18) rfl rfl Tryd.func36 (by kernel_rfl) rfl #[.int .u32 x0_1, .int .u32 x0_1] rfl (by (try simp only [List.map_toArray, List.map_cons, List.map_nil]); first | done | rfl | (simp only [List.length_drop, List.length_take]; rfl)) ?_; (with_reducible refine (combine_mul.calls k1 x0_1 x0_1 t155 _ A7.out).mono ?_); rintro e w' ⟨rfl, ⟨nd, rfl⟩⟩; refine ⟨_, rfl, ?_⟩))
          go_roundg k1
          case measure => have := HK1.out; omega
          case rel => exact ⟨(t155), (x1_1 / 2), (x5_1), (by first | rfl | (simp; done) | (simp [*]; done)), (by first | rfl | (simp; done) | (simp [*]; done)), (by first | rfl | (simp; done) | (simp [*]; done)), H', ⟨by have := HK1.out; omega⟩, by repeat (first | exact Drawn0.refl _ | apply Drawn0.step)⟩
      · rw [if_neg c3] at H
        have c3b0 : decide (0 < x1_1) = false := decide_eq_false c3
        clear c3
        obtain rfl := Option.some.inj H
        go_wp2
        go_ret
        exact ⟨by first | rfl | (simp; done) | (simp [*]; done), by repeat (first | exact Drawn0.refl _ | apply Drawn0.step)⟩

/-! ### combine_by: function 32 -/
def combine_by.j0 : Nat → Int → Int → Int → Bool → Option (Int × Int)
  | 0, _, _, _, _ => none
  | k + 1, x0, x1, x2, x13 => if x13 = true then (some (0, 1)) else ((combine_power.f k x1 x2).bind fun t156 => ((combine_mul.f k x0 t156).bind fun t157 => (some (t157, 0))))
def combine_by.f (k : Nat) (a0 : Int) (a1 : Int) (a2 : Int) : Option (Int × Int) := if a2 < 0 then (combine_by.j0 k a0 a1 a2 true) else (combine_by.j0 k a0 a1 a2 (decide (a2 > 1099511627776)))
theorem combine_by.mono_l : ∀ k, (∀ y0 y1 y2 y3, LeO (combine_by.j0 k y0 y1 y2 y3) (combine_by.j0 (k + 1) y0 y1 y2 y3))
  | 0 => fun _ _ _ _ r h => by simp [combine_by.j0] at h
  | k + 1 => by
    have ih0 := combine_by.mono_l k
    · intro y0 y1 y2 y3
      unfold combine_by.j0
      repeat' first
      | (with_reducible exact ih0 _ _ _ _)
      | (with_reducible exact combine_mul.mono _ _ _)
      | (with_reducible exact combine_power.mono _ _ _)
      | (with_reducible exact LeO.refl _)
      | (with_reducible exact LeO.none _)
      | (with_reducible refine LeO.ite ?_ ?_)
      | (with_reducible refine LeO.bind ?_ (fun _ => ?_))
      | exact ih0 _ _ _ _
      | exact combine_mul.mono _ _ _
      | exact combine_power.mono _ _ _
      | exact LeO.none _
      | refine LeO.ite ?_ ?_
      | refine LeO.bind ?_ (fun _ => ?_)
theorem combine_by.mono : ∀ a0 a1 a2 k, LeO (combine_by.f k a0 a1 a2) (combine_by.f (k + 1) a0 a1 a2) := by
  intro a0 a1 a2 k
  have ih0 := combine_by.mono_l k
  unfold combine_by.f
  repeat' first
      | (with_reducible exact ih0 _ _ _ _)
      | (with_reducible exact combine_mul.mono _ _ _)
      | (with_reducible exact combine_power.mono _ _ _)
      | (with_reducible exact LeO.refl _)
      | (with_reducible exact LeO.none _)
      | (with_reducible refine LeO.ite ?_ ?_)
      | (with_reducible refine LeO.bind ?_ (fun _ => ?_))
      | exact ih0 _ _ _ _
      | exact combine_mul.mono _ _ _
      | exact combine_power.mono _ _ _
      | exact LeO.none _
      | refine LeO.ite ?_ ?_
      | refine LeO.bind ?_ (fun _ => ?_)
set_option maxHeartbeats 8000000 in
set_option maxRecDepth 100000 in
theorem combine_by.calls (k : Nat) (a0 : Int) (a1 : Int) (a2 : Int) (r1 : Int) (r2 : Int) (w : World) (h : combine_by.f k a0 a1 a2 = some (r1, r2)) :
    Calls Tryd.prog 32 #[.int .u32 a0, .int .u32 a1, .int .i64 a2] w fun e w' => e = .returned (.tuple #[.int .u32 r1, .int .i64 r2]) ∧ Drawn0 w w' := by
  have H : (if a2 < 0 then (combine_by.j0 k a0 a1 a2 true) else (combine_by.j0 k a0 a1 a2 (decide (a2 > 1099511627776)))) = some (r1, r2) := h
  clear h
  have HC4 := Aside0.mk H
  clear H
  go_enter Tryd.func32, Tryd.ntmps32
  go_upto_region 1 with (fail)
  go_cut [13] (fun v13 wc => ∃ (kq : Nat) (x13_3 : Bool), v13 = .bool x13_3 ∧ Aside0 (combine_by.j0 kq a0 a1 a2 x13_3 = some (r1, r2)) ∧ Aside0 (kq ≤ k) ∧ Drawn0 w wc)
  case first =>
    have H := HC4.out
    clear HC4
    by_cases c5 : a2 < 0
    · rw [if_pos c5] at H
      have c5b0 : decide (a2 < 0) = true := decide_eq_true c5
      clear c5
      (first | rw [c5b0] | (simp only [i64_w, i32_w]; rw [c5b0]) | skip)
      have H' := Aside0.mk H
      clear H
      go_wp2
      go_meet
      case rel => exact ⟨_, (true), (by first | rfl | (simp; done) | (simp [*]; done)), H', ⟨by first | omega | exact Nat.le_refl _⟩, by repeat (first | exact Drawn0.refl _ | apply Drawn0.step)⟩
    · rw [if_neg c5] at H
      have c5b0 : decide (a2 < 0) = false := decide_eq_false c5
      clear c5
      (first | rw [c5b0] | (simp only [i64_w, i32_w]; rw [c5b0]) | skip)
      have H' := Aside0.mk H
      clear H
      go_wp2
      go_meet
      case rel => exact ⟨_, (decide (a2 > 1099511627776)), (by first | rfl | (simp; done) | (simp [*]; done)), H', ⟨by first | omega | exact Nat.le_refl _⟩, by repeat (first | exact Drawn0.refl _ | apply Drawn0.step)⟩
  case rest =>
    clear HC4
    try clear p2
    try clear c3
    try clear c5
    try clear c5b0
    obtain ⟨kq, x13_3, rfl, HA, HJ3, ⟨mc3, rfl⟩⟩ := hcut
    cases kq with
    | zero => exact absurd HA.out (by simp [combine_by.j0])
    | succ kj3 =>
      have H := HA.out
      clear HA
      simp only [combine_by.j0] at H
      by_cases c6 : x13_3 = true
      · subst c6
        have H1 : (some (0, 1)) = some (r1, r2) := by rw [if_pos rfl] at H; exact H
        clear H
        have H := H1
        clear H1
        simp only [Option.some.injEq, Prod.mk.injEq] at H
        obtain ⟨rfl, rfl⟩ := H
        go_wp2
        go_ret2
        exact ⟨by first | rfl | (simp; done) | (simp [*]; done), by repeat (first | exact Drawn0.refl _ | apply Drawn0.step)⟩
      · replace c6 := Bool.eq_false_iff.mpr c6
        subst c6
        have H1 : ((combine_power.f kj3 a1 a2).bind fun t156 => ((combine_mul.f kj3 a0 t156).bind fun t157 => (some (t157, 0)))) = some (r1, r2) := by rw [if_neg (show ¬ (false = true) by decide)] at H; exact H
        clear H
        have H := H1
        clear H1
        replace H := Option.bind_eq_some_iff.mp H
        obtain ⟨t156, A70, H⟩ := H
        replace H : ((combine_mul.f kj3 a0 t156).bind fun t157 => (some (t157, 0))) = some (r1, r2) := H
        have A7 := Aside0.mk A70
        clear A70
        replace H := Option.bind_eq_some_iff.mp H
        obtain ⟨t157, A80, H⟩ := H
        replace H : (some (t157, 0)) = some (r1, r2) := H
        have A8 := Aside0.mk A80
        clear A80
        simp only [Option.some.injEq, Prod.mk.injEq] at H
        obtain ⟨rfl, rfl⟩ := H
        go_wp2_with (first | ((with_reducible refine gate_callee (f := 34) rfl ?_); refine goesL_ (some 17) rfl rfl Tryd.func34 (by kernel_rfl) rfl #[.int .u32 a1, .int .i64 a2] rfl (by (try simp only [List.map_toArray, List.map_cons, List.map_nil]); first | done | rfl | (simp only [List.length_drop, List.length_take]; rfl)) ?_; (with_reducible refine (combine_power.calls kj3 a1 a2 t156 _ A7.out).mono ?_); rintro e w' ⟨rfl, ⟨nd, rfl⟩⟩; refine ⟨_, rfl, ?_⟩) | ((with_reducible refine gate_callee (f := 36) rfl ?_); refine goesL_ (some 18) rfl rfl Tryd.func36 (by kernel_rfl) rfl #[.int .u32 a0, .int .u32 t156] rfl (by (try simp only [List.map_toArray, List.map_cons, List.map_nil]); first | done | rfl | (simp only [List.length_drop, List.length_take]; rfl)) ?_; (with_reducible refine (combine_mul.calls kj3 a0 t156 t157 _ A8.out).mono ?_); rintro e w' ⟨rfl, ⟨nd, rfl⟩⟩; refine ⟨_, rfl, ?_⟩))
        go_ret2
        exact ⟨by first | rfl | (simp; done) | (simp [*]; done), by repeat (first | exact Drawn0.refl _ | apply Drawn0.step)⟩

end Go.Proofs.YtegfembmnnmnbaaDoor.G
