/- matrix.Cauchy's contract over this seat's program. Conditions: each lemma's own. -/
import Derived.Test.YteiiaonpdamkhaaDoorMatFn
namespace Go.Proofs.YteiiaonpdamkhaaDoor.G
open Go.RowKit Go.Proofs.YteiiaonpdamkhaaDoorW.PrintWords Go.Proofs.YteiiaonpdamkhaaDoorW.PrintLast Go.Proofs.YteiiaonpdamkhaaDoorW.PrintMore
set_option linter.unusedVariables false
set_option linter.unusedSimpArgs false

/-- The matrix of parity. -/
def cauX (k : Nat) : GfM.Mx := fun i j => GfM.inv (BitVec.ofNat 8 (k + i) ^^^ BitVec.ofNat 8 j)
def matrix_Cauchy.f (a0 a1 : Int) : Option (List (List Int) × Int) := some (if (1 ≤ a0 ∧ a0 ≤ 255) ∧ (1 ≤ a1 ∧ a1 ≤ 255) ∧ a1 ≤ 255 - a0 then (mxL a1.toNat a0.toNat (cauX a0.toNat), 0) else ([], 1))
theorem gfinv_any (x : GfM.F) : ∃ e, gf_Inv.f (x.toNat : Int) = some (((GfM.inv x).toNat : Int), e) := by
  unfold gf_Inv.f
  by_cases h : (x.toNat : Int) = 0
  · have hx : x = 0#8 := BitVec.eq_of_toNat_eq (by simpa using h)
    rw [if_pos h, hx]
    have h0 : GfM.inv 0#8 = 0#8 := by decide +kernel
    rw [h0]
    exact ⟨13, rfl⟩
  · rw [if_neg h]
    unfold gf_power.f
    rw [if_pos ⟨⟨by omega, by have := x.isLt; omega⟩, by decide, by decide⟩]
    refine ⟨0, ?_⟩
    simp only [Option.bind_some]
    unfold powI GfM.inv
    rw [el_nat, show (254 : Int).toNat = 254 from rfl, show (64 : Nat) = 8 + 56 from rfl, pwk_more 8 _ _ _ 56 (by decide)]
theorem cau_arg (k i j : Nat) (h : k + i < 256) (hj : j < 256) : ∃ e, gf_Inv.f (Go.bits .xor .u8 ((k : Int) + (i : Int)) (j : Int)) = some (((cauX k i j).toNat : Int), e) := by
  have h1 : ((k : Int) + (i : Int)) = ((BitVec.ofNat 8 (k + i)).toNat : Int) := by rw [BitVec.toNat_ofNat, Nat.mod_eq_of_lt h]; simp
  have h2 : (j : Int) = ((BitVec.ofNat 8 j).toNat : Int) := by rw [BitVec.toNat_ofNat, Nat.mod_eq_of_lt hj]
  rw [h1]
  conv => enter [1, e, 1, 1, 4]; rw [h2]
  rw [g_xor8]
  exact gfinv_any _
set_option maxRecDepth 100000 in
set_option maxHeartbeats 8000000 in
theorem cauchy_calls (k m : Nat) (w : World) (s1 : 1 ≤ k) (s2 : 1 ≤ m) (s3 : k + m ≤ 255) :
    Calls Tryd.prog 47 #[.int .i64 k, .int .i64 m] w fun e w' => ∃ gm, e = .returned (.tuple #[.slice (some ⟨gm, 0, none⟩) m m, .int .i64 0]) ∧ (∃ g o c, Mat w.heap.size w' gm m m k g o c (cauX k)) ∧ Below w.heap.size w w' := by
  have HS1 := Aside0.mk (side_true (a := k) (by omega))
  have HS2 := Aside0.mk (side_true (a := m) (by omega))
  have hG := fun W => grid_calls m k W (by omega) (by omega) (by omega) (by omega)
  have w0 : wrap64 (255 - (k : Int)) = 255 - (k : Int) := by unfold wrap64; omega
  have c0 : decide ((255 : Int) - (k : Int) < (m : Int)) = false := by simp; omega
  go_enter Tryd.func47, Tryd.ntmps47
  go_wp2_with (first | (go_at_call 62; refine (matrix_side.calls _ _ _ (by first | exact HS1.out | exact HS2.out)).mono ?_; rintro e w1 ⟨rfl, ⟨nd, rfl⟩⟩) | (go_at_call 63; refine (hG _).mono ?_; rintro e w2 ⟨rfl, hm, hb⟩; have HM := Aside0.mk (show Mat w.heap.size w2 (w.heap.size + 1) m m k (fun _ => w.heap.size) (fun i => i * k) (fun _ => k) (fun _ _ => 0#8) from hm); have HB := Aside0.mk (show Below w.heap.size w w2 from (pw_below_drewN (Below.refl _ _) _).trans hb); clear hm hb))
  clear hG w0 c0
  go_loopw [28] (fun v wr => ∃ i : Nat, i ≤ m ∧ v = .int .i64 i ∧ Aside0 (Mat w.heap.size wr (w.heap.size + 1) m m k (fun _ => w.heap.size) (fun i => i * k) (fun _ => k) (fun r c => if r < i then cauX k r c else 0#8)) ∧ Aside0 (Below w.heap.size w wr)) (fun v _ => m - (intOf v).toNat)
  case atStart => exact ⟨0, Nat.zero_le _, by simp, ⟨HM.out.congr (fun i _ j _ => by rw [if_neg (by omega)])⟩, HB⟩
  case round =>
    obtain ⟨i, hi, rfl, HT, HB⟩ := hrel
    by_cases hlt : i < m
    · obtain ⟨q, hq, hq1⟩ : ∃ q, q = i * k ∧ q ≤ 65025 := ⟨i * k, rfl, by have : i * k ≤ 255 * 255 := Nat.mul_le_mul (by omega) (by omega); omega⟩
      have w0 : wrap64 ((i : Int) + 1) = (i : Int) + 1 := by unfold wrap64; omega
      have c1 : wr.cell? ⟨w.heap.size + 1, i, none⟩ = some (.slice (some ⟨w.heap.size, q, none⟩) k k) := by rw [hq]; exact HT.out.load hlt
      have HQ := Aside0.mk hq
      clear hq
      go_wp2
      go_loopw [36] (fun v wr => ∃ j : Nat, j ≤ k ∧ v = .int .i64 j ∧ Aside0 (Mat w.heap.size wr (w.heap.size + 1) m m k (fun _ => w.heap.size) (fun i => i * k) (fun _ => k) (fun r c => if r < i ∨ (r = i ∧ c < j) then cauX k r c else 0#8)) ∧ Aside0 (Below w.heap.size w wr)) (fun v _ => k - (intOf v).toNat)
      case atStart => exact ⟨0, Nat.zero_le _, by simp, ⟨HT.out.congr (fun r _ c _ => by by_cases e : r < i <;> simp [e])⟩, HB⟩
      case round =>
        obtain ⟨j, hj, rfl, HT, HB⟩ := hrel
        by_cases hlt2 : j < k
        · have w1 : wrap64 ((j : Int) + 1) = (j : Int) + 1 := by unfold wrap64; omega
          have w2 : wrap64 ((k : Int) + (i : Int)) = (k : Int) + (i : Int) := by unfold wrap64; omega
          have m1 : ((k : Int) + (i : Int)) % 256 = (k : Int) + (i : Int) := by omega
          have m2 : (j : Int) % 256 = (j : Int) := by omega
          have d1 : wr.cell? ⟨w.heap.size + 1, i, none⟩ = some (.slice (some ⟨w.heap.size, q, none⟩) k k) := by rw [HQ.out]; exact HT.out.load hlt
          have d2 : wr.cell? ⟨w.heap.size, q + j, none⟩ = some (.int .u8 0) := by have := HT.out.cell hlt hlt2; rw [if_neg (by omega)] at this; rw [HQ.out]; exact this
          have f2 : wr.frozen? ⟨w.heap.size, q + j, none⟩ = false := HT.out.frozen hlt _
          obtain ⟨er, hI⟩ := cau_arg k i j (by omega) (by omega)
          have hI2 : gf_Inv.f (Go.bits .xor .u8 (IntKind.u8.wrap (IntKind.i64.wrap ((k : Int) + (i : Int)))) (IntKind.u8.wrap (j : Int))) = some (((cauX k i j).toNat : Int), er) := by
            rw [i64_w, w2, IntKind.wrap_u8, IntKind.wrap_u8, m1, m2]
            exact hI
          have HI := Aside0.mk hI
          have HI2 := Aside0.mk hI2
          clear hI hI2
          go_wp2
          go_region_with (go_at_call 64; refine (gf_Inv.calls _ _ _ _ HI2.out).mono ?_; rintro e w3 ⟨rfl, ⟨nd, rfl⟩⟩)
          all_goals
            go_wp2
            go_roundw
            case measure => simp [intOf]; omega
            case rel =>
              refine ⟨j + 1, by omega, by go_num, ⟨?_⟩, ⟨Below.setCell (p := ⟨w.heap.size, q + j, none⟩) (pw_below_drewN HB.out _) (by simp) _⟩⟩
              have h3 := ((HT.out.drewN (1 + nd)).setCell hlt hlt2 (cauX k i j)).congr (A' := fun r c => if r < i ∨ (r = i ∧ c < j + 1) then cauX k r c else 0#8) (fun r hr c hc => by
                by_cases e1 : r = i
                · by_cases e2 : c = j
                  · rw [if_pos ⟨e1, e2⟩, if_pos (by omega), e1, e2]
                  · rw [if_neg (by omega)]
                    by_cases e3 : c < j
                    · rw [if_pos (by omega), if_pos (by omega)]
                    · rw [if_neg (by omega), if_neg (by omega)]
                · rw [if_neg (by omega)]
                  by_cases e3 : r < i
                  · rw [if_pos (by omega), if_pos (by omega)]
                  · rw [if_neg (by omega), if_neg (by omega)])
              rw [HQ.out]
              exact h3
        · have hje : j = k := by omega
          subst hje
          go_wp2
          go_roundw
          case rel =>
            exact ⟨i + 1, by omega, by go_num, ⟨HT.out.congr (fun r _ c hc => by
              by_cases e1 : r < i + 1
              · rw [if_pos e1, if_pos (by omega)]
              · rw [if_neg e1, if_neg (by omega)])⟩, HB⟩
          case measure => simp [intOf]; omega
    · have hie : i = m := by omega
      subst hie
      go_wp2
      go_ret2
      exact ⟨_, rfl, ⟨_, _, _, HT.out.congr (fun r hr c _ => by rw [if_pos hr])⟩, HB.out⟩
set_option maxRecDepth 100000 in
set_option maxHeartbeats 8000000 in
theorem matrix_Cauchy.calls (a0 a1 : Int) (r1 : List (List Int)) (r2 : Int) (w : World) (h : matrix_Cauchy.f a0 a1 = some (r1, r2)) :
    Calls Tryd.prog 47 #[.int .i64 a0, .int .i64 a1] w fun e w' => ∃ v0_ : Value, e = .returned (.tuple #[v0_, .int .i64 r2]) ∧ Kd.N (Kd.slice 5 (Kd.int .u8)) 76 w' w.heap.size (fun k_ => (w.heap.size ≤ k_)) v0_ r1 ∧ Below w.heap.size w w' := by
  unfold matrix_Cauchy.f at h
  by_cases s1 : 1 ≤ a0 ∧ a0 ≤ 255
  · by_cases s2 : 1 ≤ a1 ∧ a1 ≤ 255
    · by_cases s3 : a1 ≤ 255 - a0
      · rw [if_pos ⟨s1, s2, s3⟩] at h
        simp only [Option.some.injEq, Prod.mk.injEq] at h
        obtain ⟨rfl, rfl⟩ := h
        obtain ⟨k, rfl⟩ := Int.eq_ofNat_of_zero_le (show 0 ≤ a0 by omega)
        obtain ⟨m, rfl⟩ := Int.eq_ofNat_of_zero_le (show 0 ≤ a1 by omega)
        refine (cauchy_calls k m w (by omega) (by omega) (by omega)).mono ?_
        rintro e w' ⟨gm, rfl, ⟨g, o, c, hM⟩, hB⟩
        exact ⟨_, rfl, hM.N (Nat.le_refl _) (by omega) (by omega), hB⟩
      · rw [if_neg (fun hh => s3 hh.2.2)] at h
        simp only [Option.some.injEq, Prod.mk.injEq] at h
        obtain ⟨rfl, rfl⟩ := h
        have HS1 := Aside0.mk (side_true s1)
        have HS2 := Aside0.mk (side_true s2)
        have w0 : wrap64 (255 - a0) = 255 - a0 := by unfold wrap64; omega
        have c0 : decide ((255 : Int) - a0 < a1) = true := by simp; omega
        clear s1 s2 s3
        go_enter Tryd.func47, Tryd.ntmps47
        go_wp2_with (go_at_call 62; refine (matrix_side.calls _ _ _ (by first | exact HS1.out | exact HS2.out)).mono ?_; rintro e w1 ⟨rfl, ⟨nd, rfl⟩⟩)
        go_ret2
        exact ⟨_, rfl, N_nil _ _, pw_below_drewN (Below.refl _ _) _⟩
    · rw [if_neg (fun hh => s2 hh.2.1)] at h
      simp only [Option.some.injEq, Prod.mk.injEq] at h
      obtain ⟨rfl, rfl⟩ := h
      have HS1 := Aside0.mk (side_true s1)
      have HS2 := Aside0.mk (side_false s2)
      go_enter Tryd.func47, Tryd.ntmps47
      go_wp2_with (go_at_call 62; refine (matrix_side.calls _ _ _ (by first | exact HS1.out | exact HS2.out)).mono ?_; rintro e w1 ⟨rfl, ⟨nd, rfl⟩⟩)
      go_ret2
      exact ⟨_, rfl, N_nil _ _, pw_below_drewN (Below.refl _ _) _⟩
  · rw [if_neg (fun hh => s1 hh.1)] at h
    simp only [Option.some.injEq, Prod.mk.injEq] at h
    obtain ⟨rfl, rfl⟩ := h
    have HS1 := Aside0.mk (side_false s1)
    go_enter Tryd.func47, Tryd.ntmps47
    go_wp2_with (go_at_call 62; refine (matrix_side.calls _ _ _ HS1.out).mono ?_; rintro e w1 ⟨rfl, ⟨nd, rfl⟩⟩)
    go_ret2
    exact ⟨_, rfl, N_nil _ _, pw_below_drewN (Below.refl _ _) _⟩
end Go.Proofs.YteiiaonpdamkhaaDoor.G
