/- matrix.Rows's contract over this seat's program. Conditions: each lemma's own. -/
import Derived.Test.YtlobaomleocpjaaMatCopy
import Derived.Test.YtlobaomleocpjaaMatMul
namespace Go.Proofs.Ytlobaomleocpjaa.G
open Go.RowKit Go.Proofs.YtlobaomleocpjaaW.PrintWords Go.Proofs.YtlobaomleocpjaaW.PrintLast Go.Proofs.YtlobaomleocpjaaW.PrintMore
set_option linter.unusedVariables false
set_option linter.unusedSimpArgs false

def matrix_Rows.f (l0 : List (List Int)) (l1 : List Int) : Option (List (List Int) × Int) :=
  if BytesM l0 then some (if OkM l0 then (if 1 ≤ l1.length ∧ l1.length ≤ 255 then (if ∀ x ∈ l1, 0 ≤ x ∧ x < (l0.length : Int) then (mxL l1.length (colsM l0) (fun k c => toMx l0 (l1.getD k 0).toNat c), 0) else ([], 1)) else ([], 1)) else ([], 2)) else none
/-- The first bad number of a list stands at k. -/
theorem first_bad {l : List Int} {P : Int → Prop} [DecidablePred P] (h : ¬ ∀ x ∈ l, P x) : ∃ k, k < l.length ∧ (∀ j, j < k → P (l.getD j 0)) ∧ ¬ P (l.getD k 0) := by
  induction l with
  | nil => exact absurd (fun x hx => by simp at hx) h
  | cons a l ih =>
    by_cases ha : P a
    · have h2 : ¬ ∀ x ∈ l, P x := fun hh => h (fun x hx => by
        rcases List.mem_cons.1 hx with rfl | hx
        · exact ha
        · exact hh x hx)
      obtain ⟨k, h3, h4, h5⟩ := ih h2
      refine ⟨k + 1, by simp; omega, fun j hj => ?_, by simpa using h5⟩
      cases j with
      | zero => simpa using ha
      | succ j => simpa using h4 j (by omega)
    · exact ⟨0, by simp, fun j hj => by omega, by simpa using ha⟩
/-- The rounds go as far as the list does, or to its first bad number. -/
theorem upto_bad (l : List Int) (P : Int → Prop) [DecidablePred P] : ∃ K, K ≤ l.length ∧ (∀ j, j < K → P (l.getD j 0)) ∧ (K < l.length → ¬ P (l.getD K 0)) ∧ ((∀ x ∈ l, P x) ↔ K = l.length) := by
  by_cases h : ∀ x ∈ l, P x
  · refine ⟨l.length, Nat.le_refl _, fun j hj => ?_, fun hh => absurd hh (Nat.lt_irrefl _), ⟨fun _ => rfl, fun _ => h⟩⟩
    rw [List.getD_eq_getElem?_getD, List.getElem?_eq_getElem hj]
    exact h _ (List.getElem_mem hj)
  · obtain ⟨k, h1, h2, h3⟩ := first_bad h
    exact ⟨k, Nat.le_of_lt h1, h2, fun _ => h3, ⟨fun hh => absurd hh h, fun e => by omega⟩⟩
set_option maxRecDepth 100000 in
set_option maxHeartbeats 8000000 in
theorem matrix_Rows.calls (A0 : Option Addr) (c0 : Nat) (l0 : List (List Int)) (A1 : Option Addr) (c1 : Nat) (l1 : List Int) (r1 : List (List Int)) (r2 : Int) (w : World) (hr0 : Kd.C (Kd.slice 5 (Kd.int .u8)) w A0 l0.length l0) (hc0 : l0.length ≤ c0) (hr1 : Kd.C (Kd.int .i64) w A1 l1.length l1) (hc1 : l1.length ≤ c1) (h : matrix_Rows.f l0 l1 = some (r1, r2)) :
    Calls Try.prog 16 #[.slice A0 l0.length c0, .slice A1 l1.length c1] w fun e w' => ∃ v0_ : Value, e = .returned (.tuple #[v0_, .int .i64 r2]) ∧ Kd.N (Kd.slice 5 (Kd.int .u8)) 37 w' w.heap.size (fun k_ => (w.heap.size ≤ k_)) v0_ r1 ∧ Below w.heap.size w w' := by
  have HR0 := Aside0.mk hr0
  have HC0 := Aside0.mk hc0
  have HR1 := Aside0.mk hr1
  have HC1 := Aside0.mk hc1
  clear hr0 hc0 hr1 hc1
  unfold matrix_Rows.f at h
  by_cases hb : BytesM l0
  · rw [if_pos hb] at h
    by_cases o1 : OkM l0
    · rw [if_pos o1] at h
      have K0 := Aside0.mk (check_ok o1)
      have hC0 : ∀ W, Below w.heap.size w W → Calls Try.prog 22 #[.slice A0 l0.length c0] W fun e w' => e = .returned (.int .i64 0) ∧ Drawn0 W w' := fun W hW => matrix_Check.calls 300 _ _ _ _ W (Kd.C_below HR0.out hW) HC0.out K0.out
      have HCC0 := Aside0.mk hC0
      clear hC0 K0
      by_cases hlen : 1 ≤ l1.length ∧ l1.length ≤ 255
      · rw [if_pos hlen] at h
        have HS := Aside0.mk (side_true (a := (l1.length : Int)) (by omega))
        obtain ⟨K, hK1, hK2, hK3, hK4⟩ := upto_bad l1 (fun x => 0 ≤ x ∧ x < (l0.length : Int))
        simp only [hK4] at h
        obtain ⟨ad0, hA0⟩ : ∃ ad, A0 = some ad := (HR0.out.2.2 (by have := o1.1; omega)).imp fun _ hh => hh.1
        obtain ⟨ad1, hA1⟩ : ∃ ad, A1 = some ad := (HR1.out.2.2 (by omega)).imp fun _ hh => hh.1
        subst hA0 hA1
        have hrow := fun (i : Nat) (hi : i < l0.length) => lent_row HR0.out hb o1 hi
        obtain ⟨b0, d0, hd0, hz0⟩ := hrow 0 (by have := o1.1; omega)
        have x1 := (hz0 w (Below.refl _ _)).1
        rw [Addr.add_zero'] at x1
        have hnum : ∀ W, Below w.heap.size w W → ∀ j, j < l1.length → W.cell? (ad1.add j) = some (.int .i64 (l1.getD j 0)) := by
          intro W hW j hj
          obtain ⟨ad, e, hc⟩ := (Kd.reads_of_C (enc := Value.int .i64) (d := (0 : Int)) HR1.out).2.2 (by omega)
          injection e with e
          subst e
          have := hc j hj
          exact (hW.cell (World.block_lt_of_cell? w _ this)).trans this
        obtain ⟨q1, q2, q3, q4, q5⟩ := o1
        clear q5 hz0 hb
        obtain ⟨n, hn⟩ : ∃ n, n = l0.length := ⟨_, rfl⟩
        obtain ⟨p, hp⟩ : ∃ p, p = colsM l0 := ⟨_, rfl⟩
        obtain ⟨m, hm⟩ : ∃ m, m = l1.length := ⟨_, rfl⟩
        obtain ⟨s1, s2⟩ := hlen
        rw [← hm] at hK1 hK3 HS hnum s1 s2 h
        rw [← hn] at hK2 hK3 hrow q1 q2 HCC0
        rw [← hp] at hrow hd0 x1 q3 q4 h
        rw [← hn, ← hm]
        have HR := Aside0.mk hrow
        have HN := Aside0.mk hnum
        have HK2 := Aside0.mk hK2
        have HK3 := Aside0.mk hK3
        have HH := Aside0.mk h
        have HE := Aside0.mk (And.intro hn (And.intro hp hm))
        have hG := fun W => grid_calls m p W s1 s2 q3 q4
        clear hrow hnum hK2 hK3 hK4 h hn hp hm HR0 HR1 HC0 HC1
        go_enter Try.func16, Try.ntmps16
        go_wp2_with (first | (go_at_call 22; (with_reducible refine (HCC0.out _ ?hbl).mono ?_); (case hbl => first | exact Below.refl _ _ | exact pw_below_drewN (Below.refl _ _) _); rintro e w1 ⟨rfl, ⟨nd, rfl⟩⟩) | (go_at_call 43; (with_reducible refine (matrix_side.calls _ _ _ HS.out).mono ?_); rintro e w1 ⟨rfl, ⟨nd, rfl⟩⟩) | (go_at_call 39; (with_reducible refine (hG _).mono ?_); rintro e w2 ⟨rfl, hm, hb⟩; have HM := Aside0.mk (show Mat w.heap.size w2 (w.heap.size + 1) m m p (fun _ => w.heap.size) (fun i => i * p) (fun _ => p) (fun _ _ => 0#8) from hm); have HB := Aside0.mk (show Below w.heap.size w w2 from (pw_below_drewN (Below.refl _ _) _).trans hb); clear hm hb))
        clear hG HCC0
        go_loopw [25] (fun v wr => ∃ k : Nat, k ≤ K ∧ v = .int .i64 k ∧ Aside0 (Mat w.heap.size wr (w.heap.size + 1) m m p (fun _ => w.heap.size) (fun i => i * p) (fun _ => p) (fun r c => if r < k then toMx l0 (l1.getD r 0).toNat c else 0#8)) ∧ Aside0 (Below w.heap.size w wr)) (fun v _ => m - (intOf v).toNat)
        case atStart => exact ⟨0, Nat.zero_le _, by simp, ⟨HM.out.congr (fun r _ c _ => by rw [if_neg (by omega)])⟩, HB⟩
        case round =>
          obtain ⟨k, hk, rfl, HT, HB⟩ := hrel
          by_cases hlt : k < m
          · have w0 : wrap64 ((k : Int) + 1) = (k : Int) + 1 := by unfold wrap64; omega
            have c1 := HN.out _ HB.out k hlt
            by_cases hkK : k < K
            · obtain ⟨z0, z1⟩ := HK2.out k hkK
              obtain ⟨i, hi⟩ : ∃ i : Nat, l1.getD k 0 = (i : Int) := Int.eq_ofNat_of_zero_le z0
              have HI := Aside0.mk hi
              rw [hi] at c1 z0 z1
              have g1 : decide ((i : Int) < 0) = false := by simp
              have g2 : decide ((n : Int) ≤ (i : Int)) = false := by simp; omega
              obtain ⟨q, hq⟩ : ∃ q, q = k * p := ⟨_, rfl⟩
              have c2 : wr.cell? ⟨w.heap.size + 1, k, none⟩ = some (.slice (some ⟨w.heap.size, q, none⟩) p p) := by rw [hq]; exact HT.out.load hlt
              obtain ⟨a, da, hda, hza⟩ := HR.out i (by omega)
              have c3 := (hza _ HB.out).1
              obtain ⟨w3, hr3, hg3, hM3⟩ := HT.out.drew.copy_run hlt (by omega) (toMx l0 i) a da 3 (hza _ HB.out.drew).2.1
              rw [← hq] at hr3
              have HR3 := Aside0.mk hr3
              have HB3 := Aside0.mk (show Below w.heap.size w w3 from Below.grown HB.out.drew hg3 HB.out.size (fun k hk => by injection hk with hk; exact Nat.le_of_eq hk))
              have HM3 := Aside0.mk (hM3.congr (A' := fun r c => if r < k + 1 then toMx l0 (l1.getD r 0).toNat c else 0#8) (fun r _ c _ => by
                by_cases e : r = k
                · subst e; rw [if_pos rfl, if_pos (by omega), HI.out, Int.toNat_natCast]
                · rw [if_neg e]
                  by_cases e2 : r < k
                  · rw [if_pos e2, if_pos (by omega)]
                  · rw [if_neg e2, if_neg (by omega)]))
              clear hi hq hr3 hg3 hM3 hza z0 hda
              go_wp2
              go_region_law (refine step_copy rfl (.tmp 41) (.tmp 45) 37 37 rfl _ _ rfl rfl HR3.out ?_)
              all_goals
                clear c1 c2 c3 x1 HR HR3 HN HK2 HK3 HT HB HM HI
                go_wp2
                go_roundw
                case rel => exact ⟨k + 1, by omega, by go_num, HM3, HB3⟩
                case measure => simp [intOf]; omega
            · have hke : k = K := by omega
              subst hke
              have hm : ¬ k = m := by omega
              have h := HH.out
              rw [if_neg hm] at h
              simp only [Option.some.injEq, Prod.mk.injEq] at h
              obtain ⟨rfl, rfl⟩ := h
              have hbad := HK3.out hlt
              obtain ⟨x, hx⟩ : ∃ x, x = l1.getD k 0 := ⟨_, rfl⟩
              rw [← hx] at c1 hbad
              have HX := Aside0.mk hx
              clear HR HN HK2 HK3 HT HM HE HH hx
              by_cases hneg : x < 0
              · have g1 : decide (x < 0) = true := decide_eq_true hneg
                clear hbad hneg
                go_wp2
                go_ret2
                exact ⟨_, rfl, N_nil _ _, HB.out⟩
              · have g1 : decide (x < 0) = false := decide_eq_false hneg
                have g2 : decide ((n : Int) ≤ x) = true := by simp; omega
                have g3 : (n : Int) ≤ x := by omega
                clear hbad
                go_wp2
                go_ret2
                exact ⟨_, rfl, N_nil _ _, HB.out⟩
          · have hke : k = m := by omega
            have hkK : K = m := by omega
            subst hke
            have h := HH.out
            rw [if_pos hkK] at h
            simp only [Option.some.injEq, Prod.mk.injEq] at h
            obtain ⟨rfl, rfl⟩ := h
            clear HR HN HK2 HK3 HE HH hkK
            go_wp2
            go_ret2
            exact ⟨_, rfl, (HT.out.congr (fun r hr c _ => by rw [if_pos hr])).N (Nat.le_refl _) (by omega) (by omega), HB.out⟩
      · rw [if_neg hlen] at h
        simp only [Option.some.injEq, Prod.mk.injEq] at h
        obtain ⟨rfl, rfl⟩ := h
        have HS := Aside0.mk (side_false (a := (l1.length : Int)) (by omega))
        go_enter Try.func16, Try.ntmps16
        go_wp2_with (first | (go_at_call 22; (with_reducible refine (HCC0.out _ ?hbl).mono ?_); (case hbl => first | exact Below.refl _ _ | exact pw_below_drewN (Below.refl _ _) _); rintro e w1 ⟨rfl, ⟨nd, rfl⟩⟩) | (go_at_call 43; (with_reducible refine (matrix_side.calls _ _ _ HS.out).mono ?_); rintro e w1 ⟨rfl, ⟨nd, rfl⟩⟩))
        go_ret2
        exact ⟨_, rfl, N_nil _ _, pw_below_drewN (Below.refl _ _) _⟩
    · rw [if_neg o1] at h
      simp only [Option.some.injEq, Prod.mk.injEq] at h
      obtain ⟨rfl, rfl⟩ := h
      have K0 := Aside0.mk (check_bad o1)
      go_enter Try.func16, Try.ntmps16
      go_wp2_with (go_at_call 22; refine (matrix_Check.calls 300 _ _ _ _ _ HR0.out HC0.out K0.out).mono ?_; rintro e w1 ⟨rfl, ⟨nd, rfl⟩⟩)
      go_ret2
      exact ⟨_, rfl, N_nil _ _, pw_below_drewN (Below.refl _ _) _⟩
  · rw [if_neg hb] at h; cases h
end Go.Proofs.Ytlobaomleocpjaa.G
