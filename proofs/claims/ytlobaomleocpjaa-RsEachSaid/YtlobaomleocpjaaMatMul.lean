/- matrix.Mul's contract over this seat's program. Conditions: each lemma's own. -/
import Derived.Test.YtlobaomleocpjaaMatFn
namespace Go.Proofs.Ytlobaomleocpjaa.G
open Go.RowKit Go.Proofs.YtlobaomleocpjaaW.PrintWords Go.Proofs.YtlobaomleocpjaaW.PrintLast Go.Proofs.YtlobaomleocpjaaW.PrintMore
set_option linter.unusedVariables false
set_option linter.unusedSimpArgs false

/-- The product as the code adds it up: the rows above are done, of row i the first j products. -/
def mulP (n : Nat) (A B : GfM.Mx) (i j : Nat) : GfM.Mx := fun r c => if r < i then GfM.mm n A B r c else if r = i then GfM.mm j A B r c else 0#8
theorem mulP_step (n : Nat) (A B : GfM.Mx) (i j r c : Nat) : mulP n A B i (j + 1) r c = if r = i then mulP n A B i j r c ^^^ GfM.mul (A i j) (B j c) else mulP n A B i j r c := by
  unfold mulP
  by_cases e : r = i
  · subst e
    simp only [Nat.lt_irrefl, if_false, if_true]
    rfl
  · by_cases e2 : r < i
    · rw [if_pos e2, if_neg e, if_pos e2]
    · rw [if_neg e2, if_neg e, if_neg e, if_neg e2, if_neg e]
theorem mulP_row (n : Nat) (A B : GfM.Mx) (i r c : Nat) : mulP n A B i n r c = mulP n A B (i + 1) 0 r c := by
  unfold mulP
  by_cases e : r = i
  · subst e; rw [if_neg (by omega), if_pos rfl, if_pos (by omega)]
  · by_cases e2 : r < i
    · rw [if_pos e2, if_pos (by omega)]
    · rw [if_neg e2, if_neg e, if_neg (by omega)]
      by_cases e3 : r = i + 1
      · rw [if_pos e3]; rfl
      · rw [if_neg e3]
def matrix_Mul.f (l0 l1 : List (List Int)) : Option (List (List Int) × Int) :=
  if BytesM l0 ∧ BytesM l1 then some (if OkM l0 ∧ OkM l1 then (if l1.length = colsM l0 then (mxL l0.length (colsM l1) (GfM.mm l1.length (toMx l0) (toMx l1)), 0) else ([], 1)) else ([], 2)) else none
theorem check_ok {l : List (List Int)} (h : OkM l) : matrix_Check.f 300 l = some 0 := by rw [check_eq l 300 (Nat.le_refl _), if_pos h]
theorem check_bad {l : List (List Int)} (h : ¬ OkM l) : matrix_Check.f 300 l = some 2 := by rw [check_eq l 300 (Nat.le_refl _), if_neg h]
set_option maxRecDepth 100000 in
set_option maxHeartbeats 8000000 in
theorem matrix_Mul.calls (A0 : Option Addr) (c0 : Nat) (l0 : List (List Int)) (A1 : Option Addr) (c1 : Nat) (l1 : List (List Int)) (r1 : List (List Int)) (r2 : Int) (w : World) (hr0 : Kd.C (Kd.slice 5 (Kd.int .u8)) w A0 l0.length l0) (hc0 : l0.length ≤ c0) (hr1 : Kd.C (Kd.slice 5 (Kd.int .u8)) w A1 l1.length l1) (hc1 : l1.length ≤ c1) (h : matrix_Mul.f l0 l1 = some (r1, r2)) :
    Calls Try.prog 14 #[.slice A0 l0.length c0, .slice A1 l1.length c1] w fun e w' => ∃ v0_ : Value, e = .returned (.tuple #[v0_, .int .i64 r2]) ∧ Kd.N (Kd.slice 5 (Kd.int .u8)) 37 w' w.heap.size (fun k_ => (w.heap.size ≤ k_)) v0_ r1 ∧ Below w.heap.size w w' := by
  have HR0 := Aside0.mk hr0
  have HC0 := Aside0.mk hc0
  have HR1 := Aside0.mk hr1
  have HC1 := Aside0.mk hc1
  clear hr0 hc0 hr1 hc1
  unfold matrix_Mul.f at h
  by_cases hb : BytesM l0 ∧ BytesM l1
  · rw [if_pos hb] at h
    have HBY := Aside0.mk hb
    clear hb
    by_cases o1 : OkM l0
    · have K0 := Aside0.mk (check_ok o1)
      by_cases o2 : OkM l1
      · have K1 := Aside0.mk (check_ok o2)
        rw [if_pos ⟨o1, o2⟩] at h
        obtain ⟨ad0, hA0⟩ : ∃ ad, A0 = some ad := (HR0.out.2.2 (by have := o1.1; omega)).imp fun _ hh => hh.1
        obtain ⟨ad1, hA1⟩ : ∃ ad, A1 = some ad := (HR1.out.2.2 (by have := o2.1; omega)).imp fun _ hh => hh.1
        subst hA0 hA1
        have hrow0 := fun (i : Nat) (hi : i < l0.length) => lent_row HR0.out HBY.out.1 o1 hi
        have hrow1 := fun (i : Nat) (hi : i < l1.length) => lent_row HR1.out HBY.out.2 o2 hi
        obtain ⟨b0, d0, hd0, hz0⟩ := hrow0 0 (by have := o1.1; omega)
        obtain ⟨b1, d1, hd1, hz1⟩ := hrow1 0 (by have := o2.1; omega)
        have o1' := o1
        have o2' := o2
        obtain ⟨q1, q2, q3, q4, q5⟩ := o1'
        obtain ⟨s1, s2, s3, s4, s5⟩ := o2'
        clear q5 s5
        have HO1 := Aside0.mk o1
        have HO2 := Aside0.mk o2
        clear o1 o2
        obtain ⟨n, hn⟩ : ∃ n, n = l0.length := ⟨_, rfl⟩
        obtain ⟨p0, hp0⟩ : ∃ p, p = colsM l0 := ⟨_, rfl⟩
        obtain ⟨m, hm⟩ : ∃ m, m = l1.length := ⟨_, rfl⟩
        obtain ⟨p, hp⟩ : ∃ p, p = colsM l1 := ⟨_, rfl⟩
        rw [← hn] at hrow0 q1 q2
        rw [← hm] at hrow1 s1 s2
        rw [← hp0] at hrow0 hd0 hz0 q3 q4
        rw [← hp] at hrow1 hd1 hz1 s3 s4
        rw [← hn, ← hm, ← hp, ← hp0] at h
        have K0' := K0.out
        have hC0 : ∀ W, Below w.heap.size w W → Calls Try.prog 22 #[.slice (some ad0) n c0] W fun e w' => e = .returned (.int .i64 0) ∧ Drawn0 W w' := fun W hW => by rw [hn]; exact matrix_Check.calls 300 _ _ _ _ W (Kd.C_below HR0.out hW) HC0.out K0.out
        have hC1 : ∀ W, Below w.heap.size w W → Calls Try.prog 22 #[.slice (some ad1) m c1] W fun e w' => e = .returned (.int .i64 0) ∧ Drawn0 W w' := fun W hW => by rw [hm]; exact matrix_Check.calls 300 _ _ _ _ W (Kd.C_below HR1.out hW) HC1.out K1.out
        have HCC0 := Aside0.mk hC0
        have HCC1 := Aside0.mk hC1
        obtain ⟨x1, x2, x3⟩ := hz0 w (Below.refl _ _)
        obtain ⟨y1, y2, y3⟩ := hz1 w (Below.refl _ _)
        rw [Addr.add_zero'] at x1 y1
        clear x2 x3 y2 y3 K0' hC0 hC1 hz0 hz1
        have HR := Aside0.mk hrow0
        have HS := Aside0.mk hrow1
        clear hrow0 hrow1
        rw [← hn, ← hm]
        have HN := Aside0.mk (And.intro hn (And.intro hp0 (And.intro hm hp)))
        clear hn hp0 hm hp
        by_cases hpm : m = p0
        · rw [if_pos hpm] at h
          simp only [Option.some.injEq, Prod.mk.injEq] at h
          obtain ⟨rfl, rfl⟩ := h
          subst hpm
          have hG := fun W => grid_calls n p W q1 q2 s3 s4
          go_enter Try.func14, Try.ntmps14
          go_wp2_with (first | (go_at_call 22; (with_reducible refine (HCC0.out _ ?hbl).mono ?_); (case hbl => first | exact Below.refl _ _ | exact pw_below_drewN (Below.refl _ _) _); rintro e w1 ⟨rfl, ⟨nd, rfl⟩⟩) | (go_at_call 22; (with_reducible refine (HCC1.out _ ?hbl).mono ?_); (case hbl => first | exact Below.refl _ _ | exact pw_below_drewN (Below.refl _ _) _); rintro e w1 ⟨rfl, ⟨nd, rfl⟩⟩) | (go_at_call 39; refine (hG _).mono ?_; rintro e w2 ⟨rfl, hm, hb⟩; have HM := Aside0.mk (show Mat w.heap.size w2 (w.heap.size + 1) n n p (fun _ => w.heap.size) (fun i => i * p) (fun _ => p) (fun _ _ => 0#8) from hm); have HB := Aside0.mk (show Below w.heap.size w w2 from (pw_below_drewN (Below.refl _ _) _).trans hb); clear hm hb))
          clear hG
          go_loopw [35] (fun v wr => ∃ i : Nat, i ≤ n ∧ v = .int .i64 i ∧ Aside0 (Mat w.heap.size wr (w.heap.size + 1) n n p (fun _ => w.heap.size) (fun i => i * p) (fun _ => p) (mulP m (toMx l0) (toMx l1) i 0)) ∧ Aside0 (Below w.heap.size w wr)) (fun v _ => n - (intOf v).toNat)
          case atStart => exact ⟨0, Nat.zero_le _, by simp, ⟨HM.out.congr (fun r _ c _ => by unfold mulP; rw [if_neg (by omega)]; by_cases e : r = 0 <;> simp [e]; rfl)⟩, HB⟩
          case round =>
            obtain ⟨i, hi, rfl, HT, HB⟩ := hrel
            by_cases hlt : i < n
            · obtain ⟨q, hq, hq1⟩ : ∃ q, q = i * p ∧ q ≤ 65025 := ⟨i * p, rfl, by have : i * p ≤ 255 * 255 := Nat.mul_le_mul (by omega) (by omega); omega⟩
              have w0 : wrap64 ((i : Int) + 1) = (i : Int) + 1 := by unfold wrap64; omega
              obtain ⟨a, da, hda, hza⟩ := HR.out i hlt
              have c1 := (hza _ HB.out).1
              have HZA := Aside0.mk hza
              have HQ := Aside0.mk hq
              clear hq hza
              go_wp2
              go_loopw [42] (fun v wr => ∃ j : Nat, j ≤ m ∧ v = .int .i64 j ∧ Aside0 (Mat w.heap.size wr (w.heap.size + 1) n n p (fun _ => w.heap.size) (fun i => i * p) (fun _ => p) (mulP m (toMx l0) (toMx l1) i j)) ∧ Aside0 (Below w.heap.size w wr)) (fun v _ => m - (intOf v).toNat)
              case atStart => exact ⟨0, Nat.zero_le _, by simp, HT, HB⟩
              case round =>
                obtain ⟨j, hj, rfl, HT, HB⟩ := hrel
                by_cases hlt2 : j < m
                · have w1 : wrap64 ((j : Int) + 1) = (j : Int) + 1 := by unfold wrap64; omega
                  obtain ⟨b, db, hdb, hzb⟩ := HS.out j hlt2
                  have d1 := (HZA.out _ HB.out).2.1 j hlt2
                  have d2 : wr.cell? ⟨w.heap.size + 1, i, none⟩ = some (.slice (some ⟨w.heap.size, q, none⟩) p p) := by rw [HQ.out]; exact HT.out.load hlt
                  have d3 := (hzb _ HB.out).1
                  have d4 := (hzb _ HB.out.drew).2.2
                  have hP := fun (W : World) (hW : Mat w.heap.size W (w.heap.size + 1) n n p (fun _ => w.heap.size) (fun i => i * p) (fun _ => p) (mulP m (toMx l0) (toMx l1) i j)) => hW.put_calls hlt s3 s4 (toMx l0 i j) (toMx l1 j)
                  rw [← HQ.out] at hP
                  obtain ⟨xv, hxv⟩ : ∃ xv : Int, xv = ((toMx l0 i j).toNat : Int) := ⟨_, rfl⟩
                  obtain ⟨sv, hsv⟩ : ∃ sv : ByteArray, sv = strX p (toMx l1 j) := ⟨_, rfl⟩
                  rw [← hxv] at d1 hP
                  rw [← hsv] at d4 hP
                  have HP := Aside0.mk hP
                  clear hxv hsv
                  clear hP hzb
                  go_wp2
                  go_region_with (go_at_call 40; (with_reducible refine (HP.out _ ?hmt).mono ?_); (case hmt => first | exact HT.out.drew | exact HT.out.drewN _); rintro e w3 ⟨rfl, hg, hM⟩)
                  all_goals
                    have hB3 : Below w.heap.size w w3 := Below.grown (by first | exact HB.out.drew | exact pw_below_drewN HB.out _) hg HB.out.size (fun k hk => by injection hk with hk; exact Nat.le_of_eq hk)
                    have HM3 := Aside0.mk (hM.congr (A' := mulP m (toMx l0) (toMx l1) i (j + 1)) (fun r _ c _ => by rw [mulP_step]; by_cases e : r = i <;> simp [e]))
                    have HB3 := Aside0.mk hB3
                    clear hB3 hM hg
                    clear c1 d1 d2 d3 d4 x1 y1 HCC0 HCC1 HR HS HZA HP HT HB HN HQ hda hdb hd0 hd1 K0 K1 HR0 HR1 HC0 HC1 HBY HO1 HO2
                    go_wp2
                    go_roundw
                    case rel => exact ⟨j + 1, by omega, by go_num, HM3, HB3⟩
                    case measure => simp [intOf]; omega
                · have hje : j = m := by omega
                  subst hje
                  go_wp2
                  go_roundw
                  case rel => exact ⟨i + 1, by omega, by go_num, ⟨HT.out.congr (fun r _ c _ => mulP_row _ _ _ _ _ _)⟩, HB⟩
                  case measure => simp [intOf]; omega
            · have hie : i = n := by omega
              subst hie
              go_wp2
              go_ret2
              exact ⟨_, rfl, (HT.out.congr (A' := GfM.mm m (toMx l0) (toMx l1)) (fun r hr c _ => by unfold mulP; rw [if_pos hr])).N (Nat.le_refl _) (by omega) (by omega), HB.out⟩
        · rw [if_neg hpm] at h
          simp only [Option.some.injEq, Prod.mk.injEq] at h
          obtain ⟨rfl, rfl⟩ := h
          have hpm1 : ((m : Int) == (p0 : Int)) = false := by simp; omega
          have hpm2 : ((m : Int) != (p0 : Int)) = true := by simp; omega
          go_enter Try.func14, Try.ntmps14
          go_wp2_with (first | (go_at_call 22; (with_reducible refine (HCC0.out _ ?hbl).mono ?_); (case hbl => first | exact Below.refl _ _ | exact pw_below_drewN (Below.refl _ _) _); rintro e w1 ⟨rfl, ⟨nd, rfl⟩⟩) | (go_at_call 22; (with_reducible refine (HCC1.out _ ?hbl).mono ?_); (case hbl => first | exact Below.refl _ _ | exact pw_below_drewN (Below.refl _ _) _); rintro e w1 ⟨rfl, ⟨nd, rfl⟩⟩))
          go_ret2
          exact ⟨_, rfl, N_nil _ _, pw_below_drewN (Below.refl _ _) _⟩
      · have K1 := Aside0.mk (check_bad o2)
        rw [if_neg (fun hh => o2 hh.2)] at h
        simp only [Option.some.injEq, Prod.mk.injEq] at h
        obtain ⟨rfl, rfl⟩ := h
        have hC0 : ∀ W, Below w.heap.size w W → Calls Try.prog 22 #[.slice A0 l0.length c0] W fun e w' => e = .returned (.int .i64 0) ∧ Drawn0 W w' := fun W hW => matrix_Check.calls 300 _ _ _ _ W (Kd.C_below HR0.out hW) HC0.out K0.out
        have hC1 : ∀ W, Below w.heap.size w W → Calls Try.prog 22 #[.slice A1 l1.length c1] W fun e w' => e = .returned (.int .i64 2) ∧ Drawn0 W w' := fun W hW => matrix_Check.calls 300 _ _ _ _ W (Kd.C_below HR1.out hW) HC1.out K1.out
        have HCC0 := Aside0.mk hC0
        have HCC1 := Aside0.mk hC1
        clear hC0 hC1
        go_enter Try.func14, Try.ntmps14
        go_wp2_with (first | (go_at_call 22; (with_reducible refine (HCC0.out _ ?hbl).mono ?_); (case hbl => first | exact Below.refl _ _ | exact pw_below_drewN (Below.refl _ _) _); rintro e w1 ⟨rfl, ⟨nd, rfl⟩⟩) | (go_at_call 22; (with_reducible refine (HCC1.out _ ?hbl).mono ?_); (case hbl => first | exact Below.refl _ _ | exact pw_below_drewN (Below.refl _ _) _); rintro e w1 ⟨rfl, ⟨nd, rfl⟩⟩))
        go_ret2
        exact ⟨_, rfl, N_nil _ _, pw_below_drewN (Below.refl _ _) _⟩
    · rw [if_neg (fun hh => o1 hh.1)] at h
      simp only [Option.some.injEq, Prod.mk.injEq] at h
      obtain ⟨rfl, rfl⟩ := h
      have K0 := Aside0.mk (check_bad o1)
      go_enter Try.func14, Try.ntmps14
      go_wp2_with (go_at_call 22; refine (matrix_Check.calls 300 _ _ _ _ _ HR0.out HC0.out K0.out).mono ?_; rintro e w1 ⟨rfl, ⟨nd, rfl⟩⟩)
      go_ret2
      exact ⟨_, rfl, N_nil _ _, pw_below_drewN (Below.refl _ _) _⟩
  · rw [if_neg hb] at h; cases h
end Go.Proofs.Ytlobaomleocpjaa.G
