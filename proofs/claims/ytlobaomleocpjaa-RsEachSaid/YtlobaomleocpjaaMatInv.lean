/- matrix.Invert's contract over this seat's program. Conditions: each lemma's own. -/
import Derived.Test.YtlobaomleocpjaaMatClear
import Derived.Test.YtlobaomleocpjaaMatMul
import Derived.Test.YtlobaomleocpjaaMatCau
namespace Go.Proofs.Ytlobaomleocpjaa.G
open Go.RowKit Go.Proofs.YtlobaomleocpjaaW.PrintWords Go.Proofs.YtlobaomleocpjaaW.PrintLast Go.Proofs.YtlobaomleocpjaaW.PrintMore
set_option linter.unusedVariables false
set_option linter.unusedSimpArgs false

/-- What Invert answers for a square matrix of bytes. -/
def invAns (l : List (List Int)) : List (List Int) × Int := match GfM.invX l.length (toMx l) with | some X => (mxL l.length l.length X, 0) | none => ([], 13)
def matrix_Invert.f (l0 : List (List Int)) : Option (List (List Int) × Int) :=
  if BytesM l0 then some (if OkM l0 then (if colsM l0 = l0.length then invAns l0 else ([], 1)) else ([], 2)) else none
theorem Pair.mk_ {B gl ga gr gb n : Nat} {w : World} {oL oR : Nat → Nat} {L R : GfM.Mx} (hl : Mat B w gl n n n (fun _ => ga) oL (fun _ => n) L) (hr : Mat B w gr n n n (fun _ => gb) oR (fun _ => n) R) (d1 : gl ≠ gr) (d2 : ga ≠ gb) (hB : B ≤ w.heap.size) :
    Pair B (w.alloc (.cells #[.slice (some ⟨gl, 0, none⟩) n n, .slice (some ⟨gr, 0, none⟩) n n] 65)) w.heap.size gl ga gr gb n oL oR L R := ⟨blk_new _ _, hl.alloc _, hr.alloc _, d1, d2, hB⟩
set_option maxRecDepth 100000 in
set_option maxHeartbeats 16000000 in
theorem matrix_Invert.calls (A0 : Option Addr) (c0 : Nat) (l0 : List (List Int)) (r1 : List (List Int)) (r2 : Int) (w : World) (hr0 : Kd.C (Kd.slice 5 (Kd.int .u8)) w A0 l0.length l0) (hc0 : l0.length ≤ c0) (h : matrix_Invert.f l0 = some (r1, r2)) :
    Calls Try.prog 25 #[.slice A0 l0.length c0] w fun e w' => ∃ v0_ : Value, e = .returned (.tuple #[v0_, .int .i64 r2]) ∧ Kd.N (Kd.slice 5 (Kd.int .u8)) 37 w' w.heap.size (fun k_ => (w.heap.size ≤ k_)) v0_ r1 ∧ Below w.heap.size w w' := by
  have HR0 := Aside0.mk hr0
  have HC0 := Aside0.mk hc0
  clear hr0 hc0
  unfold matrix_Invert.f at h
  by_cases hb : BytesM l0
  · rw [if_pos hb] at h
    by_cases o1 : OkM l0
    · rw [if_pos o1] at h
      have K0 := Aside0.mk (check_ok o1)
      have HCC0 := Aside0.mk (matrix_Check.calls 300 _ _ _ _ w HR0.out HC0.out K0.out)
      obtain ⟨ad0, hA0⟩ : ∃ ad, A0 = some ad := (HR0.out.2.2 (by have := o1.1; omega)).imp fun _ hh => hh.1
      subst hA0
      have hrow := fun (i : Nat) (hi : i < l0.length) => lent_row HR0.out hb o1 hi
      obtain ⟨b0, d0, hd0, hz0⟩ := hrow 0 (by have := o1.1; omega)
      have x1 := (hz0 w (Below.refl _ _)).1
      rw [Addr.add_zero'] at x1
      obtain ⟨q1, q2, q3, q4, q5⟩ := o1
      clear q5 hz0 hb K0
      by_cases hsq : colsM l0 = l0.length
      · rw [if_pos hsq] at h
        rw [hsq] at hrow x1 hd0
        unfold invAns at h
        obtain ⟨n, hn⟩ : ∃ n, n = l0.length := ⟨_, rfl⟩
        rw [← hn] at hrow x1 hd0 h HCC0 q1 q2
        rw [← hn]
        obtain ⟨M, hM⟩ : ∃ M, M = toMx l0 := ⟨_, rfl⟩
        rw [← hM] at hrow h
        have HR := Aside0.mk hrow
        have HH := Aside0.mk (show r1 = (match GfM.invX n M with | some X => (mxL n n X, (0 : Int)) | none => ([], 13)).1 ∧ r2 = (match GfM.invX n M with | some X => (mxL n n X, (0 : Int)) | none => ([], 13)).2 from by
          have h2 := Option.some.inj h
          rw [h2]
          exact ⟨rfl, rfl⟩)
        have hG := fun W => grid_calls n n W q1 q2 q1 q2
        have hU := fun W => unit_calls n W q1 q2
        clear h hrow hM hn hsq HR0 HC0 q3 q4 hd0
        go_enter Try.func25, Try.ntmps25
        go_wp2_with (first | (go_at_call 22; (with_reducible refine HCC0.out.mono ?_); rintro e w1 ⟨rfl, ⟨nd, rfl⟩⟩) | (go_at_call 39; (with_reducible refine (hG _).mono ?_); rintro e w2 ⟨rfl, hm, hb⟩; have HM := Aside0.mk (show Mat w.heap.size w2 (w.heap.size + 1) n n n (fun _ => w.heap.size) (fun i => i * n) (fun _ => n) (fun _ _ => 0#8) from hm); have HB := Aside0.mk (show Below w.heap.size w w2 from (pw_below_drewN (Below.refl _ _) _).trans hb); clear hm hb) | (go_at_call 44; (with_reducible refine (hU _).mono ?_); rintro e w3 ⟨rfl, hm, hb⟩; have HM2 := Aside0.mk hm; have HB2 := Aside0.mk hb; clear hm hb))
        have hs2 : w.heap.size + 2 ≤ w2.heap.size := by have := HM.out.ltm; omega
        have hs3 : w2.heap.size ≤ w3.heap.size := HB2.out.size
        have hB3 : Below w.heap.size w w3 := HB.out.trans (HB2.out.mono HB.out.size)
        have HP := Aside0.mk (Pair.mk_ ((HM.out.below HB2.out)) (HM2.out.lower HB.out.size) (by omega) (by omega) (Nat.le_trans HB.out.size hs3))
        have HBP := Aside0.mk (hB3.alloc (Nat.le_trans HB.out.size hs3) (.cells #[.slice (some ⟨w.heap.size + 1, 0, none⟩) n n, .slice (some ⟨w2.heap.size + 1, 0, none⟩) n n] 65))
        clear hB3 hG hU HCC0 HM HM2 HB2
        go_loopw [35] (fun v wr => ∃ i : Nat, i ≤ n ∧ v = .int .i64 i ∧ Aside0 (Pair w.heap.size wr w3.heap.size (w.heap.size + 1) w.heap.size (w2.heap.size + 1) w2.heap.size n (fun i => i * n) (fun i => i * n) (fun r c => if r < i then M r c else 0#8) GfM.idm) ∧ Aside0 (Below w.heap.size w wr)) (fun v _ => n - (intOf v).toNat)
        case atStart => exact ⟨0, Nat.zero_le _, by simp, ⟨HP.out.congr (fun r _ c _ => by rw [if_neg (by omega)]) (fun _ _ _ _ => rfl)⟩, HBP⟩
        case round =>
          obtain ⟨i, hi, rfl, HT, HBW⟩ := hrel
          clear HP HBP
          by_cases hlt : i < n
          · have w0 : wrap64 ((i : Int) + 1) = (i : Int) + 1 := by unfold wrap64; omega
            have x0 := HT.out.left
            have l1 := HT.out.ml.load hlt
            obtain ⟨q, hq⟩ : ∃ q, q = i * n := ⟨_, rfl⟩
            obtain ⟨a, da, hda, hza⟩ := HR.out i hlt
            have c3 := (hza _ HBW.out).1
            obtain ⟨w4, hr4, hg4, hM4⟩ := HT.out.drew.ml.copy_run hlt (by omega) (M i) a da 3 (hza _ HBW.out.drew).2.1
            rw [← hq] at l1 hr4
            have HR4 := Aside0.mk hr4
            have HB4 := Aside0.mk (show Below w.heap.size w w4 from Below.grown HBW.out.drew hg4 HBW.out.size (fun k hk => by injection hk with hk; exact Nat.le_of_eq hk))
            have HP4 := Aside0.mk ((HT.out.drew.setL (by omega) hg4 hM4).congr (L' := fun r c => if r < i + 1 then M r c else 0#8) (R' := GfM.idm) (fun r _ c _ => by
              by_cases e : r = i
              · rw [if_pos e, if_pos (by omega), e]
              · rw [if_neg e]
                by_cases e2 : r < i
                · rw [if_pos e2, if_pos (by omega)]
                · rw [if_neg e2, if_neg (by omega)]) (fun _ _ _ _ => rfl))
            clear hq hr4 hg4 hM4 hza hda
            go_wp2
            go_region_law (refine step_copy rfl (.tmp 44) (.tmp 48) 37 37 rfl _ _ rfl rfl HR4.out ?_)
            all_goals
              clear x0 l1 c3 HR HR4 HT HBW HB HH x1
              go_wp2
              go_roundw
              case rel => exact ⟨i + 1, by omega, by go_num, HP4, HB4⟩
              case measure => simp [intOf]; omega
          · have hie : i = n := by omega
            subst hie
            have HP := Aside0.mk (HT.out.congr (L' := M) (R' := GfM.idm) (fun r hr c _ => by rw [if_pos hr]) (fun _ _ _ _ => rfl))
            clear HT x1 HR HB
            go_wp2
            go_loopw [52] (fun v wr => ∃ (at_ : Nat) (oL oR : Nat → Nat) (L R : GfM.Mx), at_ ≤ i ∧ v = .int .i64 at_ ∧ Aside0 (Pair w.heap.size wr w3.heap.size (w.heap.size + 1) w.heap.size (w2.heap.size + 1) w2.heap.size i oL oR L R) ∧ Aside0 (GfM.elimX i (i - at_) at_ L R = GfM.invX i M) ∧ Aside0 (Below w.heap.size w wr)) (fun v _ => i - (intOf v).toNat)
            case atStart => exact ⟨0, _, _, _, _, Nat.zero_le _, by simp, HP, ⟨rfl⟩, HBW⟩
            case round =>
              obtain ⟨at_, oL, oR, L, R, hat, rfl, HT, HE, HBX⟩ := hrel
              clear HP HBW
              by_cases hlt2 : at_ < i
              · have w0 : wrap64 ((at_ : Int) + 1) = (at_ : Int) + 1 := by unfold wrap64; omega
                have hpv := pivot_calls at_ _ HT.out hlt2 q2
                have hE := HE.out
                obtain ⟨d, hd⟩ : ∃ d, i - at_ = d + 1 := ⟨i - at_ - 1, by omega⟩
                rw [hd, GfM.elimX] at hE
                cases hp : GfM.pivotX L at_ (i - at_) at_ with
                | none =>
                  rw [hp] at hE hpv
                  have hh := HH.out
                  rw [← hE] at hh
                  obtain ⟨rfl, rfl⟩ := hh
                  have HPV := Aside0.mk hpv
                  clear hE hpv HH HE hd hp
                  go_wp2_with (go_at_call 47; (with_reducible refine HPV.out.mono ?_); rintro e w5 ⟨rfl, rfl⟩)
                  go_ret2
                  exact ⟨_, rfl, N_nil _ _, HBX.out⟩
                | some p =>
                  rw [hp] at hE hpv
                  obtain ⟨p1, p2, p3⟩ := GfM.pivotX_some hp
                  have hpi : p < i := by omega
                  have HPV := Aside0.mk hpv
                  have HE2 := Aside0.mk (show GfM.elimX i (i - (at_ + 1)) (at_ + 1) (GfM.turnX at_ p L L) (GfM.turnX at_ p L R) = GfM.invX i M from by rw [← hE, show i - (at_ + 1) = d from by omega])
                  have HSW := Aside0.mk (swap_calls at_ p _ HT.out hlt2 hpi q2 HBX.out.size)
                  clear hE hpv hd hp p1 p2
                  obtain ⟨xp, hxp⟩ : ∃ x, x = GfM.swapX at_ p L at_ at_ := ⟨_, rfl⟩
                  obtain ⟨ei, hei⟩ := gfinv_any xp
                  obtain ⟨xv, hxv⟩ : ∃ xv : Int, xv = (xp.toNat : Int) := ⟨_, rfl⟩
                  obtain ⟨iv, hiv⟩ : ∃ iv : Int, iv = ((GfM.inv xp).toNat : Int) := ⟨_, rfl⟩
                  rw [← hxv, ← hiv] at hei
                  have hsc : ∀ (oL' oR' : Nat → Nat) (W : World), Pair w.heap.size W w3.heap.size (w.heap.size + 1) w.heap.size (w2.heap.size + 1) w2.heap.size i oL' oR' (GfM.swapX at_ p L) (GfM.swapX at_ p R) → w.heap.size ≤ W.heap.size → Calls Try.prog 49 #[.pointer (some ⟨w3.heap.size, 0, none⟩), .int .i64 at_, .int .u8 iv] W fun e w' => e = .returned (.tuple #[]) ∧ Pair w.heap.size w' w3.heap.size (w.heap.size + 1) w.heap.size (w2.heap.size + 1) w2.heap.size i oL' oR' (GfM.scaleX at_ (GfM.inv xp) (GfM.swapX at_ p L)) (GfM.scaleX at_ (GfM.inv xp) (GfM.swapX at_ p R)) ∧ Below w.heap.size W w' := fun oL' oR' W hW hB => by rw [hiv]; exact scale_calls at_ (GfM.inv xp) W hW hlt2 q2 hB
                  have HSC := Aside0.mk hsc
                  clear hsc
                  have HEI := Aside0.mk hei
                  have HXP := Aside0.mk hxp
                  have HXV := Aside0.mk hxv
                  have HIV := Aside0.mk hiv
                  clear hei hxp hxv hiv
                  go_wp2_with (first
                    | (go_at_call 47; (with_reducible refine HPV.out.mono ?_); rintro e w5 ⟨rfl, rfl⟩)
                    | (go_at_call 48; (with_reducible refine HSW.out.mono ?_); rintro e w6 ⟨rfl, ⟨oL', oR', hP6⟩, hB6⟩; have HP6 := Aside0.mk hP6; have HB6 := Aside0.mk (HBX.out.trans hB6); have z0 := hP6.left; have z1 := hP6.ml.load hlt2; have z2 := hP6.ml.cell hlt2 hlt2; rw [← HXP.out, ← HXV.out] at z2; clear hP6 hB6)
                    | (go_at_call 45; (with_reducible refine (gf_Inv.calls _ _ _ _ HEI.out).mono ?_); rintro e w7 ⟨rfl, ⟨nd, rfl⟩⟩)
                    | (go_at_call 49; (with_reducible refine (HSC.out oL' oR' _ ?hpw ?hsz).mono ?_); (case hpw => exact HP6.out.drewN _); (case hsz => exact HB6.out.size); rintro e w8 ⟨rfl, hP8, hB8⟩; have HP8 := Aside0.mk hP8; have HB8 := Aside0.mk ((pw_below_drewN HB6.out _).trans hB8); clear hP8 hB8)
                    | (go_at_call 50; (with_reducible refine (clear_calls _ _ HP8.out hlt2 q2 HB8.out.size).mono ?_); rintro e w9 ⟨rfl, hP9, hB9⟩; have HP9 := Aside0.mk hP9; have HB9 := Aside0.mk (HB8.out.trans hB9); clear hP9 hB9))
                  have HP10 := Aside0.mk (show Pair w.heap.size w9 w3.heap.size (w.heap.size + 1) w.heap.size (w2.heap.size + 1) w2.heap.size i oL' oR' (GfM.turnX at_ p L L) (GfM.turnX at_ p L R) from by unfold GfM.turnX; rw [← HXP.out]; exact HP9.out)
                  go_roundw
                  case rel => exact ⟨at_ + 1, oL', oR', _, _, by omega, by go_num, HP10, HE2, HB9⟩
                  case measure => simp [intOf]; omega
              · have hai : at_ = i := by omega
                subst hai
                have hE := HE.out
                rw [Nat.sub_self, GfM.elimX] at hE
                have hh := HH.out
                rw [← hE] at hh
                obtain ⟨rfl, rfl⟩ := hh
                have x1 := HT.out.right
                clear hE HH HE
                go_wp2
                go_ret2
                exact ⟨_, rfl, HT.out.mr.N (Nat.le_refl _) (by omega) (by omega), HBX.out⟩
      · rw [if_neg hsq] at h
        simp only [Option.some.injEq, Prod.mk.injEq] at h
        obtain ⟨rfl, rfl⟩ := h
        have b1 : ((colsM l0 : Int) == (l0.length : Int)) = false := by simp; omega
        have b2 : ((colsM l0 : Int) != (l0.length : Int)) = true := by simp; omega
        clear hrow
        go_enter Try.func25, Try.ntmps25
        go_wp2_with (go_at_call 22; (with_reducible refine HCC0.out.mono ?_); rintro e w1 ⟨rfl, ⟨nd, rfl⟩⟩)
        go_ret2
        exact ⟨_, rfl, N_nil _ _, pw_below_drewN (Below.refl _ _) _⟩
    · rw [if_neg o1] at h
      simp only [Option.some.injEq, Prod.mk.injEq] at h
      obtain ⟨rfl, rfl⟩ := h
      have K0 := Aside0.mk (check_bad o1)
      go_enter Try.func25, Try.ntmps25
      go_wp2_with (go_at_call 22; refine (matrix_Check.calls 300 _ _ _ _ _ HR0.out HC0.out K0.out).mono ?_; rintro e w1 ⟨rfl, ⟨nd, rfl⟩⟩)
      go_ret2
      exact ⟨_, rfl, N_nil _ _, pw_below_drewN (Below.refl _ _) _⟩
  · rw [if_neg hb] at h; cases h
end Go.Proofs.Ytlobaomleocpjaa.G
