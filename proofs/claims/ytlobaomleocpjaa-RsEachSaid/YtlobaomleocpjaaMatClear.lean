/- matrix.pair's clear over this seat's program. Conditions: each lemma's own. -/
import Derived.Test.YtlobaomleocpjaaMatPair2
namespace Go.Proofs.Ytlobaomleocpjaa.G
open Go.RowKit Go.Proofs.YtlobaomleocpjaaW.PrintWords Go.Proofs.YtlobaomleocpjaaW.PrintLast Go.Proofs.YtlobaomleocpjaaW.PrintMore
set_option linter.unusedVariables false
set_option linter.unusedSimpArgs false

/-- The rows above i are cleared. -/
def clearP (at_ : Nat) (L A : GfM.Mx) (i : Nat) : GfM.Mx := fun r c => if r < i then GfM.clearX at_ L A r c else A r c
theorem clearP_row (at_ : Nat) (L A : GfM.Mx) (i c : Nat) : clearP at_ L A i i c = A i c := by unfold clearP; rw [if_neg (Nat.lt_irrefl i)]
theorem clearP_skip (at_ : Nat) (L A : GfM.Mx) (i : Nat) (h : i = at_ ∨ L i at_ = 0#8) (r c : Nat) : clearP at_ L A i r c = clearP at_ L A (i + 1) r c := by
  unfold clearP
  by_cases e : r = i
  · rw [e, if_neg (Nat.lt_irrefl i), if_pos (Nat.lt_succ_self i)]
    unfold GfM.clearX
    rcases h with h | h
    · rw [if_pos h]
    · by_cases e2 : i = at_
      · rw [if_pos e2]
      · rw [if_neg e2, h, GfM.zero_mul]; simp
  · by_cases e2 : r < i
    · rw [if_pos e2, if_pos (by omega)]
    · rw [if_neg e2, if_neg (by omega)]
theorem clearP_step (at_ : Nat) (L A : GfM.Mx) (i : Nat) (h : i ≠ at_) (r c : Nat) : (if r = i then A i c ^^^ GfM.mul (L i at_) (A at_ c) else clearP at_ L A i r c) = clearP at_ L A (i + 1) r c := by
  unfold clearP
  by_cases e : r = i
  · rw [if_pos e, e, if_pos (Nat.lt_succ_self i)]
    unfold GfM.clearX
    rw [if_neg h]
  · rw [if_neg e]
    by_cases e2 : r < i
    · rw [if_pos e2, if_pos (by omega)]
    · rw [if_neg e2, if_neg (by omega)]
set_option maxRecDepth 100000 in
set_option maxHeartbeats 8000000 in
theorem clear_calls {B gp gl ga gr gb n : Nat} {oL oR : Nat → Nat} {L R : GfM.Mx} (at_ : Nat) (w : World) (hP : Pair B w gp gl ga gr gb n oL oR L R) (hat : at_ < n) (hn : n ≤ 255) (hB : B ≤ w.heap.size) :
    Calls Try.prog 50 #[.pointer (some ⟨gp, 0, none⟩), .int .i64 at_] w fun e w' => e = .returned (.tuple #[]) ∧ Pair B w' gp gl ga gr gb n oL oR (GfM.clearX at_ L L) (GfM.clearX at_ L R) ∧ Below B w w' := by
  have hn0 : 0 < n := by omega
  have HP := Aside0.mk hP
  have HB := Aside0.mk hB
  have x0 := hP.left
  have x1 := hP.right
  have l1 := hP.ml.load hat
  have l2 := hP.mr.load hat
  obtain ⟨a1, ha1⟩ : ∃ a, a = oL at_ := ⟨_, rfl⟩
  obtain ⟨a2, ha2⟩ : ∃ a, a = oR at_ := ⟨_, rfl⟩
  have cv := hP.drew.ml.conv hat
  have cv2 := hP.drew.mr.conv hat
  rw [← ha1] at l1 cv
  rw [← ha2] at l2 cv2
  obtain ⟨sv, hsv⟩ : ∃ s, s = strX n (L at_) := ⟨_, rfl⟩
  obtain ⟨sv2, hsv2⟩ : ∃ s, s = strX n (R at_) := ⟨_, rfl⟩
  rw [← hsv] at cv
  rw [← hsv2] at cv2
  have HSV := Aside0.mk (And.intro hsv hsv2)
  clear hP hB ha1 ha2 hsv hsv2
  go_enter Try.func50, Try.ntmps50
  go_upto_region 0 with (fail)
  go_cut [4, 5] (fun v4 v5 wc => v4 = .string sv ∧ v5 = .string sv2 ∧ Aside0 (wc = w.drew))
  case first =>
    go_region
    all_goals (clear x0 x1 l1 l2 cv cv2)
    all_goals go_wp2
    all_goals go_meet
    all_goals exact ⟨rfl, rfl, ⟨rfl⟩⟩
  case rest =>
    obtain ⟨rfl, rfl, ⟨hcut⟩⟩ := hcut
    clear x0 x1 l1 l2 cv cv2 a1 a2
    have HPC := Aside0.mk (show Pair B wc gp gl ga gr gb n oL oR L R from by rw [hcut]; exact HP.out.drew)
    have HBC := Aside0.mk (show Below B w wc from by rw [hcut]; exact (Below.refl B w).drew)
    clear hcut HP
    have x0 := HPC.out.left
    go_wp2
    go_loopw [29] (fun v wr => ∃ i : Nat, i ≤ n ∧ v = .int .i64 i ∧ Aside0 (Pair B wr gp gl ga gr gb n oL oR (clearP at_ L L i) (clearP at_ L R i)) ∧ Aside0 (Below B w wr)) (fun v _ => n - (intOf v).toNat)
    case atStart => exact ⟨0, Nat.zero_le _, by simp, ⟨HPC.out.congr (fun r _ c _ => by unfold clearP; rw [if_neg (by omega)]) (fun r _ c _ => by unfold clearP; rw [if_neg (by omega)])⟩, HBC⟩
    case round =>
      obtain ⟨i, hi, rfl, HT, HBW⟩ := hrel
      clear x0 HPC HBC
      by_cases hlt : i < n
      · have w0 : wrap64 ((i : Int) + 1) = (i : Int) + 1 := by unfold wrap64; omega
        have x0 := HT.out.left
        have l1 := HT.out.ml.load hlt
        have c1 := HT.out.ml.cell hlt hat
        rw [clearP_row] at c1
        obtain ⟨a1, ha1⟩ : ∃ a, a = oL i := ⟨_, rfl⟩
        rw [← ha1] at l1 c1
        by_cases hskip : i = at_ ∨ L i at_ = 0#8
        · have HT2 := Aside0.mk (HT.out.congr (fun r _ c _ => clearP_skip at_ L L i hskip r c) (fun r _ c _ => clearP_skip at_ L R i hskip r c))
          by_cases e : i = at_
          · obtain ⟨xv, hxv⟩ : ∃ xv : Int, xv = ((L i at_).toNat : Int) := ⟨_, rfl⟩
            rw [← hxv] at c1
            have b1 : ((i : Int) == (at_ : Int)) = true := by simp [e]
            have b2 : ((i : Int) != (at_ : Int)) = false := by simp [e]
            clear ha1 hskip hxv e
            go_wp2
            go_roundw
            case rel => exact ⟨i + 1, by omega, by go_num, HT2, HBW⟩
            case measure => simp [intOf]; omega
          · have hz : L i at_ = 0#8 := hskip.resolve_left e
            rw [hz] at c1
            simp only [BitVec.toNat_ofNat] at c1
            have b1 : ((i : Int) == (at_ : Int)) = false := by simp; omega
            have b2 : ((i : Int) != (at_ : Int)) = true := by simp; omega
            clear ha1 hskip hz e
            go_wp2
            go_roundw
            case rel => exact ⟨i + 1, by omega, by go_num, HT2, HBW⟩
            case measure => simp [intOf]; omega
        · have hne : i ≠ at_ := fun e => hskip (.inl e)
          have hnz : ¬ ((L i at_).toNat : Int) = 0 := fun e => hskip (.inr (BitVec.eq_of_toNat_eq (by simpa using e)))
          have hput1 := HT.out.ml.put_calls hlt hn0 hn (L i at_) (L at_)
          have hput2 := fun (W : World) (hW : Pair B W gp gl ga gr gb n oL oR (clearP at_ L L (i + 1)) (clearP at_ L R i)) => hW.mr.put_calls hlt hn0 hn (L i at_) (R at_)
          obtain ⟨xv, hxv⟩ : ∃ xv : Int, xv = ((L i at_).toNat : Int) := ⟨_, rfl⟩
          obtain ⟨a2, ha2⟩ : ∃ a, a = oR i := ⟨_, rfl⟩
          rw [← hxv] at c1 hput1 hput2 hnz
          rw [← ha1, ← HSV.out.1] at hput1
          rw [← ha2, ← HSV.out.2] at hput2
          have b1 : ((i : Int) == (at_ : Int)) = false := by simp; omega
          have b2 : ((i : Int) != (at_ : Int)) = true := by simp; omega
          have b3 : (xv == 0) = false := by simpa using hnz
          have b4 : (xv != 0) = true := by simp [hnz]
          have HP1 := Aside0.mk hput1
          have HP2 := Aside0.mk hput2
          have HA2 := Aside0.mk ha2
          have HNE := Aside0.mk hne
          clear ha1 ha2 hskip hxv hput1 hput2 hnz hne
          go_wp2_with (first | (go_at_call 40; (with_reducible refine HP1.out.mono ?_); rintro e w1 ⟨rfl, hg, hM⟩; have P1 := (HT.out.setL hn0 hg (hM.congr (A' := clearP at_ L L (i + 1)) (fun r _ c _ => by rw [clearP_row]; exact clearP_step at_ L L i HNE.out r c))); have HQ1 := Aside0.mk P1; have HBQ1 := Aside0.mk (show Below B w w1 from Below.grown HBW.out hg (Nat.le_trans HB.out HBW.out.size) (fun k hk => by injection hk with hk; rw [← hk]; exact HT.out.lowA hn0)); have z0 := P1.right; have z1 := P1.mr.load hlt; rw [← HA2.out] at z1; clear hg hM P1) | (go_at_call 40; (with_reducible refine (HP2.out _ HQ1.out).mono ?_); rintro e w2 ⟨rfl, hg, hM⟩; have HQ2 := Aside0.mk (HQ1.out.setR hn0 hg (hM.congr (A' := clearP at_ L R (i + 1)) (fun r _ c _ => by rw [clearP_row]; exact clearP_step at_ L R i HNE.out r c))); have HBQ2 := Aside0.mk (show Below B w w2 from Below.grown HBQ1.out hg (Nat.le_trans HB.out HBQ1.out.size) (fun k hk => by injection hk with hk; rw [← hk]; exact HQ1.out.lowB hn0)); clear hg hM))
          go_roundw
          case rel => exact ⟨i + 1, by omega, by go_num, HQ2, HBQ2⟩
          case measure => simp [intOf]; omega
      · have hie : i = n := by omega
        subst hie
        go_wp2
        go_end0
        exact ⟨rfl, HT.out.congr (fun r hr c _ => by unfold clearP; rw [if_pos hr]) (fun r hr c _ => by unfold clearP; rw [if_pos hr]), HBW.out⟩
end Go.Proofs.Ytlobaomleocpjaa.G
