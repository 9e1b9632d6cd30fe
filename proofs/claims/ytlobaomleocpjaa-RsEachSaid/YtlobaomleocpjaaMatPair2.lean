/- matrix.pair's scale and clear over this seat's program. Conditions: each lemma's own. -/
import Derived.Test.YtlobaomleocpjaaMatPair
namespace Go.Proofs.Ytlobaomleocpjaa.G
open Go.RowKit Go.Proofs.YtlobaomleocpjaaW.PrintWords Go.Proofs.YtlobaomleocpjaaW.PrintLast Go.Proofs.YtlobaomleocpjaaW.PrintMore
set_option linter.unusedVariables false
set_option linter.unusedSimpArgs false

theorem scale_strX (x : GfM.F) (p : Nat) (f : Nat → GfM.F) (hp : p ≤ 255) : gf_Scale.f (x.toNat : Int) (strX p f) = some (strX p (fun j => GfM.mul x (f j))) := by
  unfold gf_Scale.f
  have hx := x.isLt
  rw [if_pos ⟨⟨by omega, by omega⟩, by rw [strX_size]; omega⟩, strX_bytes]
  unfold strX
  congr 2
  apply rowL_ext
  · simp [rowL_length]
  · intro j hj
    rw [List.getD_eq_getElem?_getD, List.getElem?_map, List.getElem?_eq_getElem (by rw [rowL_length]; exact hj)]
    have := rowL_get p f j hj
    rw [List.getD_eq_getElem?_getD, List.getElem?_eq_getElem (by rw [rowL_length]; exact hj)] at this
    simp only [Option.getD_some, Option.map_some] at this ⊢
    rw [this]
    unfold mulI
    rw [el_nat, el_nat]
/-- A row's text, whatever the world. -/
theorem Mat.conv {B gm cm n p : Nat} {w : World} {g o c : Nat → Nat} {A : GfM.Mx} (h : Mat B w gm cm n p g o c A) {i : Nat} (hi : i < n) : (convert 37 9 (.slice (some ⟨g i, o i, none⟩) p (c i))).run Try.prog w = .ok (.string (strX p (A i))) w :=
  run_convert_bytes_arg w 37 5 Try.underlying37 Try.underlying5 (g i) (o i) p (c i) (rowL p (A i)) (rowL_length p _) (fun j hj => by rw [h.cell hi hj, rowL_get p _ j hj]) 9 Try.underlying9
set_option maxRecDepth 100000 in
set_option maxHeartbeats 8000000 in
theorem scale_calls {B gp gl ga gr gb n : Nat} {oL oR : Nat → Nat} {L R : GfM.Mx} (i : Nat) (x : GfM.F) (w : World) (hP : Pair B w gp gl ga gr gb n oL oR L R) (hi : i < n) (hn : n ≤ 255) (hB : B ≤ w.heap.size) :
    Calls Try.prog 49 #[.pointer (some ⟨gp, 0, none⟩), .int .i64 i, .int .u8 (x.toNat : Int)] w fun e w' => e = .returned (.tuple #[]) ∧ Pair B w' gp gl ga gr gb n oL oR (GfM.scaleX i x L) (GfM.scaleX i x R) ∧ Below B w w' := by
  have hn0 : 0 < n := by omega
  obtain ⟨xv, hxv⟩ : ∃ xv : Int, xv = (x.toNat : Int) := ⟨_, rfl⟩
  have hS : ∀ (f : Nat → GfM.F) (W : World), Calls Try.prog 62 #[.int .u8 xv, .string (strX n f)] W fun e w' => e = .returned (.string (strX n (fun j => GfM.mul x (f j)))) ∧ Below W.heap.size W w' := fun f W => by rw [hxv]; exact gf_Scale.calls _ _ _ W (scale_strX x n f hn)
  have HS := Aside0.mk hS
  have HP := Aside0.mk hP
  have HB := Aside0.mk hB
  have x0 := hP.left
  have l1 := hP.ml.load hi
  obtain ⟨a1, ha1⟩ : ∃ a, a = oL i := ⟨_, rfl⟩
  have cv := hP.drew.ml.conv hi
  rw [← ha1] at l1 cv
  obtain ⟨sv, hsv⟩ : ∃ s, s = strX n (L i) := ⟨_, rfl⟩
  rw [← hsv] at cv
  rw [← hxv]
  have HX := Aside0.mk hxv
  have HA := Aside0.mk ha1
  have HSV := Aside0.mk hsv
  have HS1 := Aside0.mk (show ∀ (W : World), Calls Try.prog 62 #[.int .u8 xv, .string sv] W fun e w' => e = .returned (.string (strX n (fun j => GfM.mul x (L i j)))) ∧ Below W.heap.size W w' from fun W => by rw [hsv]; exact hS (L i) W)
  clear hP hS hxv ha1 hsv hB
  go_enter Try.func49, Try.ntmps49
  go_upto_region 0 with (fail)
  go_cut [] (fun wc => Aside0 (Pair B wc gp gl ga gr gb n oL oR (GfM.scaleX i x L) R) ∧ Aside0 (Below B w wc))
  case first =>
    go_region_law (first | (refine goes_ Try.func62 (by kernel_rfl) rfl #[.int .u8 xv, .string sv] (by rfl) rfl rfl (by simp only [List.map_toArray, List.map_cons, List.map_nil]; rfl) ?_; (with_reducible refine (HS1.out _).mono ?_); rintro e w1 ⟨rfl, hb⟩; refine ⟨_, rfl, ?_⟩; have P1 := HP.out.drew.below hb; have z0 := P1.left; have z1 := P1.ml.load hi; obtain ⟨w3, hr3, hg3, hM3⟩ := P1.ml.copy_str hi hn0 (fun j => GfM.mul x (L i j)) 3; rw [← HA.out] at z1 hr3; have HR3 := Aside0.mk hr3; have HP3 := Aside0.mk (P1.setL hn0 hg3 hM3); have HB3 := Aside0.mk (show Below B w w3 from Below.grown ((Below.refl B w).drew.trans (hb.mono HB.out)) hg3 (Nat.le_trans HB.out (by have := hb.size; exact this)) (fun k hk => by injection hk with hk; rw [← hk]; exact P1.lowA hn0)); clear hr3 hg3 hM3 P1 hb) | (refine step_copy rfl (.tmp 12) (.tmp 22) 37 9 rfl _ _ rfl rfl HR3.out ?_))
    all_goals (clear x0 l1 cv z0 z1 HR3 HS HS1)
    all_goals go_wp2
    all_goals go_meet
    all_goals exact ⟨⟨HP3.out.congr (fun r _ c _ => by unfold GfM.scaleX; by_cases e : r = i <;> simp [e]) (fun _ _ _ _ => rfl)⟩, HB3⟩
  case rest =>
    obtain ⟨HP, HB2⟩ := hcut
    clear x0 l1 cv HA HSV HS1 a1 sv
    have hP := HP.out
    have x0 := hP.right
    have l1 := hP.mr.load hi
    obtain ⟨a1, ha1⟩ : ∃ a, a = oR i := ⟨_, rfl⟩
    have cv := hP.drew.mr.conv hi
    rw [← ha1] at l1 cv
    obtain ⟨sv, hsv⟩ : ∃ s, s = strX n (R i) := ⟨_, rfl⟩
    rw [← hsv] at cv
    have HS1 := Aside0.mk (show ∀ (W : World), Calls Try.prog 62 #[.int .u8 xv, .string sv] W fun e w' => e = .returned (.string (strX n (fun j => GfM.mul x (R i j)))) ∧ Below W.heap.size W w' from fun W => by rw [hsv]; exact HS.out (R i) W)
    have HA := Aside0.mk ha1
    clear ha1 hsv hP
    go_wp2
    go_region_law (first | (refine goes_ Try.func62 (by kernel_rfl) rfl #[.int .u8 xv, .string sv] (by rfl) rfl rfl (by simp only [List.map_toArray, List.map_cons, List.map_nil]; rfl) ?_; (with_reducible refine (HS1.out _).mono ?_); rintro e w1 ⟨rfl, hb⟩; refine ⟨_, rfl, ?_⟩; have P1 := HP.out.drew.below hb; have z0 := P1.right; have z1 := P1.mr.load hi; obtain ⟨w3, hr3, hg3, hM3⟩ := P1.mr.copy_str hi hn0 (fun j => GfM.mul x (R i j)) 3; rw [← HA.out] at z1 hr3; have HR3 := Aside0.mk hr3; have HP3 := Aside0.mk (P1.setR hn0 hg3 hM3); have HB3 := Aside0.mk (show Below B w w3 from Below.grown (HB2.out.drew.trans (hb.mono (Nat.le_trans HB.out HB2.out.size))) hg3 (Nat.le_trans (Nat.le_trans HB.out HB2.out.size) (by have := hb.size; exact this)) (fun k hk => by injection hk with hk; rw [← hk]; exact P1.lowB hn0)); clear hr3 hg3 hM3 P1 hb) | (refine step_copy rfl (.tmp 30) (.tmp 40) 37 9 rfl _ _ rfl rfl HR3.out ?_))
    all_goals (clear x0 l1 cv z0 z1 HR3 HS HS1)
    all_goals go_wp2
    all_goals go_end0
    all_goals exact ⟨rfl, HP3.out.congr (fun _ _ _ _ => rfl) (fun r _ c _ => by unfold GfM.scaleX; by_cases e : r = i <;> simp [e]), HB3.out⟩
end Go.Proofs.Ytlobaomleocpjaa.G
