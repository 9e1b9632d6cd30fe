/- locate's data: by how much a piece of data is wrong, if it alone is. Conditions: each lemma's own. -/
import Derived.Test.YteiiaonpdamkhaaDoorLocLook2
import Derived.Deep.RegionHeld3
namespace Go.Proofs.YteiiaonpdamkhaaDoor.G
open Go.RowKit Go.Proofs.YteiiaonpdamkhaaDoorW.PrintWords Go.Proofs.YteiiaonpdamkhaaDoorW.PrintLast Go.Proofs.YteiiaonpdamkhaaDoorW.PrintMore
set_option linter.unusedVariables false
set_option linter.unusedSimpArgs false
theorem toList_inj {a b : ByteArray} (h : a.toList = b.toList) : a = b := by
  rw [ByteArray.toList_eq, ByteArray.toList_eq] at h
  cases a; cases b
  simp only [ByteArray.mk.injEq]
  exact Array.ext' h
def elM (C : List (List Int)) (i j : Nat) : Int := (C.getD i []).getD j 0
def scaleB (c : Int) (s : ByteArray) : ByteArray := strOfNums ((bytesOf s).map (mulI c))
theorem scale_some (c : Int) (s : ByteArray) (hc : isB c) (hs : s.size ≤ 1099511627776) : gf_Scale.f c s = some (scaleB c s) := by unfold gf_Scale.f; rw [if_pos ⟨hc, hs⟩]; rfl
theorem scaleB_size (c : Int) (s : ByteArray) : (scaleB c s).size = s.size := by unfold scaleB; rw [strOfNums_size, List.length_map, bytesOf_length]
/-- Does what a piece of data is wrong by explain each row? -/
def fitsD (C : List (List Int)) (O : List ByteArray) (at_ : Nat) (y : ByteArray) : Prop := ∀ i : Nat, i < O.length → scaleB (elM C i at_) y = txt O i
/-- A matrix's cells: n columns, its rows' slices at block gm. -/
def MatC (w : World) (gm : Nat) (C : List (List Int)) (n : Nat) : Prop := ∀ i : Nat, i < C.length → ∃ gi oi cr : Nat, w.cell? ⟨gm, i, none⟩ = some (.slice (some ⟨gi, oi, none⟩) n cr) ∧ ∀ j : Nat, j < n → w.cell? ⟨gi, oi + j, none⟩ = some (.int .u8 (elM C i j))
open Classical in
set_option maxHeartbeats 4000000 in
set_option maxRecDepth 100000 in
theorem data_calls (g : Nat) (k m : Int) (P O : List ByteArray) (C : List (List Int)) (gm n cC at_ : Nat) (x r2 : Int) (w : World) (hC : Clue w g k m P O) (hM : MatC w gm C n)
    (hl : C.length = O.length) (h1 : 1 ≤ O.length) (h2 : O.length ≤ 1000) (han : at_ < n) (hat : at_ ≤ 1000) (hB : ∀ i j : Nat, isB (elM C i j)) (hx : gf_Inv.f (elM C 0 at_) = some (x, r2)) (hxB : isB x) (hs : ∀ i : Nat, i < O.length → (txt O i).size ≤ 1099511627776) :
    Calls Tryd.prog 56 #[.pointer (some ⟨g, 0, none⟩), .slice (some ⟨gm, 0, none⟩) C.length cC, .int .i64 at_] w fun e w' => e = .returned (.tuple #[.string (if fitsD C O at_ (scaleB x (txt O 0)) then scaleB x (txt O 0) else ⟨#[]⟩), .bool (decide (fitsD C O at_ (scaleB x (txt O 0))))]) ∧ Below w.heap.size w w' := by
  obtain ⟨A2, c2, A3, c3, hb, hl2, hl3, hP, hO⟩ := hC
  have h3 : w.cell? ⟨g, 3, none⟩ = some (.slice A3 O.length c3) := by rw [blk_cell hb]; rfl
  obtain ⟨g0, o0, cr, k1, k3a⟩ := hM 0 (by omega)
  have k3 := k3a at_ han
  obtain ⟨ao, rfl, k4⟩ := Kd.at_string hO (0 : Int) (by omega) (by omega)
  have e0 : rdOf ByteArray.empty O 0 = txt O 0 := rdOf_txt O 0
  rw [e0] at k4
  obtain ⟨s0, hs0⟩ : ∃ s, s = txt O 0 := ⟨_, rfl⟩
  rw [← hs0] at k4 ⊢
  have k1' : w.cell? ⟨gm, 0, none⟩ = some (.slice (some ⟨g0, o0, none⟩) n cr) := k1
  have k4' : w.cell? ao = some (.string s0) := k4
  have HSC := Aside0.mk (scale_some x s0 hxB (by rw [hs0]; exact hs 0 h1))
  obtain ⟨y, hy⟩ : ∃ y, y = scaleB x s0 := ⟨_, rfl⟩
  rw [← hy] at HSC ⊢
  have HY := Aside0.mk (show y.size ≤ 1099511627776 by rw [hy, scaleB_size, hs0]; exact hs 0 h1)
  have HM := Aside0.mk hM
  have HO := Aside0.mk hO
  have HL := Aside0.mk hl
  have HN := Aside0.mk h2
  have HBB := Aside0.mk hB
  have HX := Aside0.mk hx
  have HS := Aside0.mk hs
  have H3 := Aside0.mk h3
  have c0 : (0 : Int) < (C.length : Int) := by omega
  have c00 : (0 : Int) < (O.length : Int) := by omega
  have ca : (at_ : Int) < (n : Int) := by omega
  obtain ⟨z, hz⟩ : ∃ z, z = elM C 0 at_ := ⟨_, rfl⟩
  rw [← hz] at k3 HX
  have HAT := Aside0.mk hat
  obtain ⟨fb, hfb⟩ : ∃ b : Bool, b = decide (fitsD C O at_ y) := ⟨_, rfl⟩
  obtain ⟨fs, hfs⟩ : ∃ b : ByteArray, b = (if fitsD C O at_ y then y else ⟨#[]⟩) := ⟨_, rfl⟩
  rw [← hfb, ← hfs]
  have HFB := Aside0.mk hfb
  have HFS := Aside0.mk hfs
  clear hfb hfs
  have HAN := Aside0.mk han
  clear hb hP hO hM hs hB hx hl e0 hs0 hy k1 k4 hz hl2 hl3 hxB hat h2 k3a han
  go_enter Tryd.func56, Tryd.ntmps56
  go_wp2_with (first
    | (go_at_call 64; (with_reducible refine (gf_Inv.calls _ _ _ _ HX.out).mono ?_); rintro e w2 ⟨rfl, ⟨nd, rfl⟩⟩)
    | (go_at_call 74; (with_reducible refine (gf_Scale.calls _ _ _ _ HSC.out).mono ?_); rintro e w3 ⟨rfl, hb⟩; have HB3 := Aside0.mk ((pw_below_drewN (Below.refl w.heap.size w) nd).trans hb); clear hb))
  clear k1' k4' k3 h3 c00
  go_loopg [33] C.length (fun kq v33 wr => ∃ (q : Nat), Aside0 (q + kq = C.length) ∧ v33 = .int .i64 q ∧ Aside0 (Below w.heap.size w wr) ∧ Aside0 (∀ j : Nat, j < q → scaleB (elM C j at_) y = txt O j))
  case atStart => exact ⟨0, ⟨by omega⟩, rfl, HB3, ⟨fun j hj => absurd hj (Nat.not_lt_zero _)⟩⟩
  case round =>
    obtain ⟨q, HQ, rfl, HB, HF⟩ := hrel
    cases gk with
    | succ kk =>
      have hlt : q < C.length := by have := HQ.out; omega
      have HLT := Aside0.mk hlt
      have c1 : decide ((q : Int) < (C.length : Int)) = true := decide_eq_true (by omega)
      have b3 : (q : Int) < (C.length : Int) := by omega
      have c4 : (q : Int) < (O.length : Int) := by have := HL.out; omega
      obtain ⟨gq, oq, cq, f1, f3a⟩ := HM.out q hlt
      have f3 := f3a at_ HAN.out
      obtain ⟨ao', hao, f4⟩ := Kd.at_string HO.out (q : Int) (by omega) c4
      cases hao
      rw [Int.toNat_natCast, rdOf_txt] at f4
      obtain ⟨z1, hz1⟩ : ∃ z, z = elM C q at_ := ⟨_, rfl⟩
      obtain ⟨sq, hsq⟩ : ∃ s, s = txt O q := ⟨_, rfl⟩
      have hsc := scale_some z1 y (by rw [hz1]; exact HBB.out q at_) HY.out
      rw [← hz1] at f3
      rw [← hsq] at f4
      have HZ1 := Aside0.mk hz1
      have HSQ := Aside0.mk hsq
      have HSC1 := Aside0.mk hsc
      have g1 := (HB.out.cell (World.block_lt_of_cell? w _ f1)).trans f1
      have g3 := (HB.out.cell (World.block_lt_of_cell? w _ f3)).trans f3
      have g4 := (HB.out.cell (World.block_lt_of_cell? w _ f4)).trans f4
      have g5 := (HB.out.cell (World.block_lt_of_cell? w _ H3.out)).trans H3.out
      clear hz1 hsq hsc f1 f3 f3a f4 hlt
      go_upto_region 6 with (fail)
      have p3 : wr.drew.cell? ⟨gq, oq + at_, none⟩ = some (.int .u8 z1) := g3
      have p4 : wr.drew.cell? (ao.add q) = some (.string sq) := g4
      have p5 : wr.drew.cell? ⟨g, 3, none⟩ = some (.slice (some ao) O.length c3) := g5
      by_cases hq : scaleB z1 y = sq
      · have e1 : ((scaleB z1 y).toList != sq.toList) = false := by rw [hq]; simp
        have e2 : ((scaleB z1 y).toList == sq.toList) = true := by rw [hq]; simp
        have HEQ := Aside0.mk hq
        clear hq
        go_region_law (go_simp; go_at_call 74; (with_reducible refine (gf_Scale.calls _ _ _ _ HSC1.out).mono ?_); rintro e w4 ⟨rfl, hb⟩; have q4 := (hb.cell (World.block_lt_of_cell? _ _ p4)).trans p4; have q5 := (hb.cell (World.block_lt_of_cell? _ _ p5)).trans p5; have HB4 := Aside0.mk (HB.out.drew.trans (hb.mono HB.out.size)); clear hb)
        all_goals
          go_wp2
          go_roundg kk
          case measure => omega
          case rel => exact ⟨q + 1, ⟨by have := HQ.out; omega⟩, by first | rfl | (rw [wrap_succ q (by have := HLT.out; have := HL.out; have := HN.out; omega)]; rfl), HB4, ⟨fun j hj => by
            rcases Nat.lt_succ_iff_lt_or_eq.1 hj with h | h
            · exact HF.out j h
            · rw [h, ← HZ1.out, ← HSQ.out]; exact HEQ.out⟩⟩
      · have e1 : ((scaleB z1 y).toList != sq.toList) = true := bne_iff_ne.mpr (fun e => hq (toList_inj e))
        have e2 : ((scaleB z1 y).toList == sq.toList) = false := beq_eq_false_iff_ne.mpr (fun e => hq (toList_inj e))
        have HEQ := Aside0.mk hq
        clear hq
        go_region_law (go_simp; go_at_call 74; (with_reducible refine (gf_Scale.calls _ _ _ _ HSC1.out).mono ?_); rintro e w4 ⟨rfl, hb⟩; have q4 := (hb.cell (World.block_lt_of_cell? _ _ p4)).trans p4; have q5 := (hb.cell (World.block_lt_of_cell? _ _ p5)).trans p5; have HB4 := Aside0.mk (HB.out.drew.trans (hb.mono HB.out.size)); clear hb)
        all_goals
          go_wp2
          go_ret2
          have hno : ¬ fitsD C O at_ y := fun h => HEQ.out (by rw [HZ1.out, HSQ.out]; exact h q (by have := HLT.out; have := HL.out; omega))
          have h1 := HFB.out
          have h2 := HFS.out
          rw [decide_eq_false hno] at h1
          rw [if_neg hno] at h2
          rw [h1, h2]
          exact ⟨rfl, HB4.out⟩
    | zero =>
      have hqq : q = C.length := by have := HQ.out; omega
      subst hqq
      have c1 : decide ((C.length : Int) < (C.length : Int)) = false := decide_eq_false (by omega)
      go_wp2
      go_ret2
      have hyes : fitsD C O at_ y := fun i hi => HF.out i (by have := HL.out; omega)
      have h1 := HFB.out
      have h2 := HFS.out
      rw [decide_eq_true hyes] at h1
      rw [if_pos hyes] at h2
      rw [h1, h2]
      exact ⟨rfl, HB.out⟩
end Go.Proofs.YteiiaonpdamkhaaDoor.G
