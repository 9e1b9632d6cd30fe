/- locate's may (an iterator) over this seat's program. Conditions: each lemma's own. -/
import Derived.Test.YteiiaonpdamkhaaDoorLocData
import Derived.Test.YteiiaonpdamkhaaDoorMatCau
import Derived.RangeFuncNested
import Derived.RangeFuncBound
import Derived.RangeFuncCalls
import Derived.RangeFuncLeaves
import Derived.Shelf.RegionOpen
import Derived.Sort.CutIn
import Derived.Test.YteiiaonpdamkhaaDoorStillIn
namespace Go.Proofs.YteiiaonpdamkhaaDoor.G
open Go.RowKit Go.Proofs.YteiiaonpdamkhaaDoorW.PrintWords Go.Proofs.YteiiaonpdamkhaaDoorW.PrintLast Go.Proofs.YteiiaonpdamkhaaDoorW.PrintMore
set_option linter.unusedVariables false
set_option linter.unusedSimpArgs false
attribute [local go_sem] Oper.semAt_some
/-- What a round keeps: what lay below b0, and each row but three boxes at b0. -/
def KpL (b0 : Nat) (W W' : World) : Prop := Below b0 W W' ∧ ∀ k, b0 + 3 ≤ k → ∀ cs t fr, W.heap[k]? = some (.cells cs t fr) → W'.heap[k]? = some (.cells cs t fr)
theorem kpL_t {b0 : Nat} {A B C : World} (h : KpL b0 A B) (k : KpL b0 B C) : KpL b0 A C := ⟨h.1.trans k.1, fun q hq cs t fr e => k.2 q hq cs t fr (h.2 q hq cs t fr e)⟩
theorem kpL_b {b0 : Nat} {w : World} (hn : b0 ≤ w.heap.size) (W : World) (l : Nat) (o o' : Obj) (hl : w.heap.size ≤ l) (h : W.heap[l]? = some o) (hc : o.isCells = false) (hw : o.isWalk = false) : KpL b0 W (W.putObj l o') :=
  ⟨belowK_b hn W l o o' hl h hc hw, fun k hk cs t fr e => by
    by_cases q : k = l
    · subst q
      rw [h] at e
      injection e with e
      rw [e] at hc
      cases hc
    · rw [World.putObj_heap_other q]; exact e⟩
theorem mat_kp {B b0 gm cm n p : Nat} {w w1 : World} {g o c : Nat → Nat} {A : GfM.Mx} (h : Mat B w gm cm n p g o c A) (hk : KpL b0 w w1) (hb : b0 + 3 ≤ B) : Mat B w1 gm cm n p g o c A := by
  obtain ⟨⟨cells, h1, h2, h3⟩, h4, h5, h6, h7, h8, h9⟩ := h
  refine ⟨⟨cells, hk.2 gm (by omega) _ _ _ h1, h2, h3⟩, fun i hi => ?_, h5, h6, h7, h8, h9⟩
  obtain ⟨cur, q1, q2⟩ := h4 i hi
  exact ⟨cur, hk.2 (g i) (by have := h8 i hi; omega) _ _ _ q1, q2⟩
/-- Parity's matrix, as rows of numbers. -/
def cauL (kn mn : Nat) : List (List Int) := mxL mn kn (cauX kn)
theorem cauL_length (kn mn : Nat) : (cauL kn mn).length = mn := mxL_length _ _ _
theorem cauL_el (kn mn i j : Nat) (hi : i < mn) (hj : j < kn) : elM (cauL kn mn) i j = ((cauX kn i j).toNat : Int) := by
  unfold elM cauL
  rw [List.getD_eq_getElem?_getD (l := mxL mn kn (cauX kn)), mxL_get _ _ _ i hi]
  simp [rowL, List.getD_eq_getElem?_getD, hj]
theorem cauL_byte (kn mn i j : Nat) : isB (elM (cauL kn mn) i j) := BytesM.at_ (mxL_bytes _ _ _) i j
theorem matC_of {B gm cm kn mn : Nat} {w : World} {g o c : Nat → Nat} (h : Mat B w gm cm mn kn g o c (cauX kn)) : MatC w gm (cauL kn mn) kn := by
  intro i hi
  rw [cauL_length] at hi
  refine ⟨g i, o i, c i, h.load hi, fun j hj => ?_⟩
  rw [h.cell hi hj, cauL_el kn mn i j hi hj]
def byD (kn : Nat) (O : List ByteArray) (at_ : Nat) : ByteArray := scaleB ((GfM.inv (cauX kn 0 at_)).toNat : Int) (txt O 0)
theorem byD_inv (kn mn at_ : Nat) (h1 : 1 ≤ mn) (h2 : at_ < kn) : ∃ e, gf_Inv.f (elM (cauL kn mn) 0 at_) = some (((GfM.inv (cauX kn 0 at_)).toNat : Int), e) := by
  rw [cauL_el kn mn 0 at_ (by omega) h2]
  exact gfinv_any _
open Classical in
/-- The places of data that explain the pieces, as far as n. -/
noncomputable def mayF (kn mn : Nat) (O : List ByteArray) (n : Nat) : List (Int × ByteArray) := (List.range n).filterMap fun at_ => if fitsD (cauL kn mn) O at_ (byD kn O at_) then some ((at_ : Int), byD kn O at_) else none
theorem mayF_yes {kn mn : Nat} {O : List ByteArray} {n : Nat} (h : fitsD (cauL kn mn) O n (byD kn O n)) : mayF kn mn O (n + 1) = mayF kn mn O n ++ [((n : Int), byD kn O n)] := by
  unfold mayF
  rw [List.range_succ, List.filterMap_append]
  simp only [List.filterMap_cons, List.filterMap_nil, if_pos h]
theorem mayF_no {kn mn : Nat} {O : List ByteArray} {n : Nat} (h : ¬ fitsD (cauL kn mn) O n (byD kn O n)) : mayF kn mn O (n + 1) = mayF kn mn O n := by
  unfold mayF
  rw [List.range_succ, List.filterMap_append]
  simp only [List.filterMap_cons, List.filterMap_nil, if_neg h, List.append_nil]
theorem mayF_length (kn mn : Nat) (O : List ByteArray) (n : Nat) : (mayF kn mn O n).length ≤ n := by
  unfold mayF
  exact Nat.le_trans (List.length_filterMap_le _ _) (by simp)
/-- All places that explain the pieces. -/
noncomputable def mayL (kn mn : Nat) (O : List ByteArray) : List (Int × ByteArray) := mayF kn mn O kn ++ (if (wrongL O O.length).length = 1 then [((kn : Int) + (wrongL O O.length).getD 0 0, txt O ((wrongL O O.length).getD 0 0).toNat)] else [])
abbrev mencs (x : Int × ByteArray) : Array Value := #[.int .i64 x.1, .string x.2]
open Classical in
set_option maxRecDepth 100000 in
set_option maxHeartbeats 4000000 in
theorem may_stops (n : Nat) (hn : 1 ≤ n) (Bi b0 g kn mn : Nat) (P O : List ByteArray) (w0 w : World) (hb0 : b0 = w0.heap.size) (hC : Clue w0 g kn mn P O) (hbw : Below b0 w0 w) (hBi : w.heap[Bi]? = some (.cells #[.pointer (some ⟨g, 0, none⟩)] 43 (0, 0))) (hB3 : b0 + 3 ≤ Bi)
    (hk : 1 ≤ kn) (hm : 1 ≤ mn) (hkm : kn + mn ≤ 255) (hO : O.length = mn) (hs : ∀ i : Nat, i < O.length → (txt O i).size ≤ 1099511627776) :
    SeqStopsK Fence.wide n Tryd.prog 55 #[.pointer (some ⟨Bi, 0, none⟩)] mencs (KpL b0) (fun xs => xs = mayL kn mn O) (fun _ => True) (kn + 1) w := fun L J Jx W hW hJ hJx hY h0 => by
  have hBiW : W.heap[Bi]? = some (.cells #[.pointer (some ⟨g, 0, none⟩)] 43 (0, 0)) := (hW.block Bi (Array.getElem?_eq_some_iff.1 hBi).1).trans hBi
  have hBl : Bi < w.heap.size := (Array.getElem?_eq_some_iff.1 hBi).1
  have hb1 : Below b0 w0 W := hbw.trans (hW.mono (by omega))
  have HB1 := Aside0.mk hb1
  have HY := Aside0.mk hY
  have HJ := Aside0.mk hJ
  have HC := Aside0.mk hC
  have HS := Aside0.mk hs
  have HOL := Aside0.mk hO
  have HBI := Aside0.mk hBiW
  have HH0 := Aside0.mk h0
  have HB0 := Aside0.mk hb0
  have HWB := Aside0.mk (show b0 + 3 ≤ W.heap.size by have := hW.size; omega)
  have kB : W.cell? ⟨Bi, 0, none⟩ = some (.pointer (some ⟨g, 0, none⟩)) := by rw [blk_cell hBiW]; rfl
  have CW : Clue W g kn mn P O := hC.below (hb0 ▸ hb1)
  obtain ⟨A2, c2, A3, c3, kb, -, -, -, -⟩ := CW
  have k0 : W.cell? ⟨g, 0, none⟩ = some (.int .i64 kn) := by rw [blk_cell kb]; rfl
  have k1 : W.cell? ⟨g, 1, none⟩ = some (.int .i64 mn) := by rw [blk_cell kb]; rfl
  have d0 : W.drew.cell? ⟨g, 0, none⟩ = some (.int .i64 kn) := k0
  have d1 : W.drew.cell? ⟨g, 1, none⟩ = some (.int .i64 mn) := k1
  have dB : W.drew.cell? ⟨Bi, 0, none⟩ = some (.pointer (some ⟨g, 0, none⟩)) := kB
  clear hY hJ hJx hW hC hs hO hBi hBiW h0 hb0 hb1 hbw kb
  refine callsIn_of_wp Tryd.func55 rfl trivial ?_ rfl
  simp only [Tryd.ntmps55, List.size_toArray, List.length_cons, List.length_nil, Nat.reduceAdd, Nat.reduceSub, Array.replicate_succ, Array.replicate_zero, List.push_toArray, List.append_toArray, List.nil_append, List.cons_append]
  have hfol : Tryd.prog.follows Departure.mixedOrders = true := by kernel_rfl
  gi_wp2
  gi_cut [3] from 4 (fun v3 wc => ∃ gm, v3 = .slice (some ⟨gm, 0, none⟩) mn mn ∧ Aside0 (∃ gg oo cc, Mat W.heap.size wc gm mn mn kn gg oo cc (cauX kn)) ∧ Aside0 (Below W.heap.size W wc))
  case first =>
    gi_region_with_o (refine ⟨trivial, ?_⟩; gi_at_call 47; refine (callsIn_wide.2 (cauchy_calls kn mn _ hk hm hkm)).mono ?_; rintro e w1 ⟨gm, rfl, hM, hb⟩; have HM1 := Aside0.mk hM; have HBC := Aside0.mk (show Below W.heap.size W w1 from (Below.refl W.heap.size W).drew.trans hb); clear hb hM)
    all_goals
      gi_wp2
      gi_meet
      case rel => exact ⟨_, rfl, HM1, HBC⟩
  case rest =>
    obtain ⟨gm, rfl, HM1, HBC⟩ := hcut
    obtain ⟨gg, oo, cc, hM⟩ := HM1.out
    have HM := Aside0.mk (show Mat W.heap.size wc gm mn mn kn gg oo cc (cauX kn) from hM)
    have HJ1 := Aside0.mk (HJ.out _ W wc none HH0.out (grown_of_below HBC.out none) (fun r e => by cases e))
    have HB1a := Aside0.mk (HB1.out.trans (HBC.out.mono (by have := HWB.out; omega)))
    have HBI1 := Aside0.mk ((HBC.out.block Bi (Array.getElem?_eq_some_iff.1 HBI.out).1).trans HBI.out)
    have k2 := (HBC.out.cell (p := ⟨Bi, 0, none⟩) (Array.getElem?_eq_some_iff.1 HBI.out).1).trans kB
    have k3 := (HBC.out.cell (p := ⟨g, 0, none⟩) (World.block_lt_of_cell? W _ k0)).trans k0
    clear kB k0 k1 d0 d1 dB HM1 hM
    gi_wp2
    clear k2 k3
    gi_loopg [25] kn (fun kq v25 wr => ∃ (q : Nat), Aside0 (q + kq = kn) ∧ v25 = .int .i64 q ∧ Aside0 (J (mayF kn mn O q) wr) ∧ Aside0 (Below b0 w0 wr) ∧ Aside0 (Mat W.heap.size wr gm mn mn kn gg oo cc (cauX kn)) ∧ Aside0 (wr.heap[Bi]? = some (.cells #[.pointer (some ⟨g, 0, none⟩)] 43 (0, 0))))
    case atStart => exact ⟨0, ⟨by omega⟩, rfl, HJ1, HB1a, HM, HBI1⟩
    case round =>
      obtain ⟨q, HQ, rfl, HJs, HB, HMr, HBr⟩ := hrel
      have c1B : wr.cell? ⟨Bi, 0, none⟩ = some (.pointer (some ⟨g, 0, none⟩)) := by rw [blk_cell HBr.out]; rfl
      have hBw : Bi < wr.heap.size := (Array.getElem?_eq_some_iff.1 HBr.out).1
      have HBW := Aside0.mk hBw
      have HCr := Aside0.mk (show Clue wr g kn mn P O from HC.out.below (HB0.out ▸ HB.out))
      clear hBw
      cases gk with
      | succ kk =>
        have hlt : q < kn := by have := HQ.out; omega
        have HLT := Aside0.mk hlt
        have c1 : decide ((q : Int) < (kn : Int)) = true := decide_eq_true (by omega)
        have b3 : (q : Int) < (kn : Int) := by omega
        obtain ⟨ee, hinv⟩ := byD_inv kn mn q hm hlt
        have D := data_calls g kn mn P O (cauL kn mn) gm kn mn q ((GfM.inv (cauX kn 0 q)).toNat : Int) ee wr HCr.out (matC_of HMr.out) (by rw [cauL_length, HOL.out]) (by rw [HOL.out]; exact hm) (by have := HOL.out; omega) hlt (by omega) (fun i j => cauL_byte kn mn i j) hinv ⟨by omega, by have := (GfM.inv (cauX kn 0 q)).isLt; omega⟩ HS.out
        rw [cauL_length] at D
        obtain ⟨y, hy0⟩ : ∃ y, y = byD kn O q := ⟨_, rfl⟩
        have eby : scaleB ((GfM.inv (cauX kn 0 q)).toNat : Int) (txt O 0) = y := hy0.symm
        rw [eby] at D
        have HY0 := Aside0.mk hy0
        clear hinv eby hy0 hlt
        by_cases hf : fitsD (cauL kn mn) O q y
        · rw [if_pos hf, decide_eq_true hf] at D
          have HD := Aside0.mk D
          have HFF := Aside0.mk hf
          clear D hf
          gi_wp2_with (refine ⟨trivial, ?_⟩; gi_at_call 56; refine (callsIn_wide.2 HD.out).mono ?_; rintro e w2 ⟨rfl, hb⟩; have hJ2 := HJ.out _ wr w2 none HJs.out (grown_of_below hb none) (fun r e => by cases e); have hlen := Nat.lt_of_le_of_lt (mayF_length kn mn O q) (show q < kn + 1 by have := HLT.out; omega); obtain ⟨fn, tmps, assign, body, hy, hRd⟩ := HY.out _ ((q : Int), y) w2 hJ2 hlen; dsimp only [mencs] at hy; have HB2 := Aside0.mk (HB.out.trans (hb.mono (by have := HBW.out; omega))); have HM2 := Aside0.mk (HMr.out.below hb); have HBi2 := Aside0.mk ((hb.block Bi HBW.out).trans HBr.out); clear hb hJ2 hlen)
          refine hRd.mono ?_
          rintro e W3 (⟨rfl, hJ3, hk3⟩ | ⟨rfl, hJx3⟩)
          · have hJ4 : J (mayF kn mn O (q + 1)) W3 := by
              rw [mayF_yes (by rw [← HY0.out]; exact HFF.out), ← HY0.out]
              exact hJ3
            have HJ4 := Aside0.mk hJ4
            have HB3' := Aside0.mk (HB2.out.trans hk3.1)
            have HM3 := Aside0.mk (mat_kp HM2.out hk3 HWB.out)
            have HBi3 := Aside0.mk (hk3.2 Bi hB3 _ _ _ HBi2.out)
            clear hJ3 hJ4 hk3
            gi_wp2
            go_roundg kk
            case measure => omega
            case rel => exact ⟨q + 1, ⟨by have := HQ.out; omega⟩, by first | rfl | (rw [wrap_succ q (by have := HLT.out; omega)]; rfl), HJ4, HB3', HM3, HBi3⟩
          · gi_wp2
            refine bodyPost_ret (results_none rfl _ _ _) rfl ?_
            exact ⟨⟨_, rfl⟩, .inr ⟨_, trivial, hJx3⟩⟩
        · rw [if_neg hf, decide_eq_false hf] at D
          have HD := Aside0.mk D
          have HFF := Aside0.mk hf
          clear D hf
          gi_wp2_with (refine ⟨trivial, ?_⟩; gi_at_call 56; refine (callsIn_wide.2 HD.out).mono ?_; rintro e w2 ⟨rfl, hb⟩; have HJ2 := Aside0.mk (HJ.out _ wr w2 none HJs.out (grown_of_below hb none) (fun r e => by cases e)); have HB2 := Aside0.mk (HB.out.trans (hb.mono (by have := HBW.out; omega))); have HM2 := Aside0.mk (HMr.out.below hb); have HBi2 := Aside0.mk ((hb.block Bi HBW.out).trans HBr.out); clear hb)
          refine ⟨fun _ h => (by cases h), ?_⟩
          gi_wp2
          go_roundg kk
          case measure => omega
          case rel => exact ⟨q + 1, ⟨by have := HQ.out; omega⟩, by first | rfl | (rw [wrap_succ q (by have := HLT.out; omega)]; rfl), ⟨by rw [mayF_no (by rw [← HY0.out]; exact HFF.out)]; exact HJ2.out⟩, HB2, HM2, HBi2⟩
      | zero =>
        have hqq : q = kn := by have := HQ.out; omega
        subst hqq
        have c1 : decide ((q : Int) < (q : Int)) = false := decide_eq_false (by omega)
        have WR := Aside0.mk (wrong_calls g q mn P O wr HCr.out (by have := HOL.out; omega) (fun i hi => by have := HS.out i hi; omega))
        obtain ⟨wl, hwl⟩ : ∃ l, l = wrongL O O.length := ⟨_, rfl⟩
        rw [← hwl] at WR
        have HWL := Aside0.mk hwl
        clear hwl
        by_cases h1 : wl.length = 1
        · have b1 : ((wl.length : Int) == 1) = true := beq_iff_eq.mpr (by omega)
          obtain ⟨z, hz⟩ : ∃ z, wl = [z] := List.length_eq_one_iff.1 h1
          have hzm : z ∈ wrongL O O.length := by rw [← HWL.out, hz]; simp
          obtain ⟨iz, hiz, ez⟩ := List.mem_map.1 hzm
          have hizl := List.mem_range.1 (List.mem_filter.1 hiz).1
          have HZL := Aside0.mk h1
          have HZ := Aside0.mk hz
          have HEZ := Aside0.mk ez
          clear h1 hzm hiz hz ez
          gi_wp2_with (refine ⟨trivial, ?_⟩; gi_at_call 23; refine (callsIn_wide.2 WR.out).mono ?_; rintro e w2 ⟨v, rfl, ho, hb⟩; obtain ⟨Av, cv, ev⟩ := Kd.R_slice ho; subst ev; have HO2 := Aside0.mk ho; have HJ2 := Aside0.mk (HJ.out _ wr w2 none HJs.out (grown_of_below hb none) (fun r e => by cases e)); have HB2 := Aside0.mk (HB.out.trans (hb.mono (by have := HBW.out; omega))); have HBi2 := Aside0.mk ((hb.block Bi HBW.out).trans HBr.out); clear ho hb)
          have hCl : Clue w2 g q mn P O := HC.out.below (HB0.out ▸ HB2.out)
          obtain ⟨A2, c2, A3, c3, kb, -, -, -, kO⟩ := hCl
          have f0 : w2.cell? ⟨g, 0, none⟩ = some (.int .i64 q) := by rw [blk_cell kb]; rfl
          have f3 : w2.cell? ⟨g, 3, none⟩ = some (.slice A3 O.length c3) := by rw [blk_cell kb]; rfl
          obtain ⟨ao, rfl, fo⟩ := Kd.at_string kO (iz : Int) (by omega) (by omega)
          rw [Int.toNat_natCast, rdOf_txt] at fo
          have hv := (Kd.R_reads' HO2.out).2.2
          have hl1 : (0 : Int) < (wl.length : Int) := by have := HZL.out; omega
          have hl2 : 0 < wl.length := by have := HZL.out; omega
          obtain ⟨av, rfl, fv⟩ := Kd.at_int hv (0 : Int) (by omega) hl1
          have ez0 : Go.Proofs.YteiiaonpdamkhaaDoorW.PrintWords.rd wl 0 = (iz : Int) := by rw [HZ.out, HEZ.out]; rfl
          rw [ez0] at fv
          have fB : w2.cell? ⟨Bi, 0, none⟩ = some (.pointer (some ⟨g, 0, none⟩)) := by rw [blk_cell HBi2.out]; rfl
          have q0 : w2.drew.cell? ⟨g, 0, none⟩ = some (.int .i64 q) := f0
          have q3 : w2.drew.cell? ⟨g, 3, none⟩ = some (.slice (some ao) O.length c3) := f3
          have qo : w2.drew.cell? (ao.add iz) = some (.string (txt O iz)) := fo
          have qv : w2.drew.cell? av = some (.int .i64 iz) := fv
          have qB : w2.drew.cell? ⟨Bi, 0, none⟩ = some (.pointer (some ⟨g, 0, none⟩)) := fB
          obtain ⟨so, hso⟩ : ∃ s, s = txt O iz := ⟨_, rfl⟩
          rw [← hso] at qo
          have hwq : IntKind.i64.wrap ((q : Int) + iz) = (q : Int) + iz := by rw [IntKind.wrap_i64]; have := HOL.out; omega
          have hil : (iz : Int) < (O.length : Int) := by omega
          have hJ2 := HJ.out _ w2 w2.drew none HJ2.out ⟨rfl, rfl, rfl, Nat.le_refl _, fun _ _ _ => rfl⟩ (fun r e => by cases e)
          obtain ⟨fn, tmps, assign, body, hy, hRd⟩ := HY.out _ ((q : Int) + iz, so) w2.drew hJ2 (Nat.lt_succ_of_le (mayF_length q mn O q))
          dsimp only [mencs] at hy
          have hml : mayL q mn O = mayF q mn O q ++ [((q : Int) + iz, so)] := by
            unfold mayL
            rw [← HWL.out, if_pos HZL.out, HZ.out, hso]
            have e := HEZ.out
            simp [← e]
          have HML := Aside0.mk hml
          have HRD := Aside0.mk hRd
          clear f0 f3 fo fv fB kb kO hv ez0 hJ2 hml hRd hso hizl
          refine StillIn.wpIn_region_still_tail 18 hfol (by kernel_rfl) ?_
          simp only [List.take_succ_cons, List.take_zero, List.drop_succ_cons, List.drop_zero]
          repeat still_step
          try refine wpStill_nil ?_
          change wpListIn Fence.wide n Tryd.prog _ _ _ _ w2.drew
          gi_wp2
          refine HRD.out.mono ?_
          intro e W3 hz3
          obtain ⟨bb, rfl, hzz⟩ : ∃ bb, e = .returned (.bool bb) ∧ ((∃ xs, xs = mayL q mn O ∧ J xs W3) ∨ ∃ pre, True ∧ Jx pre W3) := by
            rcases hz3 with ⟨h1, h2, _⟩ | ⟨h1, h2⟩
            · exact ⟨true, h1, .inl ⟨_, HML.out.symm, h2⟩⟩
            · exact ⟨false, h1, .inr ⟨_, trivial, h2⟩⟩
          gi_wp2
          go_end0
          exact ⟨⟨_, rfl⟩, hzz⟩
        · have b1 : ((wl.length : Int) == 1) = false := beq_eq_false_iff_ne.mpr (by omega)
          have HZL := Aside0.mk h1
          clear h1
          gi_wp2_with (refine ⟨trivial, ?_⟩; gi_at_call 23; refine (callsIn_wide.2 WR.out).mono ?_; rintro e w2 ⟨v, rfl, ho, hb⟩; obtain ⟨Av, cv, ev⟩ := Kd.R_slice ho; subst ev; have HO2 := Aside0.mk ho; have HJ2 := Aside0.mk (HJ.out _ wr w2 none HJs.out (grown_of_below hb none) (fun r e => by cases e)); have HB2 := Aside0.mk (HB.out.trans (hb.mono (by have := HBW.out; omega))); have HBi2 := Aside0.mk ((hb.block Bi HBW.out).trans HBr.out); clear ho hb)
          go_end0
          refine ⟨⟨_, rfl⟩, .inl ⟨_, ?_, HJ2.out⟩⟩
          unfold mayL
          rw [← HWL.out, if_neg HZL.out, List.append_nil]
end Go.Proofs.YteiiaonpdamkhaaDoor.G
