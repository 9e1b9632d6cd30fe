/- matrix.pair's functions over this seat's program. Conditions: each lemma's own. -/
import Derived.Test.YtlobaomleocpjaaMatCopy
import Derived.Deep.DeepCutAuto
import Derived.Deep.CutRange
namespace Go.Proofs.Ytlobaomleocpjaa.G
open Go.RowKit Go.Proofs.YtlobaomleocpjaaW.PrintWords Go.Proofs.YtlobaomleocpjaaW.PrintLast Go.Proofs.YtlobaomleocpjaaW.PrintMore
set_option linter.unusedVariables false
set_option linter.unusedSimpArgs false

/-- A pair of matrices in memory. -/
structure Pair (B : Nat) (w : World) (gp gl ga gr gb n : Nat) (oL oR : Nat → Nat) (L R : GfM.Mx) : Prop where
  box : w.heap[gp]? = some (.cells #[.slice (some ⟨gl, 0, none⟩) n n, .slice (some ⟨gr, 0, none⟩) n n] 65 (0, 0))
  ml : Mat B w gl n n n (fun _ => ga) oL (fun _ => n) L
  mr : Mat B w gr n n n (fun _ => gb) oR (fun _ => n) R
  d1 : gl ≠ gr
  d2 : ga ≠ gb
  low : B ≤ gp
namespace Pair
variable {B gp gl ga gr gb n : Nat} {w w1 : World} {oL oR : Nat → Nat} {L R L' R' : GfM.Mx}
theorem left (h : Pair B w gp gl ga gr gb n oL oR L R) : w.cell? ⟨gp, 0, none⟩ = some (.slice (some ⟨gl, 0, none⟩) n n) := (blk_cell h.box 0).trans rfl
theorem right (h : Pair B w gp gl ga gr gb n oL oR L R) : w.cell? ⟨gp, 1, none⟩ = some (.slice (some ⟨gr, 0, none⟩) n n) := (blk_cell h.box 1).trans rfl
theorem keep (h : Pair B w gp gl ga gr gb n oL oR L R) (hk : ∀ k, B ≤ k → k < w.heap.size → w1.heap[k]? = w.heap[k]?) : Pair B w1 gp gl ga gr gb n oL oR L R :=
  ⟨(hk gp h.low (blk_lt h.box)).trans h.box, h.ml.keep hk, h.mr.keep hk, h.d1, h.d2, h.low⟩
theorem below (h : Pair B w gp gl ga gr gb n oL oR L R) (hb : Below w.heap.size w w1) : Pair B w1 gp gl ga gr gb n oL oR L R := h.keep fun k _ hk => hb.block k hk
theorem drew (h : Pair B w gp gl ga gr gb n oL oR L R) : Pair B w.drew gp gl ga gr gb n oL oR L R := h.below (Below.refl _ w).drew
theorem drewN (h : Pair B w gp gl ga gr gb n oL oR L R) (m : Nat) : Pair B (w.drewN m) gp gl ga gr gb n oL oR L R := h.below (pw_below_drewN (Below.refl _ w) m)
theorem congr (h : Pair B w gp gl ga gr gb n oL oR L R) (hL : ∀ i, i < n → ∀ j, j < n → L i j = L' i j) (hR : ∀ i, i < n → ∀ j, j < n → R i j = R' i j) : Pair B w gp gl ga gr gb n oL oR L' R' := ⟨h.box, h.ml.congr hL, h.mr.congr hR, h.d1, h.d2, h.low⟩
/-- gl, gr, ga, gb and gp are five blocks. -/
theorem ne_pl (h : Pair B w gp gl ga gr gb n oL oR L R) : gp ≠ gl := by obtain ⟨_, hb, _⟩ := h.ml.out; exact blk_ne h.box hb (by decide)
theorem ne_pr (h : Pair B w gp gl ga gr gb n oL oR L R) : gp ≠ gr := by obtain ⟨_, hb, _⟩ := h.mr.out; exact blk_ne h.box hb (by decide)
theorem ne_pa (h : Pair B w gp gl ga gr gb n oL oR L R) (hn : 0 < n) : gp ≠ ga := by obtain ⟨_, hb, _⟩ := h.ml.row 0 hn; exact blk_ne h.box hb (by decide)
theorem ne_pb (h : Pair B w gp gl ga gr gb n oL oR L R) (hn : 0 < n) : gp ≠ gb := by obtain ⟨_, hb, _⟩ := h.mr.row 0 hn; exact blk_ne h.box hb (by decide)
theorem ne_la (h : Pair B w gp gl ga gr gb n oL oR L R) (hn : 0 < n) : gl ≠ ga := (h.ml.ne 0 hn).symm
theorem ne_rb (h : Pair B w gp gl ga gr gb n oL oR L R) (hn : 0 < n) : gr ≠ gb := (h.mr.ne 0 hn).symm
theorem ne_lb (h : Pair B w gp gl ga gr gb n oL oR L R) (hn : 0 < n) : gl ≠ gb := by obtain ⟨_, hb, _⟩ := h.mr.row 0 hn; obtain ⟨_, hb2, _⟩ := h.ml.out; exact blk_ne hb2 hb (by decide)
theorem ne_ra (h : Pair B w gp gl ga gr gb n oL oR L R) (hn : 0 < n) : gr ≠ ga := by obtain ⟨_, hb, _⟩ := h.ml.row 0 hn; obtain ⟨_, hb2, _⟩ := h.mr.out; exact blk_ne hb2 hb (by decide)
/-- A row of the left one has been written. -/
theorem setL (h : Pair B w gp gl ga gr gb n oL oR L R) (hn : 0 < n) (hg : w.grownBy w1 (some ga)) (hM : Mat B w1 gl n n n (fun _ => ga) oL (fun _ => n) L') : Pair B w1 gp gl ga gr gb n oL oR L' R :=
  ⟨blk_grown h.box hg (by simpa using h.ne_pa hn), hM, by
    obtain ⟨cells, hb, hs, hc⟩ := h.mr.out
    exact ⟨⟨cells, blk_grown hb hg (by simpa using h.ne_ra hn), hs, hc⟩, fun i hi => by
      obtain ⟨cur, hb, hc⟩ := h.mr.row i hi
      exact ⟨cur, blk_grown hb hg (by simpa using h.d2.symm), hc⟩, h.mr.sep, h.mr.ne, h.mr.cap, h.mr.low, h.mr.lowm⟩, h.d1, h.d2, h.low⟩
theorem setR (h : Pair B w gp gl ga gr gb n oL oR L R) (hn : 0 < n) (hg : w.grownBy w1 (some gb)) (hM : Mat B w1 gr n n n (fun _ => gb) oR (fun _ => n) R') : Pair B w1 gp gl ga gr gb n oL oR L R' :=
  ⟨blk_grown h.box hg (by simpa using h.ne_pb hn), by
    obtain ⟨cells, hb, hs, hc⟩ := h.ml.out
    exact ⟨⟨cells, blk_grown hb hg (by simpa using h.ne_lb hn), hs, hc⟩, fun i hi => by
      obtain ⟨cur, hb, hc⟩ := h.ml.row i hi
      exact ⟨cur, blk_grown hb hg (by simpa using h.d2), hc⟩, h.ml.sep, h.ml.ne, h.ml.cap, h.ml.low, h.ml.lowm⟩, hM, h.d1, h.d2, h.low⟩
theorem lowA (h : Pair B w gp gl ga gr gb n oL oR L R) (hn : 0 < n) : B ≤ ga := h.ml.low 0 hn
theorem lowB (h : Pair B w gp gl ga gr gb n oL oR L R) (hn : 0 < n) : B ≤ gb := h.mr.low 0 hn
end Pair
set_option maxRecDepth 100000 in
set_option maxHeartbeats 8000000 in
theorem pivot_calls {B gp gl ga gr gb n : Nat} {oL oR : Nat → Nat} {L R : GfM.Mx} (at_ : Nat) (w : World) (hP : Pair B w gp gl ga gr gb n oL oR L R) (hat : at_ < n) (hn : n ≤ 255) :
    Calls Try.prog 47 #[.pointer (some ⟨gp, 0, none⟩), .int .i64 at_] w fun e w' => e = .returned (match GfM.pivotX L at_ (n - at_) at_ with | some i => .tuple #[.int .i64 i, .bool true] | none => .tuple #[.int .i64 0, .bool false]) ∧ w = w' := by
  obtain ⟨res, hres⟩ : ∃ res, res = (match GfM.pivotX L at_ (n - at_) at_ with | some i => Value.tuple #[.int .i64 (i : Nat), .bool true] | none => .tuple #[.int .i64 0, .bool false]) := ⟨_, rfl⟩
  rw [← hres]
  have HRES := Aside0.mk hres
  have HP := Aside0.mk hP
  have x0 := hP.left
  clear hres hP
  go_enter Try.func47, Try.ntmps47
  go_wp2
  go_loop [6] (fun v => ∃ i : Nat, at_ ≤ i ∧ i ≤ n ∧ v = .int .i64 i ∧ Aside0 (GfM.pivotX L at_ (n - at_) at_ = GfM.pivotX L at_ (n - i) i)) (fun v => n - (intOf v).toNat)
  case atStart => exact ⟨at_, Nat.le_refl _, by omega, by simp, ⟨rfl⟩⟩
  case round =>
    obtain ⟨i, hi1, hi2, rfl, HE⟩ := hrel
    by_cases hlt : i < n
    · have w0 : wrap64 ((i : Int) + 1) = (i : Int) + 1 := by unfold wrap64; omega
      have x1 := HP.out.ml.load hlt
      have x2 := HP.out.ml.cell hlt hat
      obtain ⟨d, hd⟩ : ∃ d, n - i = d + 1 := ⟨n - i - 1, by omega⟩
      by_cases hz : L i at_ = 0#8
      · rw [hz] at x2
        have HE2 : Aside0 (GfM.pivotX L at_ (n - at_) at_ = GfM.pivotX L at_ (n - (i + 1)) (i + 1)) := ⟨by
          rw [HE.out, hd, GfM.pivotX, if_neg (by simp [hz]), show n - (i + 1) = d from by omega]⟩
        simp only [BitVec.toNat_ofNat] at x2
        go_wp2
        go_round
        case rel => exact ⟨i + 1, by omega, by omega, by go_num, HE2⟩
        case measure => simp [intOf]; omega
      · have hv : ¬ ((L i at_).toNat : Int) = 0 := fun e => hz (BitVec.eq_of_toNat_eq (by simpa using e))
        obtain ⟨v, hv'⟩ : ∃ v : Int, v = ((L i at_).toNat : Int) := ⟨_, rfl⟩
        rw [← hv'] at x2 hv
        have b1 : (v == 0) = false := by simpa using hv
        have b2 : (v != 0) = true := by simp [hv]
        have HR2 : Aside0 (res = .tuple #[.int .i64 (i : Nat), .bool true]) := ⟨by rw [HRES.out, HE.out, hd, GfM.pivotX, if_pos hz]⟩
        clear hv' hv
        go_wp2
        go_ret2
        exact ⟨congrArg Ending.returned HR2.out.symm, rfl⟩
    · have hie : i = n := by omega
      subst hie
      have HR2 : Aside0 (res = .tuple #[.int .i64 0, .bool false]) := ⟨by rw [HRES.out, HE.out, Nat.sub_self, GfM.pivotX]⟩
      go_wp2
      go_ret2
      exact ⟨congrArg Ending.returned HR2.out.symm, rfl⟩

theorem swapX_self (i : Nat) (A : GfM.Mx) : GfM.swapX i i A = A := by
  funext r c
  unfold GfM.swapX
  by_cases e : r = i
  · rw [if_pos e, e]
  · rw [if_neg e, if_neg e]
/-- What swapping makes of a pair. -/
theorem Pair.swapped {B gp gl ga gr gb n : Nat} {w : World} {oL oR : Nat → Nat} {L R : GfM.Mx} (h : Pair B w gp gl ga gr gb n oL oR L R) {i j : Nat} (hi : i < n) (hj : j < n) :
    Pair B ((w.setCell ⟨gl, i, none⟩ (.slice (some ⟨ga, oL j, none⟩) n n)).setCell ⟨gl, j, none⟩ (.slice (some ⟨ga, oL i, none⟩) n n)) gp gl ga gr gb n (fun r => oL (if r = i then j else if r = j then i else r)) oR (GfM.swapX i j L) R ∧
    Pair B ((w.setCell ⟨gr, i, none⟩ (.slice (some ⟨gb, oR j, none⟩) n n)).setCell ⟨gr, j, none⟩ (.slice (some ⟨gb, oR i, none⟩) n n)) gp gl ga gr gb n oL (fun r => oR (if r = i then j else if r = j then i else r)) L (GfM.swapX i j R) := by
  have hn : 0 < n := by omega
  refine ⟨⟨blk_far (blk_far h.box h.ne_pl _) h.ne_pl _, h.ml.swap hi hj, (h.mr.far (a := ⟨gl, i, none⟩) h.d1.symm (fun _ _ => (h.ne_lb hn).symm) _).far (a := ⟨gl, j, none⟩) h.d1.symm (fun _ _ => (h.ne_lb hn).symm) _, h.d1, h.d2, h.low⟩, ⟨blk_far (blk_far h.box h.ne_pr _) h.ne_pr _, (h.ml.far (a := ⟨gr, i, none⟩) h.d1 (fun _ _ => (h.ne_ra hn).symm) _).far (a := ⟨gr, j, none⟩) h.d1 (fun _ _ => (h.ne_ra hn).symm) _, h.mr.swap hi hj, h.d1, h.d2, h.low⟩⟩
set_option maxRecDepth 100000 in
set_option maxHeartbeats 8000000 in
theorem swap_calls {B gp gl ga gr gb n : Nat} {oL oR : Nat → Nat} {L R : GfM.Mx} (i j : Nat) (w : World) (hP : Pair B w gp gl ga gr gb n oL oR L R) (hi : i < n) (hj : j < n) (hn : n ≤ 255) (hB : B ≤ w.heap.size) :
    Calls Try.prog 48 #[.pointer (some ⟨gp, 0, none⟩), .int .i64 i, .int .i64 j] w fun e w' => e = .returned (.tuple #[]) ∧ (∃ oL' oR', Pair B w' gp gl ga gr gb n oL' oR' (GfM.swapX i j L) (GfM.swapX i j R)) ∧ Below B w w' := by
  have HP := Aside0.mk hP
  have x0 := hP.left
  have x1 := hP.right
  have l1 := hP.ml.load hi
  have l2 := hP.ml.load hj
  have l3 := hP.mr.load hi
  have l4 := hP.mr.load hj
  have f1 := hP.ml.froz i
  have f2 := hP.ml.froz j
  have f3 := hP.mr.froz i
  have f4 := hP.mr.froz j
  have n1 := hP.ne_pl
  have n2 := hP.ne_pr
  have n3 := hP.d1
  obtain ⟨a1, ha1⟩ : ∃ a, a = oL i := ⟨_, rfl⟩
  obtain ⟨a2, ha2⟩ : ∃ a, a = oL j := ⟨_, rfl⟩
  obtain ⟨a3, ha3⟩ : ∃ a, a = oR i := ⟨_, rfl⟩
  obtain ⟨a4, ha4⟩ : ∃ a, a = oR j := ⟨_, rfl⟩
  rw [← ha1] at l1
  rw [← ha2] at l2
  rw [← ha3] at l3
  rw [← ha4] at l4
  have P1 := (hP.swapped hi hj).1.drew
  rw [← ha1, ← ha2] at P1
  obtain ⟨W1, hW1⟩ : ∃ W1, W1 = ((w.setCell ⟨gl, i, none⟩ (.slice (some ⟨ga, a2, none⟩) n n)).setCell ⟨gl, j, none⟩ (.slice (some ⟨ga, a1, none⟩) n n)).drew := ⟨_, rfl⟩
  rw [← hW1] at P1
  have y1 := P1.right
  have m3 := P1.mr.load hi
  have m4 := P1.mr.load hj
  have h3 := P1.mr.froz i
  have h4 := P1.mr.froz j
  rw [← ha3] at m3
  rw [← ha4] at m4
  have P2 := (P1.swapped hi hj).2.drew
  rw [← ha3, ← ha4] at P2
  have hb : Below B w W1 := by rw [hW1]; exact (((Below.refl B w).setCell (p := ⟨gl, i, none⟩) HP.out.ml.lowm _).setCell (p := ⟨gl, j, none⟩) HP.out.ml.lowm _).drew
  have HB2 := Aside0.mk ((hb.setCell (p := ⟨gr, i, none⟩) HP.out.mr.lowm (.slice (some ⟨gb, a4, none⟩) n n)).setCell (p := ⟨gr, j, none⟩) HP.out.mr.lowm (.slice (some ⟨gb, a3, none⟩) n n)).drew
  have HP2 := Aside0.mk P2
  have HA := Aside0.mk (And.intro ha1 (And.intro ha2 (And.intro ha3 ha4)))
  clear hP ha1 ha2 ha3 ha4 P1 P2 hb l3 l4 f3 f4 x1 n1 n2 n3
  by_cases e : i = j
  · subst e
    have e2 : a2 = a1 := HA.out.2.1.trans HA.out.1.symm
    have e4 : a4 = a3 := HA.out.2.2.2.trans HA.out.2.2.1.symm
    subst e2 e4
    clear l2 f2 m4 h4
    go_enter Try.func48, Try.ntmps48
    go_upto_region 0 with (fail)
    go_cut [] (fun wc => Aside0 (wc = W1))
    case first =>
      clear y1 m3 h3 HB2 HP2 HP HA
      go_wp2
      go_region
      all_goals rw [← hW1]
      all_goals clear hW1
      all_goals go_wp2
      all_goals go_meet
      all_goals exact ⟨rfl⟩
    case rest =>
      obtain ⟨hcut⟩ := hcut
      subst hcut
      clear hW1
      clear l1 f1 x0
      go_wp2
      go_region
      all_goals (clear y1 m3 h3)
      all_goals go_end0
      all_goals exact ⟨rfl, ⟨_, _, HP2.out⟩, HB2.out⟩
  · have e' : j ≠ i := fun h => e h.symm
    go_enter Try.func48, Try.ntmps48
    go_upto_region 0 with (fail)
    go_cut [] (fun wc => Aside0 (wc = W1))
    case first =>
      clear y1 m3 h3 HB2 HP2 HP HA
      go_wp2
      go_region
      all_goals rw [← hW1]
      all_goals clear hW1
      all_goals go_wp2
      all_goals go_meet
      all_goals exact ⟨rfl⟩
    case rest =>
      obtain ⟨hcut⟩ := hcut
      subst hcut
      clear hW1
      clear l1 l2 f1 f2 x0
      go_wp2
      go_region
      all_goals (clear y1 m3 h3)
      all_goals go_end0
      all_goals exact ⟨rfl, ⟨_, _, HP2.out⟩, HB2.out⟩
end Go.Proofs.Ytlobaomleocpjaa.G
