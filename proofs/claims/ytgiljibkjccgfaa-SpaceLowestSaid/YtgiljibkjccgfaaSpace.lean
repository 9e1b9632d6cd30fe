/- The contracts of space's functions over this seat's program, and of the library's functions that they hand iterators to: slices.Clone at bools, space.Free, space.Take, space.Used. Conditions: each one's own. -/
import Derived.Test.YtgiljibkjccgfaaGx0
import Derived.Lib.Hide
import Derived.WalkSpells
import Derived.RangeFuncNested
import Derived.RangeFuncBound
import Derived.RangeFuncCalls
import Derived.RangeFuncLeaves
import Derived.Shelf.Abstract
import Derived.Shelf.RegionOpen
import Derived.OwnWalkIn
import Derived.TacticsInMore
import Derived.LoopNIn
import Derived.LoopIn
import Derived.Maps.AppendAt
namespace Go.Proofs.Ytgiljibkjccgfaa.G
open Go.RowKit Go.Shelf Go.Proofs.YtgiljibkjccgfaaW.PrintWords Go.Proofs.YtgiljibkjccgfaaW.PrintLast Go.Proofs.YtgiljibkjccgfaaW.PrintMore
set_option linter.unusedVariables false
set_option linter.unusedSimpArgs false

/-! ### slices.Clone -/
def slices_Clone_bool_bool.f (l0 : List Bool) : Option (List Bool) := if l0.length < 140737488355328 then some l0 else none
set_option maxHeartbeats 4000000 in
set_option maxRecDepth 100000 in
theorem slices_Clone_bool_bool.calls (A0 : Option Addr) (c0 : Nat) (l0 : List Bool) (r : List Bool) (w : World) (hr0 : Kd.C Kd.bool w A0 l0.length l0) (hc0 : l0.length ≤ c0) (h : slices_Clone_bool_bool.f l0 = some r) :
    Calls Try.prog 59 #[.slice A0 l0.length c0] w fun e w' => ∃ v0_ : Value, e = .returned v0_ ∧ Kd.R Kd.bool 4 w' w.heap.size (fun _ => True) v0_ r ∧ Below w.heap.size w w' := by
  unfold slices_Clone_bool_bool.f at h
  by_cases hl : l0.length < 140737488355328
  · rw [if_pos hl] at h
    obtain rfl := Option.some.inj h
    clear h
    cases A0 with
    | none =>
      have hz : l0.length = 0 := by
        by_cases hz : 0 < l0.length
        · obtain ⟨ad, e, _⟩ := hr0.2.2 hz; cases e
        · omega
      have hnil : l0 = [] := List.eq_nil_of_length_eq_zero hz
      subst hnil
      clear hr0 hc0 hl hz
      have he : ∀ w : World, (binOp .eql 45 (.slice none 0 c0) (.slice none 0 0)).run Try.prog w = .ok (.bool true) w := fun w => Lib.run_eql_slice_nil (P := Try.prog) w 45 4 none 0 c0 0 0 Try.underlying45
      go_enter Try.func59, Try.ntmps59
      go_wp2
      go_ret
      exact ⟨_, rfl, Kd.R_nil _ _ _ _ _, Below.refl _ _⟩
    | some ad =>
      have HR0 := Aside0.mk hr0
      have HC0 := Aside0.mk hc0
      have HB := Aside0.mk (Below.refl w.heap.size w)
      have LM := Aside0.mk hl
      clear hr0 hc0 hl
      obtain ⟨y1, hy1⟩ : ∃ y_ : List Bool, y_ = [] := ⟨_, rfl⟩
      have NY1 := Aside0.mk hy1
      obtain ⟨y2, hy2⟩ : ∃ y_ : List Bool, y_ = y1 ++ l0 := ⟨_, rfl⟩
      have NY2 := Aside0.mk hy2
      have NY3 : Aside0 (y2 = l0) := ⟨by rw [hy2, hy1]; rfl⟩
      have LM : Aside0 (y1.length + l0.length < 140737488355328) := ⟨by rw [hy1]; simpa using LM.out⟩
      clear hy1 hy2
      have he : ∀ w : World, (binOp .eql 45 (.slice (some ad) l0.length c0) (.slice none 0 0)).run Try.prog w = .ok (.bool false) w := fun w => Lib.run_eql_slice_nil (P := Try.prog) w 45 4 (some ad) l0.length c0 0 0 Try.underlying45
      go_enter Try.func59, Try.ntmps59
      go_wp2_with (first | ((with_reducible refine gate_dst (N := 5) rfl ?_); (try (refine gate_guard (by rfl) ?_; dsimp only)); refine Kd.R_lit Kd.bool _ 4 ?hg (N := 5) ?hd (xs := ([] : List Bool)) (inner := []) (ok := fun _ => True) (okp := fun _ => True) ?hr ?hp (fun _ hk => hk) trivial (Below.refl _ _) (Nat.le_refl _) (by simp) ?_; (case hd => rfl); (case hg => rfl); (case hr => first | (go_simp; done) | (go_simp; rfl)); (case hp => exact (Reps.none _ _)); intro v1 w5 ho6 hb hg_ hnew_; clear hg_ hnew_; (first | rw [← NY1.out] at ho6 | (simp only [Int.reduceToNat] at ho6; rw [← NY1.out] at ho6)); have n0_ := Aside0.mk (Kd.R_lower ho6 (below_size (by repeat (first | (with_reducible first | exact HB.out | apply below_alloc | apply pw_below_drewN | apply below_drew1) | exact HB.out)))); have n1_ := Aside0.mk (below_step (by repeat (first | (with_reducible first | exact HB.out | apply below_alloc | apply pw_below_drewN | apply below_drew1) | exact HB.out)) hb); clear HB; have HO1 := n0_; have HB := n1_; clear n0_ n1_; clear hb ho6) | ((with_reducible refine gate_builtin (b := .append) (xs := #[.tmp 5, .tmp 6]) rfl ?_); (try (refine gate_guard (by rfl) ?_; dsimp only)); at_builtin; refine Kd.R_append_rows Kd.bool (w0 := w) w.heap.size rfl (.tmp 5) (.tmp 6) 45 4 (.bool false) 1 rfl Try.underlying45 info4 rfl (by decide) (by omega) v1 y1 l0 _ _ _ (fun _ => True) (fun _ => False) rfl rfl ?aO ?aR (fun _ _ h => h) (fun _ h => h.elim) ?aF ?aB ?aS ?aL ?_; (case aR => repeat (first | exact (Kd.C_below HR0.out HB.out) | (with_reducible refine Kd.C_alloc ?_ _) | (with_reducible refine Kd.C_drewN ?_ _) | (with_reducible refine Kd.C_drew ?_))); (case aB => exact (by repeat (first | (with_reducible first | exact HB.out | apply below_alloc | apply pw_below_drewN | apply below_drew1) | exact HB.out))); (case aF => exact (fun _ _ => trivial)); (case aO => exact (by (with_reducible repeat (first | apply Kd.R_alloc | apply Kd.R_drewN | apply Kd.R_drew)); exact HO1.out)); (case aS => exact (below_size (by repeat (first | (with_reducible first | exact HB.out | apply below_alloc | apply pw_below_drewN | apply below_drew1) | exact HB.out)))); (case aL => have := LM.out; omega); intro v2 w7 ho hb hg hat; rw [← NY2.out] at ho; have n0_ := Aside0.mk (hb); have n1_ := Aside0.mk (ho); clear HB; clear HO1; have HB := n0_; have HO2 := n1_; clear n0_ n1_; clear ho hb hg hat))
      go_ret
      exact ⟨_, rfl, by rw [← NY3.out]; exact HO2.out, HB.out⟩
  · rw [if_neg hl] at h; cases h

/-! ### space.those: the indexes at which the use is so -/
attribute [local go_sem] Oper.semAt_some
def thoseF (l : List Bool) (is : Bool) (k : Nat) : List (Fin l.length) := (List.range k).filterMap fun i => if h : i < l.length then (if l.getD i false = is then some ⟨i, h⟩ else none) else none
theorem thoseF_yes {l : List Bool} {is : Bool} {k : Nat} (h : k < l.length) (hx : l.getD k false = is) : thoseF l is (k + 1) = thoseF l is k ++ [⟨k, h⟩] := by
  unfold thoseF
  rw [List.range_succ, List.filterMap_append]
  simp only [List.filterMap_cons, List.filterMap_nil, dif_pos h, if_pos hx]
theorem thoseF_no {l : List Bool} {is : Bool} {k : Nat} (h : k < l.length) (hx : l.getD k false ≠ is) : thoseF l is (k + 1) = thoseF l is k := by
  unfold thoseF
  rw [List.range_succ, List.filterMap_append]
  simp only [List.filterMap_cons, List.filterMap_nil, dif_pos h, if_neg hx, List.append_nil]
theorem thoseF_length (l : List Bool) (is : Bool) (k : Nat) : (thoseF l is k).length ≤ k := by
  unfold thoseF
  exact Nat.le_trans (List.length_filterMap_le _ _) (by simp)
/-- What a round that goes on keeps: what lay below n₀, and the box Bi. -/
def KpT (n₀ Bi : Nat) (W W' : World) : Prop := Below n₀ W W' ∧ W'.heap[Bi]? = W.heap[Bi]?
abbrev tencs {n : Nat} (x : Fin n) : Array Value := #[.int .i64 (x.val : Int)]

set_option maxRecDepth 100000 in
set_option maxHeartbeats 2000000 in
theorem those_stops (n : Nat) (hn : 1 ≤ n) (Bu Bi n₀ : Nat) (A : Option Addr) (cap : Nat) (l : List Bool) (is : Bool) (hlen : l.length ≤ 9223372036854775807) (w : World) (hBu : Bu < w.heap.size) (hBi : Bi < w.heap.size)
    (cu : w.cell? ⟨Bu, 0, none⟩ = some (.slice A l.length cap)) (ci : Boxed w Bi 4 (.bool is)) (hn₀ : n₀ ≤ w.heap.size) (hR : ∀ W, Below n₀ w W → ReadsOf Value.bool false W A l.length l) :
    SeqStopsK Fence.wide n Try.prog 70 #[.pointer (some ⟨Bu, 0, none⟩), .pointer (some ⟨Bi, 0, none⟩)] tencs (KpT n₀ Bi) (fun xs => xs = thoseF l is l.length) (fun pre => ∃ k, k ≤ l.length ∧ pre = thoseF l is k) l.length w := fun L J Jx W hW hJ hJx hY h0 => by
  have cu1 : W.cell? ⟨Bu, 0, none⟩ = some (.slice A l.length cap) := (hW.cell (p := ⟨Bu, 0, none⟩) hBu).trans cu
  have ci1 : Boxed W Bi 4 (.bool is) := (hW.block Bi hBi).trans ci
  have hW2 := Aside0.mk (hW.mono hn₀)
  have HY := Aside0.mk hY
  have HR := Aside0.mk hR
  have CI := Aside0.mk ci1
  clear hY hR hJ hJx hW cu ci ci1
  refine callsIn_of_wp Try.func70 rfl trivial ?_ rfl
  simp only [Try.ntmps70, List.size_toArray, List.length_cons, List.length_nil, Nat.reduceAdd, Nat.reduceSub, Array.replicate_succ, Array.replicate_zero, List.push_toArray, List.append_toArray, List.nil_append, List.cons_append]
  gi_wp2
  gi_loopw [8] (fun i wr => ∃ k : Nat, k ≤ l.length ∧ i = .int .i64 k ∧ J (thoseF l is k) wr ∧ Aside0 (Below n₀ w wr) ∧ Aside0 (wr.heap[Bi]? = W.heap[Bi]?)) (fun i _ => l.length - (intOf i).toNat)
  case atStart => exact ⟨0, Nat.zero_le _, rfl, h0, hW2, ⟨rfl⟩⟩
  case round =>
    obtain ⟨k, hk, rfl, hJs, HB, HI⟩ := hrel
    have ci2 : Boxed wr Bi 4 (.bool is) := HI.out.trans CI.out
    have cc := ci2.cell
    clear ci2
    by_cases hlt : k < l.length
    · obtain ⟨ad, rfl, hcells⟩ := (HR.out wr HB.out).2.2 (by omega)
      have hcell := hcells k hlt
      clear hcells
      by_cases hx : l.getD k false = is
      · rw [hx] at hcell
        obtain ⟨fn, tmps, assign, body, hy, hRd⟩ := HY.out _ ⟨k, hlt⟩ wr hJs (Nat.lt_of_le_of_lt (thoseF_length _ _ _) hlt)
        dsimp only [tencs] at hy
        have HX := Aside0.mk hx
        clear hx
        gi_wp2
        refine hRd.mono ?_
        rintro e W3 (⟨rfl, hJ3, hk3⟩ | ⟨rfl, hJx3⟩)
        · gi_wp2
          go_roundw
          case rel => exact ⟨k + 1, by omega, by simp, by rw [thoseF_yes hlt HX.out]; exact hJ3, ⟨HB.out.trans hk3.1⟩, ⟨hk3.2.trans HI.out⟩⟩
          case measure => simp [intOf]; omega
        · gi_wp2
          refine bodyPost_ret (results_none rfl _ _ _) rfl ?_
          exact ⟨⟨_, rfl⟩, .inr ⟨_, ⟨k + 1, by omega, (thoseF_yes hlt HX.out).symm⟩, hJx3⟩⟩
      · have hb : l.getD k false = !is := by cases h1 : l.getD k false <;> cases is <;> simp_all
        rw [hb] at hcell
        have HX := Aside0.mk hx
        clear hx hb
        gi_wp2
        refine ⟨fun _ h => (by cases h), ?_⟩
        gi_wp2
        go_roundw
        case rel => exact ⟨k + 1, by omega, by simp, by rw [thoseF_no hlt HX.out]; exact hJs, HB, HI⟩
        case measure => simp [intOf]; omega
    · have hke : k = l.length := by omega
      have HKE := Aside0.mk hke
      clear hke
      gi_wp2
      go_end0
      exact ⟨⟨_, rfl⟩, .inl ⟨_, by rw [HKE.out], hJs⟩⟩

theorem those_in (n : Nat) (A : Option Addr) (len cap : Nat) (is : Bool) (w : World) :
    CallsIn Fence.wide n Try.prog 60 #[.slice A len cap, .bool is] w fun e w' => e = .returned (.func (.func 70) #[] #[.pointer (some ⟨w.heap.size, 0, none⟩), .pointer (some ⟨w.heap.size + 1, 0, none⟩)]) ∧ w' = (w.alloc (.cells #[.slice A len cap] 45)).alloc (.cells #[.bool is] 4) := by
  refine callsIn_of_wp Try.func60 rfl trivial ?_ rfl
  simp only [Try.ntmps60, List.size_toArray, List.length_cons, List.length_nil, Nat.reduceAdd, Nat.reduceSub, Array.replicate_succ, Array.replicate_zero, List.push_toArray, List.append_toArray, List.nil_append, List.cons_append]
  gi_wp2
  go_ret
  exact ⟨rfl, rfl⟩
theorem kpT_t {n₀ Bi : Nat} {A B C : World} (h : KpT n₀ Bi A B) (k : KpT n₀ Bi B C) : KpT n₀ Bi A C := ⟨h.1.trans k.1, k.2.trans h.2⟩
theorem kpT_b {n₀ Bi : Nat} {w : World} (hn : n₀ ≤ w.heap.size) (hb : Bi < w.heap.size) (W : World) (l : Nat) (o o' : Obj) (hl : w.heap.size ≤ l) (h : W.heap[l]? = some o) (hc : o.isCells = false) (hw : o.isWalk = false) : KpT n₀ Bi W (W.putObj l o') :=
  ⟨belowK_b hn W l o o' hl h hc hw, World.putObj_heap_other (by omega)⟩
theorem sp_box_own {W W' : World} {row : Option Nat} {B : Nat} {t : TypeId} {v : Value} (h : Boxed W B t v) (hg : W.grownBy W' row) (hr : ∀ r, row = some r → ∃ o : Obj, W.heap[r]? = some o ∧ o.isCells = false) : Boxed W' B t v :=
  h.kept hg (fun e' => by obtain ⟨o, ho, hc⟩ := hr B e'.symm; rw [show W.heap[B]? = _ from h] at ho; cases ho; cases hc)
theorem reads_stay {w : World} {A : Option Addr} {l : List Bool} (hr : Kd.C Kd.bool w A l.length l) : ∀ W, Below w.heap.size w W → ReadsOf Value.bool false W A l.length l := fun W hb => (Kd.reads_of_C (d := false) hr).below hb

def freeI (l : List Bool) : Int := ((thoseF l false l.length).length : Int)
def space_Free.f (l0 : List Bool) : Option Int := if l0.length ≤ 4611686018427387904 then some (freeI l0) else none
set_option maxRecDepth 100000 in
set_option maxHeartbeats 2000000 in
theorem space_Free.calls (A0 : Option Addr) (c0 : Nat) (l0 : List Bool) (r : Int) (w : World) (hr0 : Kd.C Kd.bool w A0 l0.length l0) (hc0 : l0.length ≤ c0) (h : space_Free.f l0 = some r) :
    Calls Try.prog 37 #[.slice A0 l0.length c0] w fun e w' => e = .returned (.int .i64 r) ∧ Below w.heap.size w w' := by
  unfold space_Free.f at h
  by_cases hl : l0.length ≤ 4611686018427387904
  · rw [if_pos hl] at h
    obtain rfl := Option.some.inj h
    have hRd := reads_stay hr0
    refine (callsIn_wide (n := 3)).1 ?_
    have hro : Fence.wide.round = none := rfl
    have h1 : 1 ≤ 3 := by decide
    refine callsIn_of_wp_marks Try.func37 rfl trivial ?_ hro
    simp only [Try.ntmps37, List.size_toArray, List.length_cons, List.length_nil, Nat.reduceAdd, Nat.reduceSub, Array.replicate_succ, Array.replicate_zero, List.push_toArray, List.append_toArray, List.nil_append, List.cons_append]
    gi_wp2_with (refine ⟨trivial, ?_⟩; gi_at_call 60; refine (those_in _ _ _ _ _ _).mono ?_; rintro e w' ⟨rfl, rfl⟩)
    have bN := Boxed.new w 3 (.int .i64 0)
    have bU := Boxed.new (w.alloc (.cells #[.int .i64 0] 3)) 45 (.slice A0 l0.length c0)
    have bI := Boxed.new ((w.alloc (.cells #[.int .i64 0] 3)).alloc (.cells #[.slice A0 l0.length c0] 45)) 4 (.bool false)
    rw [World.size_alloc] at bU
    rw [World.size_alloc, World.size_alloc] at bI
    have hB0 : Below w.heap.size w (((w.alloc (.cells #[.int .i64 0] 3)).alloc (.cells #[.slice A0 l0.length c0] 45)).alloc (.cells #[.bool false] 4)) := (((Below.refl _ w).alloc (Nat.le_refl _) _).alloc (by simp) _).alloc (by simp; omega) _
    refine wpIn_rangeFunc_ownG hro h1 (gf := 70) (lb := #[.pointer (some ⟨w.heap.size + 1, 0, none⟩), .pointer (some ⟨w.heap.size + 1 + 1, 0, none⟩)]) rfl trivial (enters_of Try.func70 (by kernel_rfl) rfl)
      (those_stops (3 - 1) (by decide) (w.heap.size + 1) (w.heap.size + 1 + 1) w.heap.size A0 c0 l0 false (by omega) _ (by simp) (by simp) (bU.alloc _).cell bI (by simp; omega) (fun W hb => hRd W (hB0.trans hb)))
      kpT_t (kpT_b (by simp; omega) (by simp)) (Below.refl _ _) (fun _ => rfl)
      (fun pre W => Boxed W w.heap.size 3 (.int .i64 (pre.length : Int)) ∧ Below w.heap.size w W)
      (fun _ _ _ => False)
      (OwnFrom.and (Own.from (boxed_own w.heap.size 3 (fun pre : List (Fin l0.length) => .int .i64 (pre.length : Int))) _) (ownFrom_below (Nat.le_refl _) (by simp; omega)))
      (fun _ _ _ _ _ hs _ _ => hs)
      ⟨(bN.alloc _).alloc _, hB0⟩
      (fun x => { tmps := #[.slice A0 l0.length c0, undef, .int .i64 0, .pointer (some ⟨w.heap.size, 0, none⟩), .slice A0 l0.length c0, .func (.func 70) #[] #[.pointer (some ⟨w.heap.size + 1, 0, none⟩), .pointer (some ⟨w.heap.size + 1 + 1, 0, none⟩)], .int .i64 (x.val : Int), undef, undef, undef], defers := [] }) ?assign ?body ?done ?stop
    case assign =>
      intro l x W K hK
      gi_wp2
      simpa [tencs] using hK
    case body =>
      rintro l pre x W ⟨bN, hB⟩ hlt
      have c1 := bN.cell
      have f1 := bN.frozen
      gi_wp2
      refine ⟨(KeepsOthers.setCell _ _ _).from _, ⟨(Below.refl _ W).setCell (p := ⟨w.heap.size, 0, none⟩) (Nat.le_refl _) _, Below.heap_setCell W ⟨w.heap.size, 0, none⟩ _ _ (by simp; omega)⟩, ?_, hB.setCell (p := ⟨w.heap.size, 0, none⟩) (Nat.le_refl _) _⟩
      have := bN.set (.int .i64 ((pre.length : Int) + 1))
      simpa using this
    case done =>
      rintro D ys W hD rfl ⟨bN, hB⟩ hK
      have c1 := bN.cell
      gi_wp2
      refine ⟨by simp, .inl ⟨_, _, rfl, run_takeDeferred hK, ?_⟩⟩
      exact ⟨_, results_tmp rfl _ _ _, rfl, hB.trans (belowK_b (w := w) (Nat.le_refl _) W D _ _ (by simp at hD; omega) hK rfl rfl)⟩
    case stop =>
      rintro D c pre W _ _ h _
      exact h.elim
  · rw [if_neg hl] at h; cases h

/-! ### slices.Collect over them; space.Used -/
def idxI (l : List Bool) (is : Bool) (k : Nat) : List Int := (thoseF l is k).map fun x => (x.val : Int)
set_option maxRecDepth 100000 in
set_option maxHeartbeats 2000000 in
theorem appendSeq_in (Bu Bi n₀ : Nat) (A : Option Addr) (cap : Nat) (l : List Bool) (is : Bool) (hlen : l.length ≤ 17592186043904) (w : World) (hBu : Bu < w.heap.size) (hBi : Bi < w.heap.size)
    (cu : w.cell? ⟨Bu, 0, none⟩ = some (.slice A l.length cap)) (ci : Boxed w Bi 4 (.bool is)) (hn₀ : n₀ ≤ w.heap.size) (hR : ∀ W, Below n₀ w W → ReadsOf Value.bool false W A l.length l) :
    CallsIn Fence.wide 3 Try.prog 71 #[.slice none 0 0, .func (.func 70) #[] #[.pointer (some ⟨Bu, 0, none⟩), .pointer (some ⟨Bi, 0, none⟩)]] w fun e w' => ∃ v, e = .returned v ∧ w'.ownsRow w.heap.size 3 1 v (thoseF l is l.length).length ((thoseF l is l.length).map fun x => .int .i64 (x.val : Int)) ∧ Below w.heap.size w w' := by
  have hro : Fence.wide.round = none := rfl
  have h1 : 1 ≤ 3 := by decide
  obtain ⟨i0, hi, hz0, hz1, hz2⟩ := info_parts info3
  refine callsIn_of_wp_marks Try.func71 rfl trivial ?_ hro
  simp only [Try.ntmps71, List.size_toArray, List.length_cons, List.length_nil, Nat.reduceAdd, Nat.reduceSub, Array.replicate_succ, Array.replicate_zero, List.push_toArray, List.append_toArray, List.nil_append, List.cons_append]
  gi_wp2
  have bO := Boxed.new w 37 (.slice none 0 0)
  have hB0 : Below w.heap.size w (w.alloc (.cells #[.slice none 0 0] 37)) := (Below.refl _ w).alloc (Nat.le_refl _) _
  refine wpIn_rangeFunc_ownG hro h1 (gf := 70) (lb := #[.pointer (some ⟨Bu, 0, none⟩), .pointer (some ⟨Bi, 0, none⟩)]) rfl trivial (enters_of Try.func70 (by kernel_rfl) rfl)
    (those_stops (3 - 1) (by decide) Bu Bi n₀ A cap l is (by omega) _ (by simp; omega) (by simp; omega) ((hB0.cell (p := ⟨Bu, 0, none⟩) hBu).trans cu) (ci.alloc _) (by simp; omega) (fun W hb => hR W ((hB0.mono hn₀).trans hb)))
    kpT_t (kpT_b (by simp; omega) (by simp; omega)) (Below.refl _ _) (fun _ => rfl)
    (fun pre W => (∃ v, Boxed W w.heap.size 37 v ∧ W.ownsRow w.heap.size 3 1 v pre.length (pre.map fun x => .int .i64 (x.val : Int)) ∧ True) ∧ Below w.heap.size w W)
    (fun _ _ _ => False)
    (OwnFrom.and (Own.from (holdsRow_own w.heap.size w.heap.size 37 3 1 (fun pre : List (Fin l.length) => pre.length) (fun pre => pre.map fun x => .int .i64 (x.val : Int)) (fun pre v => True)) _) (ownFrom_below (Nat.le_refl _) (by simp)))
    (fun _ _ _ _ _ hs _ _ => hs)
    ⟨⟨_, bO, World.ownsRow_nil _ _ _ _, trivial⟩, hB0⟩
    (fun x => { tmps := #[.slice none 0 0, .func (.func 70) #[] #[.pointer (some ⟨Bu, 0, none⟩), .pointer (some ⟨Bi, 0, none⟩)], .pointer (some ⟨w.heap.size, 0, none⟩), undef, .slice none 0 0, .int .i64 (x.val : Int), .func (.func 70) #[] #[.pointer (some ⟨Bu, 0, none⟩), .pointer (some ⟨Bi, 0, none⟩)], .int .i64 (x.val : Int), undef, undef, undef, undef, undef], defers := [] }) ?assign ?body ?done ?stop
  case assign =>
    intro L x W K hK
    gi_wp2
    exact hK
  case body =>
    rintro L pre x W ⟨⟨v, hv, hrow, _⟩, hB⟩ hlt
    have hc := hv.cell
    gi_wp2_with (gi_at_builtin; refine wpListIn_append_own _ rfl _ _ 37 rfl w.heap.size 3 i0 (.int .i64 0) 1 8 Try.underlying37 hi hz0 hz1 hz2 rfl (by decide) _ _ _ rfl (hrow.alloc _) ⟨W.heap.size, 0, none⟩ 1 1 [.int .i64 (x.val : Int)] rfl rfl (cell_one_new _ _ _) (by simp [Value.oneCell']) (by unfold maxLen; omega) (by omega) (by have := hB.size; simp; omega) ?_; intro v' w1 hown' hgrow _; obtain ⟨g', cap', rfl⟩ := ownsRow_succ hown'; obtain ⟨hv1, hv2, hr2, hk2, hb2⟩ := hv.appended (by decide) hrow hB.size (Nat.le_refl _) hown' hgrow; have hc1 := hv1.cell; have hf1 := hv1.frozen)
    refine ⟨hk2.from _, ⟨hb2.mono hn₀, ?_⟩, ⟨_, hv2, by simpa using hr2, trivial⟩, hB.trans hb2⟩
    exact hb2.block Bi (by omega)
  case done =>
    rintro D ys W hD rfl ⟨⟨v, hv, hrow, _⟩, hB⟩ hK
    have hc := hv.cell
    gi_wp2
    refine ⟨by simp, .inl ⟨_, _, rfl, run_takeDeferred hK, ?_⟩⟩
    exact ⟨_, results_tmp rfl _ _ _, v, rfl, ownsRow_putObj hrow _ hK rfl, hB.trans (belowK_b (w := w) (Nat.le_refl _) W D _ _ (by simp at hD; omega) hK rfl rfl)⟩
  case stop =>
    rintro D c pre W _ _ h _
    exact h.elim
def space_Used.f (l0 : List Bool) : Option (List Int) := if l0.length ≤ 17592186043904 then some (idxI l0 true l0.length) else none
set_option maxRecDepth 100000 in
set_option maxHeartbeats 2000000 in
theorem space_Used.calls (A0 : Option Addr) (c0 : Nat) (l0 : List Bool) (r : List Int) (w : World) (hr0 : Kd.C Kd.bool w A0 l0.length l0) (hc0 : l0.length ≤ c0) (h : space_Used.f l0 = some r) :
    Calls Try.prog 39 #[.slice A0 l0.length c0] w fun e w' => ∃ v0_ : Value, e = .returned v0_ ∧ Kd.R (Kd.int .i64) 3 w' w.heap.size (fun _ => True) v0_ r ∧ Below w.heap.size w w' := by
  unfold space_Used.f at h
  by_cases hl : l0.length ≤ 17592186043904
  · rw [if_pos hl] at h
    obtain rfl := Option.some.inj h
    have hRd := reads_stay hr0
    have hB0 : Below w.heap.size w ((w.alloc (.cells #[.slice A0 l0.length c0] 45)).alloc (.cells #[.bool true] 4)) := ((Below.refl _ w).alloc (Nat.le_refl _) _).alloc (by simp) _
    have bU := Boxed.new w 45 (.slice A0 l0.length c0)
    have bI := Boxed.new (w.alloc (.cells #[.slice A0 l0.length c0] 45)) 4 (.bool true)
    rw [World.size_alloc] at bI
    have seq := callsIn_wide.1 (appendSeq_in w.heap.size (w.heap.size + 1) w.heap.size A0 c0 l0 true hl ((w.alloc (.cells #[.slice A0 l0.length c0] 45)).alloc (.cells #[.bool true] 4)) (by simp; omega) (by simp) (bU.alloc _).cell bI (by simp; omega) (fun W hb => hRd W (hB0.trans hb)))
    have coll : Calls Try.prog 61 #[.func (.func 70) #[] #[.pointer (some ⟨w.heap.size, 0, none⟩), .pointer (some ⟨w.heap.size + 1, 0, none⟩)]] ((w.alloc (.cells #[.slice A0 l0.length c0] 45)).alloc (.cells #[.bool true] 4)) fun e w' => ∃ v, e = .returned v ∧ Kd.R (Kd.int .i64) 3 w' w.heap.size (fun _ => True) v (idxI l0 true l0.length) ∧ Below w.heap.size w w' := by
      have SEQ := Aside0.mk seq
      clear seq hRd bU bI
      have HB0 := Aside0.mk hB0
      clear hB0
      go_enter Try.func61, Try.ntmps61
      go_wp2_with (go_at_call 71; refine SEQ.out.mono ?_; rintro e w' ⟨v, rfl, hrow, hb⟩; have HRW := Aside0.mk hrow; have HBW := Aside0.mk hb; clear hrow hb)
      go_ret
      refine ⟨_, rfl, ?_, HB0.out.trans (HBW.out.mono (by simp; omega))⟩
      refine Kd.R_of_own ?_ (fun _ _ => trivial)
      have := own_weaken HRW.out (base' := w.heap.size) (by simp; omega)
      unfold idxI
      rw [List.length_map]
      unfold encs
      rw [List.map_map]
      exact this
    have TH := fun n => those_in n A0 l0.length c0 true w
    have COLL := Aside0.mk coll
    clear coll seq hRd bU bI hB0
    go_enter Try.func39, Try.ntmps39
    go_wp2_with (first | (go_at_call 60; refine (callsIn_wide.1 (TH 3)).mono ?_; rintro e w' ⟨rfl, rfl⟩) | (go_at_call 61; refine COLL.out.mono ?_; rintro e w' ⟨v, rfl, hrow, hb⟩; have HRW := Aside0.mk hrow; have HBW := Aside0.mk hb; clear hrow hb))
    go_ret
    exact ⟨_, rfl, HRW.out, HBW.out⟩
  · rw [if_neg hl] at h; cases h

/-! ### space.Take -/
def setAll (l : List Bool) (pre : List (Fin l.length)) : List Bool := pre.foldl (fun o x => o.set x.val true) l
theorem setAll_snoc (l : List Bool) (pre : List (Fin l.length)) (x : Fin l.length) : setAll l (pre ++ [x]) = (setAll l pre).set x.val true := by simp [setAll]
theorem setAll_length (l : List Bool) (pre : List (Fin l.length)) : (setAll l pre).length = l.length := by
  unfold setAll
  have : ∀ (o : List Bool), (pre.foldl (fun o x => o.set x.val true) o).length = o.length := by
    induction pre with
    | nil => intro o; rfl
    | cons x pre ih => intro o; simp only [List.foldl_cons]; rw [ih]; simp
  exact this l
def takeF (l : List Bool) (n : Int) : List (Fin l.length) := (thoseF l false l.length).take n.toNat
def space_Take.f (l0 : List Bool) (a1 : Int) : Option (List Bool × List Int × Int) :=
  if l0.length ≤ 17592186043904 then some (if a1 < 0 then (l0, [], 1) else if freeI l0 < a1 then (l0, [], 11) else (setAll l0 (takeF l0 a1), (takeF l0 a1).map (fun x => (x.val : Int)), 0)) else none
theorem row_own {X Y : World} {row : Option Nat} {base e size n : Nat} {v : Value} {xs : List Value} (h : X.ownsRow base e size v n xs) (hg : X.grownBy Y row) (hr : ∀ r, row = some r → ∃ o : Obj, X.heap[r]? = some o ∧ o.isCells = false) : Y.ownsRow base e size v n xs := by
  refine h.kept hg ?_
  rcases h.2 with ⟨rfl, _⟩ | ⟨g, cap, cur, rfl, _, hgb, _⟩
  · exact .inl rfl
  · refine .inr fun e' => ?_
    obtain ⟨o, ho, hc⟩ := hr g (by simpa [Value.ownBlock] using e'.symm)
    rw [hgb] at ho; cases ho; cases hc
/-- Between two rounds of Take's loop. -/
structure TakeI (w : World) (B1 B2 n1 : Nat) (v0 : Value) (n : Int) (l : List Bool) (pre : List (Fin l.length)) (W : World) : Prop where
  out : Boxed W B1 45 v0
  row : W.ownsRow w.heap.size 4 1 v0 l.length (encs Value.bool (setAll l pre))
  nb : Boxed W w.heap.size 3 (.int .i64 n)
  at_ : ∃ v, Boxed W B2 37 v ∧ W.ownsRow n1 3 1 v pre.length (pre.map fun x => .int .i64 (x.val : Int))
  le : (pre.length : Int) ≤ n
  bel : Below w.heap.size w W
  sz : n1 ≤ W.heap.size
theorem takeI_own {w : World} {B1 B2 n1 : Nat} {v0 : Value} {n : Int} {l : List Bool} {B : Nat} (hB : w.heap.size ≤ B) : OwnFrom B (TakeI w B1 B2 n1 v0 n l) := fun s X Y row h hg hr => by
  have hr' : ∀ r, row = some r → ∃ o : Obj, X.heap[r]? = some o ∧ o.isCells = false := fun r e => (hr r e).2
  obtain ⟨v, hv, hrow⟩ := h.at_
  exact ⟨sp_box_own h.out hg hr', row_own h.row hg hr', sp_box_own h.nb hg hr', ⟨v, sp_box_own hv hg hr', row_own hrow hg hr'⟩, h.le, ownFrom_below (β := Unit) (Nat.le_refl _) hB () X Y row h.bel hg hr, Nat.le_trans h.sz hg.size⟩
theorem grow_facts {W W1 : World} {n1 k : Nat} {e : TypeId} {v : Value} {xs : List Value} {tmp : Obj} (hrow : W.ownsRow n1 e 1 v k xs) (hn : n1 ≤ W.heap.size) (hgrow : (W.alloc tmp).grownBy W1 v.ownBlock) : Below n1 W W1 ∧ KeepsOthers W W1 := by
  constructor
  · refine ((Below.refl n1 W).alloc hn tmp).grown hgrow (by simp; omega) fun j ej => ?_
    rcases hrow.2 with ⟨rfl, _⟩ | ⟨g, cap, cur, rfl, hb, _, _⟩
    · simp [Value.ownBlock] at ej
    · obtain rfl : g = j := by simpa [Value.ownBlock] using ej
      exact hb
  · refine (KeepsOthers.alloc W tmp).trans (KeepsOthers.of_grownBy hgrow fun j o ej hj => ?_)
    rcases (hrow.alloc tmp).2 with ⟨rfl, _⟩ | ⟨g, cap, cur, rfl, _, hgb, _⟩
    · simp [Value.ownBlock] at ej
    · obtain rfl : g = j := by simpa [Value.ownBlock] using ej
      rw [hgb] at hj; cases hj; rfl
theorem row_block {X Y : World} {base e size n : Nat} {v : Value} {xs : List Value} (h : X.ownsRow base e size v n xs) (hb : ∀ g, v.ownBlock = some g → Y.heap[g]? = X.heap[g]?) : Y.ownsRow base e size v n xs := by
  refine ⟨h.1, ?_⟩
  rcases h.2 with h2 | ⟨g, cap, cur, rfl, hg, hh, r⟩
  · exact .inl h2
  · exact .inr ⟨g, cap, cur, rfl, hg, (hb g rfl).trans hh, r⟩
theorem row_form {X : World} {base e size n : Nat} {v : Value} {xs : List Value} (h : X.ownsRow base e size v n xs) : ∃ A cap, v = .slice A n cap := by
  rcases h.2 with ⟨rfl, rfl⟩ | ⟨g, cap, cur, rfl, _⟩
  · exact ⟨none, 0, rfl⟩
  · exact ⟨_, cap, rfl⟩
theorem row_ge {X : World} {base e size n : Nat} {v : Value} {xs : List Value} (h : X.ownsRow base e size v n xs) {b : Nat} (hb : v.ownBlock = some b) : base ≤ b := by
  rcases h.2 with ⟨rfl, _⟩ | ⟨g, cap, cur, rfl, hg, _⟩
  · simp [Value.ownBlock] at hb
  · obtain rfl : g = b := by simpa [Value.ownBlock] using hb
    exact hg
/-- One round of Take's: the append to at, the store into out. -/
theorem takeI_step {w W W1 : World} {B1 B2 n1 g co : Nat} {n : Int} {l : List Bool} {pre : List (Fin l.length)} {x : Fin l.length} {tmp : Obj} {v v' : Value}
    (h : TakeI w B1 B2 n1 (.slice (some ⟨g, 0, none⟩) l.length co) n l pre W) (hg2 : g < B2) (h12 : B1 < B2) (hwB : w.heap.size < B1) (h2n : B2 < n1) (hlt : (pre.length : Int) < n)
    (hv : Boxed W B2 37 v) (hrow : W.ownsRow n1 3 1 v pre.length (pre.map fun x => .int .i64 (x.val : Int)))
    (hown : W1.ownsRow n1 3 1 v' (pre.length + 1) ((pre.map fun x => .int .i64 (x.val : Int)) ++ [.int .i64 (x.val : Int)])) (hgrow : (W.alloc tmp).grownBy W1 v.ownBlock) :
    (W1.cell? ⟨B2, 0, none⟩ = some v ∧ W1.frozen? ⟨B2, 0, none⟩ = false ∧ (W1.setCell ⟨B2, 0, none⟩ v').cell? ⟨B1, 0, none⟩ = some (.slice (some ⟨g, 0, none⟩) l.length co) ∧
      (W1.setCell ⟨B2, 0, none⟩ v').cell? ⟨g, x.val, none⟩ = some (.bool ((setAll l pre).getD x.val false)) ∧ (W1.setCell ⟨B2, 0, none⟩ v').frozen? ⟨g, x.val, none⟩ = false) ∧
    KeepsOthers W ((W1.setCell ⟨B2, 0, none⟩ v').setCell ⟨g, x.val, none⟩ (.bool true)) ∧
    (∀ Bi, B2 < Bi → Bi < n1 → ((W1.setCell ⟨B2, 0, none⟩ v').setCell ⟨g, x.val, none⟩ (.bool true)).heap[Bi]? = W.heap[Bi]?) ∧
    Below w.heap.size W ((W1.setCell ⟨B2, 0, none⟩ v').setCell ⟨g, x.val, none⟩ (.bool true)) ∧
    TakeI w B1 B2 n1 (.slice (some ⟨g, 0, none⟩) l.length co) n l (pre ++ [x]) ((W1.setCell ⟨B2, 0, none⟩ v').setCell ⟨g, x.val, none⟩ (.bool true)) := by
  obtain ⟨hb, hk⟩ := grow_facts hrow h.sz hgrow
  have hw1 : w.heap.size ≤ W.heap.size := h.bel.size
  have e1 : ∀ b, b < n1 → W1.heap[b]? = W.heap[b]? := fun b hbn => hb.block b hbn
  have gB1 : B1 ≠ g := fun e => (h.out.not_row (by decide) h.row) (by rw [e]; rfl)
  have gN : w.heap.size ≠ g := fun e => (h.nb.not_row (by decide) h.row) (by rw [e]; rfl)
  have hgw : w.heap.size ≤ g := row_ge h.row rfl
  have hv1 : Boxed W1 B2 37 v := (e1 B2 h2n).trans hv
  have hW3 : ∀ b, b ≠ B2 → (W1.setCell ⟨B2, 0, none⟩ v').heap[b]? = W1.heap[b]? := fun b hne => Below.heap_setCell _ _ _ _ hne
  have hrow3 : (W1.setCell ⟨B2, 0, none⟩ v').ownsRow w.heap.size 4 1 (.slice (some ⟨g, 0, none⟩) l.length co) l.length (encs Value.bool (setAll l pre)) := row_block h.row fun g' e => by
    obtain rfl : g = g' := by simpa [Value.ownBlock] using e
    rw [hW3 g (by omega), e1 g (by omega)]
  have hat := own_at_of (d := false) hrow3 (x.val : Int) (by omega) (by have := x.isLt; omega)
  obtain ⟨hst, _⟩ := own_store_of hrow3 (x.val : Int) true
  simp only [Int.toNat_natCast] at hat hst
  have hW4 : ∀ b, b ≠ B2 → b ≠ g → ((W1.setCell ⟨B2, 0, none⟩ v').setCell ⟨g, x.val, none⟩ (.bool true)).heap[b]? = W1.heap[b]? := fun b h1 h2 => (Below.heap_setCell _ _ _ _ h2).trans (hW3 b h1)
  have hB4 : Below w.heap.size W ((W1.setCell ⟨B2, 0, none⟩ v').setCell ⟨g, x.val, none⟩ (.bool true)) := ((hb.mono (by omega)).setCell (p := ⟨B2, 0, none⟩) (by simp; omega) _).setCell (p := ⟨g, x.val, none⟩) hgw _
  refine ⟨⟨hv1.cell, hv1.frozen, ?_, ?_, hat.2⟩, (hk.trans (KeepsOthers.setCell _ _ _)).trans (KeepsOthers.setCell _ _ _), fun Bi h1 h2 => (hW4 Bi (by omega) (by omega)).trans (e1 Bi h2), hB4, ?_, ?_, ?_, ⟨v', ?_, ?_⟩, ?_, ?_, ?_⟩
  · have : Boxed (W1.setCell ⟨B2, 0, none⟩ v') B1 45 (.slice (some ⟨g, 0, none⟩) l.length co) := ((hW3 B1 (by omega)).trans (e1 B1 (by omega))).trans h.out
    exact this.cell
  · have := hat.1
    unfold rdOf at this
    simpa using this
  · exact ((hW4 B1 (by omega) gB1).trans (e1 B1 (by omega))).trans h.out
  · rw [setAll_snoc]; exact hst
  · exact ((hW4 _ (by omega) gN).trans (e1 _ (by omega))).trans h.nb
  · exact (Below.heap_setCell _ _ _ _ (by simp; omega)).trans (hv1.set v')
  · have := row_block (Y := (W1.setCell ⟨B2, 0, none⟩ v').setCell ⟨g, x.val, none⟩ (.bool true)) hown fun g' e => by
      have := row_ge hown e
      exact hW4 g' (by omega) (by omega)
    simpa using this
  · simp; omega
  · exact h.bel.trans hB4
  · have := hb.size; have := h.sz; simp [World.setCell]; omega

theorem takeI_end {w W : World} {B1 B2 n1 : Nat} {n : Int} {l : List Bool} {pre : List (Fin l.length)} {v0 v : Value} (h : TakeI w B1 B2 n1 v0 n l pre W) (hn : w.heap.size ≤ n1)
    (hrow : W.ownsRow n1 3 1 v pre.length (pre.map fun x => .int .i64 (x.val : Int))) {D : Nat} {o o' : Obj} (hD : w.heap.size ≤ D) (hK : W.heap[D]? = some o) (hc : o.isCells = false) (hw : o.isWalk = false) :
    Kd.R Kd.bool 4 (W.drew.putObj D o') w.heap.size (fun _ => True) v0 (setAll l pre) ∧ Kd.R (Kd.int .i64) 3 (W.drew.putObj D o') w.heap.size (fun _ => True) v (pre.map fun x => (x.val : Int)) ∧ Below w.heap.size w (W.drew.putObj D o') := by
  have hK' : W.drew.heap[D]? = some o := hK
  refine ⟨Kd.R_of_own ?_ (fun _ _ => trivial), Kd.R_of_own ?_ (fun _ _ => trivial), h.bel.drew.trans (belowK_b (w := w) (Nat.le_refl _) W.drew D o o' hD hK' hc hw)⟩
  · rw [setAll_length]
    exact ownsRow_putObj (row_block (Y := W.drew) h.row (fun _ _ => rfl)) o' hK' hc
  · have := own_weaken (ownsRow_putObj (row_block (Y := W.drew) hrow (fun _ _ => rfl)) o' hK' hc) hn
    rw [List.length_map]
    unfold encs
    rw [List.map_map]
    exact this
theorem those_prefix (l : List Bool) (is : Bool) (k : Nat) (hk : k ≤ l.length) : thoseF l is k <+: thoseF l is l.length := by
  unfold thoseF
  obtain ⟨m, hm⟩ : ∃ m, l.length = k + m := ⟨l.length - k, by omega⟩
  have : ∀ (f : Nat → Option (Fin l.length)) (n : Nat), n = k + m → (List.range k).filterMap f <+: (List.range n).filterMap f := by
    intro f n hn
    subst hn
    rw [List.range_add, List.filterMap_append]
    exact List.prefix_append _ _
  exact this _ _ hm
theorem takeF_stop {l : List Bool} {n : Int} {pre : List (Fin l.length)} {k : Nat} (hk : k ≤ l.length) (hp : pre = thoseF l false k) (hn : (pre.length : Int) = n + 1) : takeF l n = pre.dropLast := by
  have h := List.prefix_iff_eq_take.1 (those_prefix l false k hk)
  rw [← hp] at h
  obtain ⟨m, hm⟩ : ∃ m, pre.length = m := ⟨_, rfl⟩
  rw [List.dropLast_eq_take]
  rw [hm] at h hn ⊢
  unfold takeF
  rw [h, List.take_take]
  congr 1
  omega
theorem takeF_done {l : List Bool} {n : Int} (h : ¬ freeI l < n) (hn : ((thoseF l false l.length).length : Int) ≤ n) : takeF l n = thoseF l false l.length := by
  unfold takeF
  unfold freeI at h
  exact List.take_of_length_le (by omega)
theorem then_only {F : Fence} {n : Nat} {P : Program} {c : Code} {K : Act → World → Prop} {Q : Exit → Act → World → Prop} {a : Act} {w : World} (h : c.wpIn F n P (Exit.then K (fun _ _ _ => False)) a w) : c.wpIn F n P (Exit.then K Q) a w :=
  wpIn_mono h (fun e a w h => by cases e <;> first | exact h | exact h.elim)
set_option maxRecDepth 100000 in
set_option maxHeartbeats 4000000 in
theorem take_walk (A0 : Option Addr) (c0 : Nat) (l0 : List Bool) (n : Int) (w : World) (hr0 : Kd.C Kd.bool w A0 l0.length l0) (hc0 : l0.length ≤ c0) (hl : l0.length ≤ 17592186043904) (r1 : List Bool) (r2 : List Int) (r3 : Int) (h : space_Take.f l0 n = some (r1, r2, r3)) :
    CallsIn Fence.wide 3 Try.prog 31 #[.slice A0 l0.length c0, .int .i64 n] w fun e w' => ∃ v0_ v1_ : Value, e = .returned (.tuple #[v0_, v1_, .int .i64 r3]) ∧ Kd.R Kd.bool 4 w' w.heap.size (fun _ => True) v0_ r1 ∧ Kd.R (Kd.int .i64) 3 w' w.heap.size (fun _ => True) v1_ r2 ∧ Below w.heap.size w w' := by
  unfold space_Take.f at h
  rw [if_pos hl] at h
  have h := Option.some.inj h
  have hro : Fence.wide.round = none := rfl
  have h1 : 1 ≤ 3 := by decide
  have hRd := reads_stay hr0
  have hmx : Try.prog.follows .mixedOrders = true := by kernel_rfl
  obtain ⟨i0, hi, hz0, hz1, hz2⟩ := info_parts info3
  have hbox : Below w.heap.size w (w.alloc (.cells #[.int .i64 n] 3)) := (Below.refl _ w).alloc (Nat.le_refl _) _
  have hclone := slices_Clone_bool_bool.calls A0 c0 l0 l0 (w.alloc (.cells #[.int .i64 n] 3)) (Kd.C_below hr0 hbox) hc0 (by unfold slices_Clone_bool_bool.f; rw [if_pos (by omega)])
  have HCL := Aside0.mk hclone
  have HBX := Aside0.mk hbox
  have HRD := Aside0.mk hRd
  have HR0 := Aside0.mk hr0
  have HC0 := Aside0.mk hc0
  have HL := Aside0.mk hl
  clear hclone hRd hbox hr0 hc0 hl
  by_cases c1 : n < 0
  · rw [if_pos c1] at h
    simp only [Option.some.injEq, Prod.mk.injEq] at h
    obtain ⟨rfl, rfl, rfl⟩ := h
    refine callsIn_of_wp_marks Try.func31 rfl trivial ?_ hro
    simp only [Try.ntmps31, List.size_toArray, List.length_cons, List.length_nil, Nat.reduceAdd, Nat.reduceSub, Array.replicate_succ, Array.replicate_zero, List.push_toArray, List.append_toArray, List.nil_append, List.cons_append]
    gi_wp2_with (refine ⟨trivial, ?_⟩; gi_at_call 59; refine (callsIn_wide.2 HCL.out).mono ?_; rintro e w1 ⟨v0, rfl, hrow, hb⟩; obtain ⟨Ao, co, rfl⟩ := Kd.R_slice hrow; have hz : w.heap.size < w1.heap.size := (by have := hb.size; simp at this; omega); have cN : w1.cell? ⟨w.heap.size, 0, none⟩ = some (.int .i64 n) := ((hb.block w.heap.size (by simp)).trans (blk_new w _) |> fun hh => by rw [blk_cell hh]; rfl); have HRW := Aside0.mk hrow; have HBW := Aside0.mk hb; clear hrow hb)
    exact ⟨_, results_tmp3 rfl _ _ _, _, _, rfl, Kd.R_alloc (Kd.R_lower HRW.out (by simp)) _, Kd.R_nil _ _ _ _ _, (HBX.out.trans (HBW.out.mono (by simp))).alloc (by omega) _⟩
  · rw [if_neg c1] at h
    have hfree := fun (W : World) (hb : Below w.heap.size w W) => space_Free.calls A0 c0 l0 (freeI l0) W (Kd.C_below HR0.out hb) HC0.out (by unfold space_Free.f; rw [if_pos (by have := HL.out; omega)])
    have HFR := Aside0.mk hfree
    clear hfree
    by_cases c2 : freeI l0 < n
    · rw [if_pos c2] at h
      simp only [Option.some.injEq, Prod.mk.injEq] at h
      obtain ⟨rfl, rfl, rfl⟩ := h
      refine callsIn_of_wp_marks Try.func31 rfl trivial ?_ hro
      simp only [Try.ntmps31, List.size_toArray, List.length_cons, List.length_nil, Nat.reduceAdd, Nat.reduceSub, Array.replicate_succ, Array.replicate_zero, List.push_toArray, List.append_toArray, List.nil_append, List.cons_append]
      gi_wp2_with (refine ⟨trivial, ?_⟩; gi_at_call 59; refine (callsIn_wide.2 HCL.out).mono ?_; rintro e w1 ⟨v0, rfl, hrow, hb⟩; obtain ⟨Ao, co, rfl⟩ := Kd.R_slice hrow; have hz : w.heap.size < w1.heap.size := (by have := hb.size; simp at this; omega); have cN : w1.cell? ⟨w.heap.size, 0, none⟩ = some (.int .i64 n) := ((hb.block w.heap.size (by simp)).trans (blk_new w _) |> fun hh => by rw [blk_cell hh]; rfl); have HRW := Aside0.mk hrow; have HBW := Aside0.mk hb; clear hrow hb)
      have hB2 : Below w.heap.size w (w1.alloc (.cells #[.slice Ao l0.length co] 45)) := (HBX.out.trans (HBW.out.mono (by simp))).alloc (by omega) _
      have HB2 := Aside0.mk hB2
      have cN' : (w1.alloc (.cells #[.slice Ao l0.length co] 45)).cell? ⟨w.heap.size, 0, none⟩ = some (.int .i64 n) := ((World.grownBy_alloc w1 (.cells #[.slice Ao l0.length co] 45) none) |> fun g => (World.cell?_of_block (a := ⟨w.heap.size, 0, none⟩) (g.block w.heap.size hz (by simp))).trans cN)
      have bO := Boxed.new w1 45 (.slice Ao l0.length co)
      clear hB2
      refine then_only ?_
      gi_region_with_o (refine ⟨trivial, ?_⟩; gi_at_call 37; refine (callsIn_wide.2 (HFR.out _ (by first | exact HB2.out | exact below_drew1 HB2.out | exact pw_below_drewN HB2.out _))).mono ?_; rintro e w2 ⟨rfl, hb⟩; have cN2 := (hb.cell (p := ⟨w.heap.size, 0, none⟩) (by simp; omega)).trans cN'; have bO2 : Boxed w2 w1.heap.size 45 (.slice Ao l0.length co) := (hb.block w1.heap.size (by simp)).trans bO; have hb' : Below (w1.heap.size + 1) (w1.alloc (.cells #[.slice Ao l0.length co] 45)) w2 := (by have hh : Below (w1.alloc (.cells #[.slice Ao l0.length co] 45)).heap.size (w1.alloc (.cells #[.slice Ao l0.length co] 45)) w2 := (by first | exact hb | exact (Below.refl _ _).drew.trans hb | exact (pw_below_drewN (Below.refl _ _) _).trans hb); simpa using hh); clear hb; have hs2 : w1.heap.size + 1 ≤ w2.heap.size := (by have := hb'.size; simpa using this); have hR2 : Kd.R Kd.bool 4 w2 w.heap.size (fun _ => True) (.slice Ao l0.length co) l0 := Kd.R_lower (Kd.R_below (Kd.R_alloc HRW.out _) (hb'.mono (by simp))) (by simp); have HR2 := Aside0.mk hR2; have HB3 := Aside0.mk (HB2.out.trans (hb'.mono (by omega))); clear hb' hR2)
      all_goals (have cO2 := bO2.cell)
      all_goals gi_wp2
      all_goals exact ⟨_, results_tmp3 rfl _ _ _, _, _, rfl, HR2.out, Kd.R_nil _ _ _ _ _, HB3.out⟩
    · rw [if_neg c2] at h
      simp only [Option.some.injEq, Prod.mk.injEq] at h
      obtain ⟨rfl, rfl, rfl⟩ := h
      have C2 := Aside0.mk c2
      refine callsIn_of_wp_marks Try.func31 rfl trivial ?_ hro
      simp only [Try.ntmps31, List.size_toArray, List.length_cons, List.length_nil, Nat.reduceAdd, Nat.reduceSub, Array.replicate_succ, Array.replicate_zero, List.push_toArray, List.append_toArray, List.nil_append, List.cons_append]
      gi_wp2_with (refine ⟨trivial, ?_⟩; gi_at_call 59; refine (callsIn_wide.2 HCL.out).mono ?_; rintro e w1 ⟨v0, rfl, hrow, hb⟩; obtain ⟨Ao, co, rfl⟩ := Kd.R_slice hrow; have hz : w.heap.size < w1.heap.size := (by have := hb.size; simp at this; omega); have cN : w1.cell? ⟨w.heap.size, 0, none⟩ = some (.int .i64 n) := ((hb.block w.heap.size (by simp)).trans (blk_new w _) |> fun hh => by rw [blk_cell hh]; rfl); have bN : Boxed w1 w.heap.size 3 (.int .i64 n) := (hb.block w.heap.size (by simp)).trans (Boxed.new w _ _); have HRW := Aside0.mk hrow; have HBW := Aside0.mk hb; clear hrow hb)
      have hB2 : Below w.heap.size w (w1.alloc (.cells #[.slice Ao l0.length co] 45)) := (HBX.out.trans (HBW.out.mono (by simp))).alloc (by omega) _
      have HB2 := Aside0.mk hB2
      have cN' : (w1.alloc (.cells #[.slice Ao l0.length co] 45)).cell? ⟨w.heap.size, 0, none⟩ = some (.int .i64 n) := ((World.grownBy_alloc w1 (.cells #[.slice Ao l0.length co] 45) none) |> fun g => (World.cell?_of_block (a := ⟨w.heap.size, 0, none⟩) (g.block w.heap.size hz (by simp))).trans cN)
      have bO := Boxed.new w1 45 (.slice Ao l0.length co)
      clear hB2
      refine then_only ?_
      gi_region_with_o (refine ⟨trivial, ?_⟩; gi_at_call 37; refine (callsIn_wide.2 (HFR.out _ (by first | exact HB2.out | exact below_drew1 HB2.out | exact pw_below_drewN HB2.out _))).mono ?_; rintro e w2 ⟨rfl, hb⟩; have cN2 := (hb.cell (p := ⟨w.heap.size, 0, none⟩) (by simp; omega)).trans cN'; have bN2 : Boxed w2 w.heap.size 3 (.int .i64 n) := (hb.block w.heap.size (by simp; omega)).trans (bN.alloc _); have bO2 : Boxed w2 w1.heap.size 45 (.slice Ao l0.length co) := (hb.block w1.heap.size (by simp)).trans bO; have hb' : Below (w1.heap.size + 1) (w1.alloc (.cells #[.slice Ao l0.length co] 45)) w2 := (by have hh : Below (w1.alloc (.cells #[.slice Ao l0.length co] 45)).heap.size (w1.alloc (.cells #[.slice Ao l0.length co] 45)) w2 := (by first | exact hb | exact (Below.refl _ _).drew.trans hb | exact (pw_below_drewN (Below.refl _ _) _).trans hb); simpa using hh); clear hb; have hs2 : w1.heap.size + 1 ≤ w2.heap.size := (by have := hb'.size; simpa using this); have hR2 : Kd.R Kd.bool 4 w2 w.heap.size (fun _ => True) (.slice Ao l0.length co) l0 := Kd.R_lower (Kd.R_below (Kd.R_alloc HRW.out _) (hb'.mono (by simp))) (by simp); have HR2 := Aside0.mk hR2; have HB3 := Aside0.mk (HB2.out.trans (hb'.mono (by omega))); clear hb' hR2)
      all_goals (have cO2 := bO2.cell)
      all_goals gi_wp2_with (refine ⟨trivial, ?_⟩; gi_at_call 60; refine (those_in _ _ _ _ _ _).mono ?_; rintro e w' ⟨rfl, rfl⟩)
      all_goals (
        have hBall : Below w.heap.size w (((w2.alloc (.cells #[.slice none 0 0] 37)).alloc (.cells #[.slice A0 l0.length c0] 45)).alloc (.cells #[.bool false] 4)) := ((HB3.out.alloc (by omega) _).alloc (by simp; omega) _).alloc (by simp; omega) _
        have bA := Boxed.new w2 37 (.slice none 0 0)
        have bU := Boxed.new (w2.alloc (.cells #[.slice none 0 0] 37)) 45 (.slice A0 l0.length c0)
        have bI := Boxed.new ((w2.alloc (.cells #[.slice none 0 0] 37)).alloc (.cells #[.slice A0 l0.length c0] 45)) 4 (.bool false)
        rw [World.size_alloc] at bU
        rw [World.size_alloc, World.size_alloc] at bI
        have hRow := Kd.own_of_R HR2.out
        have hI0 : TakeI w w1.heap.size w2.heap.size (w2.heap.size + 3) (.slice Ao l0.length co) n l0 [] (((w2.alloc (.cells #[.slice none 0 0] 37)).alloc (.cells #[.slice A0 l0.length c0] 45)).alloc (.cells #[.bool false] 4)) :=
          ⟨((bO2.alloc _).alloc _).alloc _, by simpa [setAll] using ((hRow.alloc _).alloc _).alloc _, ((bN2.alloc _).alloc _).alloc _, ⟨_, (bA.alloc _).alloc _, World.ownsRow_nil _ _ _ _⟩, by simpa using c1, hBall, by simp⟩
        refine wpIn_rangeFunc_ownG hro h1 (gf := 70) (lb := #[.pointer (some ⟨w2.heap.size + 1, 0, none⟩), .pointer (some ⟨w2.heap.size + 1 + 1, 0, none⟩)]) rfl trivial (enters_of Try.func70 (by kernel_rfl) rfl)
          (those_stops (3 - 1) (by decide) (w2.heap.size + 1) (w2.heap.size + 1 + 1) w.heap.size A0 c0 l0 false (by have := HL.out; omega) _ (by simp) (by simp) (bU.alloc _).cell bI (by simp; omega) (fun W hb => HRD.out W (hBall.trans hb)))
          kpT_t (kpT_b (by simp; omega) (by simp)) (Below.refl _ _) (fun _ => rfl)
          (TakeI w w1.heap.size w2.heap.size (w2.heap.size + 3) (.slice Ao l0.length co) n l0)
          (fun c pre W => c = .exit 1 ∧ (pre.length : Int) = n + 1 ∧ TakeI w w1.heap.size w2.heap.size (w2.heap.size + 3) (.slice Ao l0.length co) n l0 pre.dropLast W)
          (takeI_own (by simp; omega))
          (fun _ s X Y row h hg hr => ⟨h.1, h.2.1, takeI_own (B := w.heap.size) (Nat.le_refl _) _ _ _ _ h.2.2 hg (fun r e => ⟨by have := (hr r e).1; simp at this; omega, (hr r e).2⟩)⟩)
          hI0
          (fun x => { tmps := #[.slice A0 l0.length c0, .int .i64 n, undef, .pointer (some ⟨w.heap.size, 0, none⟩), .slice none 0 0, .slice none 0 0, .int .i64 0, .pointer (some ⟨w1.heap.size, 0, none⟩), .pointer (some ⟨w2.heap.size, 0, none⟩), .int .i64 (x.val : Int), .slice A0 l0.length c0, .slice Ao l0.length co, .bool (decide (n < 0)), .int .i64 n, .bool (decide (n < 0)), undef, .bool false, .slice A0 l0.length c0, .int .i64 (freeI l0), .int .i64 n, .bool false, undef, .slice A0 l0.length c0, .func (.func 70) #[] #[.pointer (some ⟨w2.heap.size + 1, 0, none⟩), .pointer (some ⟨w2.heap.size + 1 + 1, 0, none⟩)], .int .i64 (x.val : Int), undef, undef, undef, undef, undef, undef, undef, undef, undef, undef, undef, undef, undef], defers := [] }) ?assign ?body ?done ?stop
        case assign =>
          intro L x W K hK
          gi_wp2
          exact hK
        case body =>
          rintro L pre x W hI hlt
          obtain ⟨v, hv, hrow⟩ := hI.at_
          have hvc := hv.cell
          have hnc := hI.nb.cell
          obtain ⟨A2, k2, hvf⟩ := row_form hrow
          have hl0 : 0 < l0.length := by have := x.isLt; omega
          obtain ⟨g, hAo⟩ : ∃ g, Ao = some ⟨g, 0, none⟩ := by
            rcases hI.row.2 with ⟨_, h0⟩ | ⟨g, cap, cur, e, _⟩
            · omega
            · injection e with e; exact ⟨g, e⟩
          subst hAo
          have hg2 : g < w2.heap.size := by
            rcases hRow.2 with ⟨_, h0⟩ | ⟨g', cap, cur, e, _, hh, _⟩
            · omega
            · injection e with e; injection e with e; injection e with e; rw [e]; exact (Array.getElem?_eq_some_iff.1 hh).1
          subst hvf
          have hxl := x.isLt
          dsimp only
          by_cases hq : (pre.length : Int) = n
          · have hb : ((pre.length : Int) == n) = true := by simpa using hq
            gi_wp2
            refine ⟨KeepsFrom.refl _ _, rfl, by simp; omega, by simpa using hI⟩
          · have hb : ((pre.length : Int) == n) = false := by simpa using hq
            have hle := hI.le
            have hsz := hI.sz
            have hL := HL.out
            gi_wp2_with (gi_at_builtin; refine wpListIn_append_own _ rfl _ _ 37 rfl (w2.heap.size + 3) 3 i0 (.int .i64 0) 1 8 Try.underlying37 hi hz0 hz1 hz2 rfl (by decide) _ _ _ rfl (hrow.alloc _) ⟨W.heap.size, 0, none⟩ 1 1 [.int .i64 (x.val : Int)] rfl rfl (cell_one_new _ _ _) (by simp [Value.oneCell']) (by unfold maxLen; omega) (by omega) (by simp; omega) ?_; intro v' w5 hown' hgrow _; obtain ⟨g', cap', rfl⟩ := ownsRow_succ hown'; obtain ⟨⟨hc1, hf1, hc2, hc3, hf3⟩, hk, hbi, hbel, hT⟩ := takeI_step hI hg2 (by omega) (by omega) (by omega) (by omega) hv hrow hown' hgrow)
            exact ⟨hk.from _, ⟨hbel, hbi _ (by omega) (by omega)⟩, hT⟩
        case done =>
          rintro D ys W hD rfl hT hK
          obtain ⟨v, hv, hrow⟩ := hT.at_
          obtain ⟨A2, k2, rfl⟩ := row_form hrow
          have hvc := hv.cell
          have hoc := hT.out.cell
          have e1 := takeF_done (by have := C2.out; omega) hT.le
          have hend := fun o' => takeI_end hT (by omega) hrow (o' := o') (Nat.le_trans (by simp; omega) hD) hK rfl rfl
          rw [← e1] at hend hvc
          have HEND := Aside0.mk hend
          have HK := Aside0.mk hK
          clear hend hT hrow e1 hv hI0
          obtain ⟨m, hm⟩ : ∃ m, (takeF l0 n).length = m := ⟨_, rfl⟩
          rw [hm] at HEND hvc
          clear hm
          gi_wp2
          refine then_only ?_
          gi_region_o
          all_goals gi_wp2
          all_goals (refine ⟨by simp, .inl ⟨_, _, rfl, run_takeDeferred (w := W.drew) HK.out, ?_⟩⟩)
          all_goals exact ⟨_, results_tmp3 rfl _ _ _, _, _, rfl, (HEND.out _).1, (HEND.out _).2.1, (HEND.out _).2.2⟩
        case stop =>
          rintro D c pre W hD ⟨k, hk, hp⟩ ⟨rfl, hn, hT⟩ hK
          obtain ⟨v, hv, hrow⟩ := hT.at_
          obtain ⟨A2, k2, rfl⟩ := row_form hrow
          have hvc := hv.cell
          have hoc := hT.out.cell
          have e1 := takeF_stop hk hp hn
          have hend := fun o' => takeI_end hT (by omega) hrow (o' := o') (Nat.le_trans (by simp; omega) hD) hK rfl rfl
          rw [← e1] at hend hvc
          have HEND := Aside0.mk hend
          have HK := Aside0.mk hK
          clear hend hT hrow e1 hv hI0
          obtain ⟨m, hm⟩ : ∃ m, (takeF l0 n).length = m := ⟨_, rfl⟩
          rw [hm] at HEND hvc
          clear hm
          gi_wp2
          refine then_only ?_
          gi_region_o
          all_goals gi_wp2
          all_goals (refine ⟨by simp, .inl ⟨_, _, rfl, run_takeDeferred (w := W.drew) HK.out, ?_⟩⟩)
          all_goals exact ⟨_, results_tmp3 rfl _ _ _, _, _, rfl, (HEND.out _).1, (HEND.out _).2.1, (HEND.out _).2.2⟩)
theorem space_Take.calls (A0 : Option Addr) (c0 : Nat) (l0 : List Bool) (a1 : Int) (r1 : List Bool) (r2 : List Int) (r3 : Int) (w : World) (hr0 : Kd.C Kd.bool w A0 l0.length l0) (hc0 : l0.length ≤ c0) (h : space_Take.f l0 a1 = some (r1, r2, r3)) :
    Calls Try.prog 31 #[.slice A0 l0.length c0, .int .i64 a1] w fun e w' => ∃ v0_ v1_ : Value, e = .returned (.tuple #[v0_, v1_, .int .i64 r3]) ∧ Kd.R Kd.bool 4 w' w.heap.size (fun _ => True) v0_ r1 ∧ Kd.R (Kd.int .i64) 3 w' w.heap.size (fun _ => True) v1_ r2 ∧ Below w.heap.size w w' := by
  have hl : l0.length ≤ 17592186043904 := by
    unfold space_Take.f at h
    by_cases hl : l0.length ≤ 17592186043904
    · exact hl
    · rw [if_neg hl] at h; cases h
  exact callsIn_wide.1 (take_walk A0 c0 l0 a1 w hr0 hc0 hl r1 r2 r3 h)
end Go.Proofs.Ytgiljibkjccgfaa.G
