/- locate's find over this seat's program. Conditions: each lemma's own. -/
import Derived.Test.YteiiaonpdamkhaaDoorLocMay
namespace Go.Proofs.YteiiaonpdamkhaaDoor.G
open Go.RowKit Go.Proofs.YteiiaonpdamkhaaDoorW.PrintWords Go.Proofs.YteiiaonpdamkhaaDoorW.PrintLast Go.Proofs.YteiiaonpdamkhaaDoorW.PrintMore
set_option linter.unusedVariables false
set_option linter.unusedSimpArgs false
attribute [local go_sem] Oper.semAt_some
theorem then_only {F : Fence} {n : Nat} {P : Program} {c : Code} {K : Act → World → Prop} {Q : Exit → Act → World → Prop} {a : Act} {w : World} (h : c.wpIn F n P (Exit.then K (fun _ _ _ => False)) a w) : c.wpIn F n P (Exit.then K Q) a w :=
  Code.wpIn_mono (fun e a w h => by cases e <;> first | exact h | exact h.elim) h
def lastM (pre : List (Int × ByteArray)) : Int × ByteArray := pre.getLastD (0, ⟨#[]⟩)
theorem lastM_snoc (pre : List (Int × ByteArray)) (x : Int × ByteArray) : lastM (pre ++ [x]) = x := by unfold lastM; simp [List.getLastD_eq_getLast?]
/-- What find tells. -/
noncomputable def findR (kn mn : Nat) (O : List ByteArray) : Int × ByteArray × Int := if (mayL kn mn O).length = 1 then ((lastM (mayL kn mn O)).1, (lastM (mayL kn mn O)).2, 0) else (0, ⟨#[]⟩, 10)
def FindI (w : World) (b0 : Nat) (pre : List (Int × ByteArray)) (W : World) : Prop := (Boxed W b0 3 (.int .i64 (lastM pre).1) ∧ Boxed W (b0 + 1) 9 (.string (lastM pre).2) ∧ Boxed W (b0 + 2) 3 (.int .i64 (pre.length : Int))) ∧ Below b0 w W
theorem may_in (n g : Nat) (w : World) :
    CallsIn Fence.wide n Tryd.prog 44 #[.pointer (some ⟨g, 0, none⟩)] w fun e w' => e = .returned (.func (.func 55) #[] #[.pointer (some ⟨w.heap.size, 0, none⟩)]) ∧ w' = w.alloc (.cells #[.pointer (some ⟨g, 0, none⟩)] 43) := by
  refine callsIn_of_wp Tryd.func44 rfl trivial ?_ rfl
  simp only [Tryd.ntmps44, List.size_toArray, List.length_cons, List.length_nil, Nat.reduceAdd, Nat.reduceSub, Array.replicate_succ, Array.replicate_zero, List.push_toArray, List.append_toArray, List.nil_append, List.cons_append]
  gi_wp2
  go_ret
  exact ⟨rfl, rfl⟩
set_option maxRecDepth 100000 in
set_option maxHeartbeats 4000000 in
theorem find_calls (g kn mn : Nat) (P O : List ByteArray) (w : World) (hC : Clue w g kn mn P O) (hk : 1 ≤ kn) (hm : 1 ≤ mn) (hkm : kn + mn ≤ 255) (hO : O.length = mn) (hs : ∀ i : Nat, i < O.length → (txt O i).size ≤ 1099511627776) :
    Calls Tryd.prog 26 #[.pointer (some ⟨g, 0, none⟩)] w fun e w' => e = .returned (.tuple #[.int .i64 (findR kn mn O).1, .string (findR kn mn O).2.1, .int .i64 (findR kn mn O).2.2]) ∧ Below w.heap.size w w' := by
  refine (callsIn_wide (n := 3)).1 ?_
  have hro : Fence.wide.round = none := rfl
  have h1 : 1 ≤ 3 := by decide
  have hmx : Tryd.prog.follows .mixedOrders = true := by kernel_rfl
  have HC := Aside0.mk hC
  have HS := Aside0.mk hs
  have HOL := Aside0.mk hO
  have HKM := Aside0.mk hkm
  clear hC hs hO hkm
  refine callsIn_of_wp_marks Tryd.func26 rfl trivial ?_ hro
  simp only [Tryd.ntmps26, List.size_toArray, List.length_cons, List.length_nil, Nat.reduceAdd, Nat.reduceSub, Array.replicate_succ, Array.replicate_zero, List.push_toArray, List.append_toArray, List.nil_append, List.cons_append]
  gi_wp2_with (refine ⟨trivial, ?_⟩; gi_at_call 44; refine (may_in _ _ _).mono ?_; rintro e w' ⟨rfl, rfl⟩)
  have hB0 : Below w.heap.size w ((((w.alloc (.cells #[.int .i64 0] 3)).alloc (.cells #[.string ⟨#[]⟩] 9)).alloc (.cells #[.int .i64 0] 3)).alloc (.cells #[.pointer (some ⟨g, 0, none⟩)] 43)) := (((Below.refl _ w).alloc (Nat.le_refl _) _).alloc (by simp) _).alloc (by simp; omega) _ |>.alloc (by simp; omega) _
  have bA := Boxed.new w 3 (.int .i64 0)
  have bH := Boxed.new (w.alloc (.cells #[.int .i64 0] 3)) 9 (.string ⟨#[]⟩)
  have bN := Boxed.new ((w.alloc (.cells #[.int .i64 0] 3)).alloc (.cells #[.string ⟨#[]⟩] 9)) 3 (.int .i64 0)
  have bC := Boxed.new (((w.alloc (.cells #[.int .i64 0] 3)).alloc (.cells #[.string ⟨#[]⟩] 9)).alloc (.cells #[.int .i64 0] 3)) 43 (.pointer (some ⟨g, 0, none⟩))
  rw [World.size_alloc] at bH
  rw [World.size_alloc, World.size_alloc] at bN
  rw [World.size_alloc, World.size_alloc, World.size_alloc] at bC
  refine wpIn_rangeFunc_ownG hro h1 (gf := 55) (lb := #[.pointer (some ⟨w.heap.size + 1 + 1 + 1, 0, none⟩)]) rfl trivial (enters_of Tryd.func55 (by kernel_rfl) rfl)
    (may_stops (3 - 1) (by decide) (w.heap.size + 1 + 1 + 1) w.heap.size g kn mn P O w _ rfl HC.out hB0 bC (by omega) hk hm HKM.out HOL.out HS.out)
    kpL_t (kpL_b (by simp; omega)) (Below.refl _ _) (fun _ => rfl)
    (FindI w w.heap.size)
    (fun _ _ _ => False)
    (OwnFrom.and (OwnFrom.and (Own.from (boxed_own w.heap.size 3 (fun pre : List (Int × ByteArray) => .int .i64 (lastM pre).1)) _) (OwnFrom.and (Own.from (boxed_own (w.heap.size + 1) 9 (fun pre : List (Int × ByteArray) => .string (lastM pre).2)) _) (Own.from (boxed_own (w.heap.size + 2) 3 (fun pre : List (Int × ByteArray) => .int .i64 (pre.length : Int))) _))) (ownFrom_below (Nat.le_refl _) (by simp; omega)))
    (fun _ _ _ _ _ hs _ _ => hs)
    ⟨⟨((bA.alloc _).alloc _).alloc _, (bH.alloc _).alloc _, bN.alloc _⟩, hB0⟩
    (fun x => { tmps := #[.pointer (some ⟨g, 0, none⟩), undef, .int .i64 0, .string ⟨#[]⟩, .int .i64 0, .pointer (some ⟨w.heap.size, 0, none⟩), .pointer (some ⟨w.heap.size + 1, 0, none⟩), .pointer (some ⟨w.heap.size + 1 + 1, 0, none⟩), .int .i64 x.1, .string x.2, .pointer (some ⟨g, 0, none⟩), .func (.func 55) #[] #[.pointer (some ⟨w.heap.size + 1 + 1 + 1, 0, none⟩)], .int .i64 x.1, .string x.2, undef, undef, undef, undef, undef, undef, undef, undef], defers := [] }) ?assign ?body ?done ?stop
  case assign =>
    intro l x W K hK
    gi_wp2
    exact hK
  case body =>
    rintro l pre x W ⟨⟨bA, bH, bN⟩, hB⟩ hlt
    have a1 := bA.cell
    have a2 := bA.frozen
    have a3 := bH.cell
    have a4 := bH.frozen
    have a5 : W.cell? ⟨w.heap.size + 1 + 1, 0, none⟩ = some (.int .i64 (pre.length : Int)) := bN.cell
    have a6 : W.frozen? ⟨w.heap.size + 1 + 1, 0, none⟩ = false := bN.frozen
    have hn1 : wrap64 ((pre.length : Int) + 1) = (pre.length : Int) + 1 := by unfold wrap64; have := HKM.out; omega
    gi_wp2
    refine ⟨(((KeepsOthers.setCell _ _ _).trans (KeepsOthers.setCell _ _ _)).trans (KeepsOthers.setCell _ _ _)).from _, ⟨?_, fun k hk cs t fr e => ?_⟩, ⟨?_, ?_, ?_⟩, ?_⟩
    · exact (((Below.refl w.heap.size W).setCell (p := ⟨w.heap.size, 0, none⟩) (Nat.le_refl _) _).setCell (p := ⟨w.heap.size + 1, 0, none⟩) (Nat.le_succ _) _).setCell (p := ⟨w.heap.size + 1 + 1, 0, none⟩) (by show w.heap.size ≤ w.heap.size + 1 + 1; omega) _
    · rw [Below.heap_setCell _ _ _ _ (by show k ≠ w.heap.size + 1 + 1; omega), Below.heap_setCell _ _ _ _ (by show k ≠ w.heap.size + 1; omega), Below.heap_setCell _ _ _ _ (by show k ≠ w.heap.size; omega)]
      exact e
    · rw [lastM_snoc]
      have := bA.set (.int .i64 x.1)
      exact blk_far (blk_far this (by show w.heap.size ≠ w.heap.size + 1; omega) _) (by show w.heap.size ≠ w.heap.size + 1 + 1; omega) _
    · rw [lastM_snoc]
      have hb1 : Boxed (W.setCell ⟨w.heap.size, 0, none⟩ (.int .i64 x.1)) (w.heap.size + 1) 9 (.string (lastM pre).2) := blk_far bH (by show w.heap.size + 1 ≠ w.heap.size; omega) _
      have := hb1.set (.string x.2)
      exact blk_far this (by show w.heap.size + 1 ≠ w.heap.size + 1 + 1; omega) _
    · have hb1 : Boxed ((W.setCell ⟨w.heap.size, 0, none⟩ (.int .i64 x.1)).setCell ⟨w.heap.size + 1, 0, none⟩ (.string x.2)) (w.heap.size + 2) 3 (.int .i64 (pre.length : Int)) := blk_far (blk_far bN (by show w.heap.size + 2 ≠ w.heap.size; omega) _) (by show w.heap.size + 2 ≠ w.heap.size + 1; omega) _
      have := hb1.set (.int .i64 ((pre.length : Int) + 1))
      rw [List.length_append, List.length_cons, List.length_nil]
      exact this
    · exact ((hB.setCell (p := ⟨w.heap.size, 0, none⟩) (Nat.le_refl _) _).setCell (p := ⟨w.heap.size + 1, 0, none⟩) (Nat.le_succ _) _).setCell (p := ⟨w.heap.size + 1 + 1, 0, none⟩) (by show w.heap.size ≤ w.heap.size + 1 + 1; omega) _
  case done =>
    rintro D ys W hD rfl ⟨⟨bA, bH, bN⟩, hB⟩ hK
    have a1 := bA.cell
    have a3 := bH.cell
    have a5 : W.cell? ⟨w.heap.size + 1 + 1, 0, none⟩ = some (.int .i64 ((mayL kn mn O).length : Int)) := bN.cell
    have q1 : W.drew.cell? ⟨w.heap.size, 0, none⟩ = some (.int .i64 (lastM (mayL kn mn O)).1) := a1
    have q3 : W.drew.cell? ⟨w.heap.size + 1, 0, none⟩ = some (.string (lastM (mayL kn mn O)).2) := a3
    have HK := Aside0.mk hK
    have HB := Aside0.mk hB
    have hfr : findR kn mn O = if (mayL kn mn O).length = 1 then ((lastM (mayL kn mn O)).1, (lastM (mayL kn mn O)).2, 0) else (0, ⟨#[]⟩, 10) := rfl
    have hDw : w.heap.size ≤ D := Nat.le_trans hB0.size hD
    have HDW := Aside0.mk hDw
    obtain ⟨ml, hml⟩ : ∃ m, m = (mayL kn mn O).length := ⟨_, rfl⟩
    obtain ⟨la, hla⟩ : ∃ m, m = (lastM (mayL kn mn O)).1 := ⟨_, rfl⟩
    obtain ⟨lh, hlh⟩ : ∃ m, m = (lastM (mayL kn mn O)).2 := ⟨_, rfl⟩
    rw [← hml] at a5 hfr
    rw [← hla] at q1 hfr
    rw [← hlh] at q3 hfr
    clear bA bH bN hB hK a1 a3 hml hla hlh hB0
    by_cases hm1 : ml = 1
    · rw [if_pos hm1] at hfr
      have HFR := Aside0.mk hfr
      have b1 : ((ml : Int) != 1) = false := by rw [hm1]; rfl
      clear hfr hm1
      gi_wp2
      refine then_only ?_
      gi_region_o
      all_goals gi_wp2
      all_goals (refine ⟨by simp, .inl ⟨_, _, rfl, run_takeDeferred (w := W.drew) HK.out, ?_⟩⟩)
      all_goals (refine ⟨_, results_tmp3 rfl _ _ _, ?_, ?_⟩)
      all_goals first
        | (rw [HFR.out]; rfl)
        | exact HB.out.drew.trans (belowK_b (w := w) (Nat.le_refl _) W.drew D _ _ HDW.out HK.out rfl rfl)
    · rw [if_neg hm1] at hfr
      have HFR := Aside0.mk hfr
      have b1 : ((ml : Int) != 1) = true := bne_iff_ne.mpr (by omega)
      clear hfr hm1
      gi_wp2
      refine ⟨by simp, .inl ⟨_, _, rfl, run_takeDeferred (w := W) HK.out, ?_⟩⟩
      refine ⟨_, results_tmp3 rfl _ _ _, ?_, ?_⟩
      · rw [HFR.out]; rfl
      · exact HB.out.trans (belowK_b (w := w) (Nat.le_refl _) W D _ _ HDW.out HK.out rfl rfl)
  case stop =>
    rintro D c pre W _ _ h _
    exact h.elim
end Go.Proofs.YteiiaonpdamkhaaDoor.G
