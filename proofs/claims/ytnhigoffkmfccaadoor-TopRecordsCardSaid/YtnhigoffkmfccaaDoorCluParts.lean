/- cluster.parts (an iterator) over this seat's program. Conditions: each lemma's own. -/
import Derived.Test.YtnhigoffkmfccaaDoorDevFn
import Derived.Lib.Hide
import Derived.RangeFuncNested
import Derived.RangeFuncBound
import Derived.RangeFuncCalls
import Derived.RangeFuncLeaves
import Derived.Shelf.RegionOpen
import Derived.OwnWalkIn
import Derived.TacticsInMore
import Derived.LoopNIn
import Derived.LoopIn
import Derived.Sort.CutIn
namespace Go.Proofs.YtnhigoffkmfccaaDoor.G
open Go.RowKit Go.Shelf Go.ChangeMaps Go.MapKept Go.Proofs.YtnhigoffkmfccaaDoorW.PrintWords Go.Proofs.YtnhigoffkmfccaaDoorW.PrintLast Go.Proofs.YtnhigoffkmfccaaDoorW.PrintMore
set_option linter.unusedVariables false
set_option linter.unusedSimpArgs false
attribute [local go_sem] Oper.semAt_some
/-- What one round is handed: the number of a sector, and where it begins. -/
abbrev pencs {m : Nat} (i : Fin m) : Array Value := #[.int .i64 (i.val : Int), .int .i64 ((i.val : Int) * 512)]
theorem fin_take {m q : Nat} (h : q < m) : (List.finRange m).take (q + 1) = (List.finRange m).take q ++ [⟨q, h⟩] := by
  rw [List.take_succ_eq_append_getElem (by simpa using h)]
  simp
theorem fin_take_len {m q : Nat} (h : q ≤ m) : ((List.finRange m).take q).length = q := by simp; omega
theorem wrap_small (x : Int) (h0 : 0 ≤ x) (h1 : x ≤ 1125899906842624) : wrap64 x = x := by unfold wrap64; omega
theorem wrap_mul (q m : Nat) (h : q ≤ m) (hm : m ≤ 2147483648) : wrap64 ((q : Int) * 512) = (q : Int) * 512 := wrap_small _ (by omega) (by omega)
theorem wrap_inc (q m : Nat) (h : q ≤ m) (hm : m ≤ 2147483648) : wrap64 ((q : Int) + 1) = (q : Int) + 1 := wrap_small _ (by omega) (by omega)
theorem meas_inc {q m : Nat} (h : q < m) (e : wrap64 ((q : Int) + 1) = (q : Int) + 1) : m - (intOf (.int .i64 (wrap64 ((q : Int) + 1)))).toNat < m - (intOf (.int .i64 (q : Int))).toNat := by
  rw [e]
  show m - ((q : Int) + 1).toNat < m - ((q : Int)).toNat
  omega
def KpP (W W' : World) : Prop := True
theorem kpP_t {A B C : World} (_ : KpP A B) (_ : KpP B C) : KpP A C := trivial
theorem kpP_b {w : World} (W : World) (l : Nat) (o o' : Obj) (_ : w.heap.size ≤ l) (_ : W.heap[l]? = some o) (_ : o.isCells = false) (_ : o.isWalk = false) : KpP W (W.putObj l o') := trivial
set_option maxRecDepth 100000 in
set_option maxHeartbeats 2000000 in
theorem parts_stops (n : Nat) (hn : 1 ≤ n) (Bg k m z : Nat) (a b c d : Int) (hS : geom_Size.f k a b c d = some (z : Int)) (hm : z / 512 = m) (hz : z ≤ 1099511627776) (w : World) (hB : w.heap[Bg]? = some (.cells #[.int .i64 a, .int .i64 b, .int .i64 c, .int .i64 d] 23 (0, 0))) :
    SeqStopsK Fence.wide n Tryd.prog 45 #[.pointer (some ⟨Bg, 0, none⟩)] (pencs (m := m)) KpP (fun xs => xs = List.finRange m) (fun _ => True) m w := fun L J Jx W hW hJ hJx hY h0 => by
  have hBl : Bg < w.heap.size := blk_lt hB
  have hB1 : W.heap[Bg]? = some (.cells #[.int .i64 a, .int .i64 b, .int .i64 c, .int .i64 d] 23 (0, 0)) := (hW.block Bg hBl).trans hB
  have k0 : W.cell? ⟨Bg, 0, none⟩ = some (.int .i64 a) := by rw [blk_cell hB1]; rfl
  have k1 : W.cell? ⟨Bg, 1, none⟩ = some (.int .i64 b) := by rw [blk_cell hB1]; rfl
  have k2 : W.cell? ⟨Bg, 2, none⟩ = some (.int .i64 c) := by rw [blk_cell hB1]; rfl
  have k3 : W.cell? ⟨Bg, 3, none⟩ = some (.int .i64 d) := by rw [blk_cell hB1]; rfl
  have HS := Aside0.mk (fun W => geom_Size.calls k a b c d (z : Int) W hS)
  have HY := Aside0.mk hY
  have HJ := Aside0.mk hJ
  have HH0 := Aside0.mk h0
  have q1 : ((z : Int)).tdiv 512 = (m : Int) := by rw [Int.tdiv_eq_ediv_of_nonneg (by omega)]; omega
  have q2 : ((z : Int)) / 512 = (m : Int) := by omega
  have HM := Aside0.mk (show m ≤ 2147483648 by omega)
  have hz1 : (z : Int) ≤ 1099511627776 := by omega
  clear hS hW hY hJ hJx h0 hB hB1 hBl hm hz q1
  refine callsIn_of_wp Tryd.func45 rfl trivial ?_ rfl
  simp only [Tryd.ntmps45, List.size_toArray, List.length_cons, List.length_nil, Nat.reduceAdd, Nat.reduceSub, Array.replicate_succ, Array.replicate_zero, List.push_toArray, List.append_toArray, List.nil_append, List.cons_append]
  gi_wp2_with (refine ⟨trivial, ?_⟩; gi_at_call 22; refine (callsIn_wide.2 (HS.out _)).mono ?_; rintro e w1 ⟨rfl, hb⟩; have HJ1 := Aside0.mk (HJ.out _ W w1 none HH0.out (grown_of_below hb none) (fun r e => by cases e)); clear hb)
  clear q2 hz1
  gi_loopw [7] (fun i wr => ∃ q : Nat, Aside0 (q ≤ m) ∧ i = .int .i64 q ∧ Aside0 (J ((List.finRange m).take q) wr)) (fun i _ => m - (intOf i).toNat)
  case atStart => exact ⟨0, ⟨Nat.zero_le _⟩, rfl, HJ1⟩
  case round =>
    obtain ⟨q, HQ, rfl, HJs⟩ := hrel
    by_cases hlt : q < m
    · have c1 : decide ((q : Int) < (m : Int)) = true := decide_eq_true (by omega)
      have c2 : (q : Int) < (m : Int) := by omega
      have w1 := wrap_mul q m HQ.out HM.out
      have W2 := Aside0.mk (wrap_inc q m HQ.out HM.out)
      obtain ⟨fn, tmps, assign, body, hy, hRd⟩ := HY.out _ (⟨q, hlt⟩ : Fin m) wr HJs.out (by rw [fin_take_len (by omega)]; exact hlt)
      dsimp only [pencs] at hy
      have HLT := Aside0.mk hlt
      gi_wp2
      refine hRd.mono ?_
      rintro e W3 (⟨rfl, hJ3, hk3⟩ | ⟨rfl, hJx3⟩)
      · have HJ3 := Aside0.mk (show J ((List.finRange m).take (q + 1)) W3 by rw [fin_take HLT.out]; exact hJ3)
        clear hJ3 hk3
        gi_wp2
        go_roundw
        case rel => exact ⟨q + 1, ⟨HLT.out⟩, by first | rfl | (rw [W2.out]; rfl), HJ3⟩
        case measure => exact meas_inc HLT.out W2.out
      · gi_wp2
        refine bodyPost_ret (results_none rfl _ _ _) rfl ?_
        exact ⟨⟨_, rfl⟩, .inr ⟨_, trivial, hJx3⟩⟩
    · have hqe : q = m := by have := HQ.out; omega
      subst hqe
      have c1 : decide ((q : Int) < (q : Int)) = false := decide_eq_false (by omega)
      gi_wp2
      go_end0
      exact ⟨⟨_, rfl⟩, .inl ⟨_, List.take_of_length_le (by simp), HJs.out⟩⟩
theorem parts_in (n : Nat) (a b c d : Int) (w : World) :
    CallsIn Fence.wide n Tryd.prog 31 #[.agg #[.int .i64 a, .int .i64 b, .int .i64 c, .int .i64 d]] w fun e w' => e = .returned (.func (.func 45) #[] #[.pointer (some ⟨w.heap.size, 0, none⟩)]) ∧ w' = w.alloc (.cells #[.int .i64 a, .int .i64 b, .int .i64 c, .int .i64 d] 23) := by
  refine callsIn_of_wp Tryd.func31 rfl trivial ?_ rfl
  simp only [Tryd.ntmps31, List.size_toArray, List.length_cons, List.length_nil, Nat.reduceAdd, Nat.reduceSub, Array.replicate_succ, Array.replicate_zero, List.push_toArray, List.append_toArray, List.nil_append, List.cons_append]
  gi_wp2
  go_ret
  exact ⟨rfl, rfl⟩
end Go.Proofs.YtnhigoffkmfccaaDoor.G
