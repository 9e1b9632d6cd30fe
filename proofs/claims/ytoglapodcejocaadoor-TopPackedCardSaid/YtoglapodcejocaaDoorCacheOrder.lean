/- A cache's places in order, over this seat's program. Conditions: each lemma's own. -/
import Derived.Test.YtoglapodcejocaaDoorCacheDropAll
namespace Go.Proofs.YtoglapodcejocaaDoor.G
open Go.RowKit Go.Shelf Go.Proofs.YtoglapodcejocaaDoorW.PrintWords Go.Proofs.YtoglapodcejocaaDoorW.PrintLast Go.Proofs.YtoglapodcejocaaDoorW.PrintMore
set_option linter.unusedVariables false
set_option linter.unusedSimpArgs false
attribute [local go_sem] Oper.semAt_some
set_option maxRecDepth 100000
theorem roundIn_any {n n' l l' : Nat} {P : Program} {f : FuncId} {tmps : Array Value} {assign body : Code} {w : World} {R : Ending → World → Prop} (h : RoundIn Fence.wide n P l f tmps assign body w R) : RoundIn (Fence.wide.inRound l') n' P l f tmps assign body w R :=
  ⟨h.1, fun c cs _ => h.2 c cs (room_wide _)⟩
/-- A cache that nothing turns, and its pointer in a box. -/
def OrdR (P : Nat → Prop) (g m Bc : Nat) (room hit miss : Int) (bs : List Nat) (K : Nat → Pl) (V : Nat → ByteArray) (A N : Nat → Nat) (F : Pl → Option Nat) (W : World) : Prop :=
  Boxed W Bc 55 (ptr g) ∧ Cch P W g m room hit miss bs K V A N F
theorem ordR_all {P g m Bc room hit miss bs K V A N F} {Bi : Nat} {W : World} (h : OrdR P g m Bc room hit miss bs K V A N F W) (hb : Boxed W Bi 123 (ptr g)) (pre : List (Fin bs.length)) : AllR bs g Bi pre W := by
  have hc := h.2
  refine ⟨hb.cell, ⟨_, _, hc.rm.root⟩, fun q hq => ⟨fun e => ?_, fun hlt => ?_⟩⟩
  · have h1 := hc.lk.next_eq
    rw [show sq bs g 0 = N g from h1.symm]
    exact (hc.rm.next (.inl rfl)).1
  · have hl := hc.lk
    rw [show bs = bs.take q ++ bs[q] :: bs.drop (q + 1) from by rw [← List.drop_eq_getElem_cons hlt, List.take_append_drop]] at hl
    have h1 := (Lk.append.1 hl).2.next_eq
    rw [sq_next hlt] at h1
    rw [show sq bs g (q + 1) = N bs[q] from h1.symm]
    exact ⟨(hc.rm.next (.inr (List.getElem_mem hlt))).1, _, _, hc.rm.node _ (List.getElem_mem hlt)⟩
abbrev oencs (bs : List Nat) (K : Nat → Pl) (i : Fin bs.length) : Array Value := #[.agg #[.int .i64 (K bs[i.val]).1, .int .i64 (K bs[i.val]).2]]
set_option maxHeartbeats 4000000 in
theorem order_seq (P : Nat → Prop) (g m Bc : Nat) (room hit miss : Int) (bs : List Nat) (K : Nat → Pl) (V : Nat → ByteArray) (A N : Nat → Nat) (F : Pl → Option Nat) (hd : (bs ++ [g]).Nodup) (w : World) :
    SeqR Fence.wide 3 Tryd.prog 39 #[ptr Bc] (oencs bs K) (fun _ W => OrdR P g m Bc room hit miss bs K V A N F W) (AllX bs) (fun xs => xs = List.finRange bs.length) 4 w := fun L J W hW hJ hR hY h0 => by
  have hro : Fence.wide.round = none := rfl
  have h1 : 1 ≤ 3 := by decide
  have hfol : Tryd.prog.follows Departure.mixedOrders = true := by kernel_rfl
  have hr0 := hR _ _ h0
  obtain ⟨W1, hW1⟩ : ∃ W1, W1 = W.alloc (.cells #[.func (.yield L) #[] #[]] 100) := ⟨_, rfl⟩
  have b2 : Boxed W1 W.heap.size 100 (.func (.yield L) #[] #[]) := by rw [hW1]; exact blk_new W _
  have g1 : W.grownBy W1 none := by rw [hW1]; exact grown_of_below (below_alloc (Below.refl _ _) _) none
  have j1 : J [] W1 := hJ _ _ _ none h0 g1 (fun r e => by cases e)
  have k1 : W1.cell? ⟨Bc, 0, none⟩ = some (ptr g) := (hR _ _ j1).1.cell
  have HW1 := Aside0.mk hW1
  have HY := Aside0.mk hY
  have HR := Aside0.mk hR
  have HJ := Aside0.mk hJ
  have HB2 := Aside0.mk b2
  have HJ1 := Aside0.mk j1
  have HZ1 := Aside0.mk (show W1.heap.size = W.heap.size + 1 by rw [hW1]; simp)
  rw [hW1] at k1
  clear hW1 hW hY hR hJ h0 hr0 b2 g1 j1
  refine callsIn_of_wp_marks Tryd.func39 rfl trivial ?_ hro
  simp only [Tryd.ntmps39, List.size_toArray, List.length_cons, List.length_nil, Nat.reduceAdd, Nat.reduceSub, Array.replicate_succ, Array.replicate_zero, List.push_toArray, List.append_toArray, List.nil_append, List.cons_append]
  gi_wp2_with (refine ⟨trivial, ?_⟩; gi_at_call 40; refine (all_in _ _ _).mono ?_; rintro e w' ⟨rfl, rfl⟩)
  rw [← HW1.out]
  clear k1
  obtain ⟨W2, hW2⟩ : ∃ W2, W2 = W1.alloc (.cells #[ptr g] 123) := ⟨_, rfl⟩
  have hb2 : Below W1.heap.size W1 W2 := by rw [hW2]; exact below_alloc (Below.refl _ _) _
  have hbi : Boxed W2 (W.heap.size + 1) 123 (ptr g) := by
    have := blk_new W1 (.cells #[ptr g] 123)
    rw [HZ1.out, ← hW2] at this
    exact this
  have hz2 : W2.heap.size = W.heap.size + 2 := by rw [hW2]; simp [HZ1.out]
  rw [← hW2]
  have HW2 := Aside0.mk hW2
  clear hW2
  have hI0 : J [] W2 ∧ Boxed W2 W.heap.size 100 (.func (.yield L) #[] #[]) ∧ Boxed W2 (W.heap.size + 1) 123 (ptr g) :=
    ⟨HJ.out _ _ _ none HJ1.out (grown_of_below hb2 none) (fun r e => by cases e), (hb2.block _ (by rw [HZ1.out]; omega)).trans HB2.out, hbi⟩
  refine rangeFunc_R hro h1 (gf := 61) (lb := #[ptr (W.heap.size + 1)]) rfl trivial (enters_of Tryd.func61 (by kernel_rfl) rfl)
    (all_seq (3 - 1) (by decide) (W.heap.size + 1) g bs hd W2) (Below.refl _ _) (fun _ => rfl)
    (fun pre W' => J pre W' ∧ Boxed W' W.heap.size 100 (.func (.yield L) #[] #[]) ∧ Boxed W' (W.heap.size + 1) 123 (ptr g)) ?own (fun pre W' h => ordR_all (HR.out _ _ h.1) h.2.2 pre) hI0
    (fun x => { tmps := #[.func (.yield L) #[] #[], ptr Bc, ptr W.heap.size, ptr bs[x.val], ptr g, ptr g, ptr g, .func (.func 61) #[] #[ptr (W.heap.size + 1)], ptr bs[x.val], undef, undef, undef, undef, undef, undef, undef], defers := [] }) ?assign ?body ?done
  case own =>
    rintro s X Y row ⟨i1, i2, i3⟩ hg hr
    have hbox : ∀ {b t v}, Boxed X b t v → Boxed Y b t v := fun {b t v} hb => hb.kept hg (fun e' => by obtain ⟨_, o, ho, hc⟩ := hr b e'.symm; rw [show X.heap[b]? = _ from hb] at ho; cases ho; cases hc)
    exact ⟨HJ.out _ _ _ row i1 hg (fun r e => by obtain ⟨q1, q2⟩ := hr r e; exact ⟨by omega, q2⟩), hbox i2, hbox i3⟩
  case assign =>
    intro l x W K' hK
    dsimp only [nencs]
    gi_wp2
    exact hK
  case body =>
    rintro l pre x W' ⟨hi, hb, hbi'⟩ hX hsz
    try dsimp only
    have hj : J pre W'.drew := HJ.out _ _ _ none hi (grown_of_below (Below.refl _ _).drew none) (fun r e => by cases e)
    have k2 : W'.drew.cell? ⟨W.heap.size, 0, none⟩ = some (.func (.yield L) #[] #[]) := hb.cell
    have hc := (HR.out _ _ hj).2
    have hm := List.getElem_mem x.isLt
    have k3 : W'.drew.cell? ⟨bs[x.val], 0, none⟩ = some (.int .i64 (K bs[x.val]).1) := (blk_cell (hc.rm.node _ hm) 0).trans rfl
    have k4 : W'.drew.cell? ⟨bs[x.val], 1, none⟩ = some (.int .i64 (K bs[x.val]).2) := (blk_cell (hc.rm.node _ hm) 1).trans rfl
    obtain ⟨fn, tmps, assign, body, hy, hRd⟩ := HY.out _ x W'.drew hj hX (by rw [hz2] at hsz; exact hsz)
    try dsimp only [oencs] at hy
    have HX := Aside0.mk hX
    have HBx := Aside0.mk hb
    have HBi := Aside0.mk hbi'
    clear hi hb hbi' hX hj hc hm
    gi_wp2
    refine StillInR.wpIn_region_still_tail 5 (by kernel_rfl) hfol (by kernel_rfl) ?_
    simp only [List.take_succ_cons, List.take_zero, List.drop_succ_cons, List.drop_zero]
    repeat still_step
    try refine wpStill_nil ?_
    change wpListIn (Fence.wide.inRound l) 1 Tryd.prog _ _ _ _ W'.drew
    gi_wp2
    refine (roundIn_any hRd).mono ?_
    rintro e W3 ⟨rfl, hj3, hs3, hk3⟩
    have HJ3 := Aside0.mk hj3
    have HK3 := Aside0.mk hk3
    have HS3 := Aside0.mk hs3
    clear hj3 hk3 hs3 hRd hy
    gi_wp2
    have l1 := HBx.out.lt
    have l2 := HBi.out.lt
    exact ⟨⟨HS3.out.size, fun k o hB hk' hc' => HS3.out.same k o (by omega) hk' hc'⟩, ⟨HJ3.out, (HK3.out _ (by omega) (by omega)).trans HBx.out, (HK3.out _ (by omega) (by omega)).trans HBi.out⟩, fun k q1 q2 => by omega⟩
  case done =>
    rintro D xs W' hD rfl ⟨hi, hb, hbi'⟩ hK
    refine ⟨by simp, .inl ⟨_, _, rfl, run_takeDeferred hK, ?_⟩⟩
    exact ⟨.tuple #[], by simp [results, Tryd.results39, go_sem], ⟨_, rfl⟩, _, rfl, HJ.out.putObj _ hi (by omega) hK rfl⟩
end Go.Proofs.YtoglapodcejocaaDoor.G
