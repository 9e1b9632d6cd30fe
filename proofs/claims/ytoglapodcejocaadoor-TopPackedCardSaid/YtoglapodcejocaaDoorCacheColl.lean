/- A cache's places are collected, over this seat's program. Conditions: each lemma's own. -/
import Derived.Test.YtoglapodcejocaaDoorCacheSeq2
namespace Go.Proofs.YtoglapodcejocaaDoor.G
open Go.RowKit Go.Shelf Go.Proofs.YtoglapodcejocaaDoorW.PrintWords Go.Proofs.YtoglapodcejocaaDoorW.PrintLast Go.Proofs.YtoglapodcejocaaDoorW.PrintMore
set_option linter.unusedVariables false
set_option linter.unusedSimpArgs false
attribute [local go_sem] Oper.semAt_some
set_option maxRecDepth 100000
theorem info36 : (Tryd.prog.info? 36).map (fun i => (i.zero, i.size, i.bytes)) = some (some (.agg #[(.int .i64 0), (.int .i64 0)]), 2, 16) := by kernel_rfl
theorem ownsRow_mono {w : World} {base base' : Nat} {e : TypeId} {size n : Nat} {v : Value} {xs : List Value} (h : w.ownsRow base e size v n xs) (hb : base' ≤ base) : w.ownsRow base' e size v n xs := by
  refine ⟨h.1, ?_⟩
  rcases h.2 with h2 | ⟨g, cap, cur, e1, h2, r⟩
  · exact .inl h2
  · exact .inr ⟨g, cap, cur, e1, Nat.le_trans hb h2, r⟩
theorem ownsRow_block {w : World} {base : Nat} {e : TypeId} {size n : Nat} {v : Value} {xs : List Value} (h : w.ownsRow base e size v n xs) {k : Nat} (hk : k < base) : some k ≠ v.ownBlock := by
  rcases h.2 with ⟨rfl, _⟩ | ⟨g, cap, cur, rfl, h2, r⟩
  · intro e; simp [Value.ownBlock] at e
  · intro e; simp [Value.ownBlock] at e; omega
def plCells (bs : List Nat) (K : Nat → Pl) (pre : List (Fin bs.length)) : List Value := pre.flatMap fun x => [.int .i64 (K bs[x.val]).1, .int .i64 (K bs[x.val]).2]
structure CollI (P : Nat → Prop) (w : World) (bs : List Nat) (K : Nat → Pl) (pre : List (Fin bs.length)) (W : World) : Prop where
  row : ∃ v, Boxed W w.heap.size 23 v ∧ W.ownsRow (w.heap.size + 7) 36 2 v pre.length (plCells bs K pre)
  below : Below w.heap.size w W
theorem collI_own {P w bs K} {B : Nat} (hB : w.heap.size ≤ B) : OwnFrom B (CollI P w bs K) := fun pre X Y row h hg hr => by
  have ho := holdsRow_own (β := List (Fin bs.length)) (w.heap.size + 7) w.heap.size 23 36 2 (fun pre => pre.length) (plCells bs K) (fun _ _ => True)
  obtain ⟨v, h1, h2⟩ := h.row
  obtain ⟨v', q1, q2, _⟩ := ho pre X Y row ⟨v, h1, h2, trivial⟩ hg (fun r e => (hr r e).2)
  exact ⟨⟨v', q1, q2⟩, ownFrom_below (Nat.le_refl _) hB pre X Y row h.below hg hr⟩
set_option maxHeartbeats 4000000 in
theorem append_in {P : Nat → Prop} {g m Bc : Nat} {room hit miss : Int} {bs : List Nat} {K : Nat → Pl} {V : Nat → ByteArray} {A N : Nat → Nat} {F : Pl → Option Nat} {w : World} (h : OrdR P g m Bc room hit miss bs K V A N F w) (hd : (bs ++ [g]).Nodup) (hlen : bs.length ≤ 1000000) :
    CallsIn Fence.wide 4 Tryd.prog 60 #[.slice none 0 0, .func (.func 39) #[] #[ptr Bc]] w fun e w' => ∃ v, e = .returned v ∧ w'.ownsRow w.heap.size 36 2 v bs.length (plCells bs K (List.finRange bs.length)) ∧ Below w.heap.size w w' := by
  have hro : Fence.wide.round = none := rfl
  have h1 : 1 ≤ 4 := by decide
  obtain ⟨i0, hi, hz0', hz1', hz2'⟩ := info_parts info36
  obtain ⟨W1, hW1⟩ : ∃ W1, W1 = w.alloc (.cells #[.slice none 0 0] 23) := ⟨_, rfl⟩
  have hb1 : Below w.heap.size w W1 := by rw [hW1]; exact below_alloc (Below.refl _ _) _
  have hbx : Boxed W1 w.heap.size 23 (.slice none 0 0) := by rw [hW1]; exact blk_new w _
  have hz1 : W1.heap.size = w.heap.size + 1 := by rw [hW1]; simp
  refine callsIn_of_wp_marks Tryd.func60 rfl trivial ?_ hro
  simp only [Tryd.ntmps60, List.size_toArray, List.length_cons, List.length_nil, Nat.reduceAdd, Nat.reduceSub, Array.replicate_succ, Array.replicate_zero, List.push_toArray, List.append_toArray, List.nil_append, List.cons_append]
  gi_wp2
  rw [← hW1]
  have HW1 := Aside0.mk hW1
  clear hW1
  have hI0 : CollI P w bs K [] W1 := ⟨⟨_, hbx, World.ownsRow_nil _ _ _ _⟩, hb1⟩
  refine rangeFunc_R2 hro h1 (gf := 39) (lb := #[ptr Bc]) rfl trivial (enters_of Tryd.func39 (by kernel_rfl) rfl)
    (order_seq P g m Bc room hit miss bs K V A N F hd W1) (Below.refl _ _) (fun _ => rfl)
    (CollI P w bs K) (collI_own (by omega)) (fun pre W' hc => ⟨(hc.below.block Bc h.1.lt).trans h.1, h.2.below hc.below⟩) hI0 ?round ?done
  case round =>
    rintro l pre x W hI hX hsz
    have HI := Aside0.mk hI
    have HSz := Aside0.mk hsz
    have HX := Aside0.mk hX
    clear hI hX hsz
    gi_wp2
    have hzW : w.heap.size + 7 ≤ W.heap.size := by have := HSz.out; omega
    refine ⟨⟨by simp, fun k o _ hk _ => blk_alloc hk _⟩, fun k q1 q2 => Below.heap_alloc _ _ _ (by omega), fun o o' ho hc => ?_⟩
    obtain ⟨W2, hW2⟩ : ∃ W2, W2 = W.alloc (.cells #[.int .i64 (K bs[x.val]).1, .int .i64 (K bs[x.val]).2] 36) := ⟨_, rfl⟩
    rw [← hW2] at ho ⊢
    have hn2 : W2.heap[W.heap.size]? = some (.cells #[.int .i64 (K bs[x.val]).1, .int .i64 (K bs[x.val]).2] 36 (0, 0)) := by rw [hW2]; exact blk_new _ _
    have hz2 : W2.heap.size = W.heap.size + 1 := by rw [hW2]; simp
    have hI2 : CollI P w bs K pre W2 := by rw [hW2]; exact (collI_own (B := w.heap.size) (Nat.le_refl _)).alloc _ HI.out
    obtain ⟨W3, hW3⟩ : ∃ W3, W3 = W2.putObj (W1.heap.size + 1) o := ⟨_, rfl⟩
    rw [← hW3]
    have hI3 : CollI P w bs K pre W3 := by rw [hW3]; exact (collI_own (B := w.heap.size) (Nat.le_refl _)).putObj _ hI2 (by omega) ho hc
    have hn3 : W3.heap[W.heap.size]? = some (.cells #[.int .i64 (K bs[x.val]).1, .int .i64 (K bs[x.val]).2] 36 (0, 0)) := by rw [hW3]; exact (World.putObj_heap_other (by omega)).trans hn2
    have hz3 : W3.heap.size = W.heap.size + 1 := by rw [hW3]; simp [World.putObj, hz2]
    have hr3 : ∀ k, W1.heap.size + 2 ≤ k → k < W1.heap.size + 2 + 4 → W3.heap[k]? = W2.heap[k]? := fun k q1 q2 => by rw [hW3]; exact World.putObj_heap_other (by omega)
    obtain ⟨v, hv, hrow⟩ := hI3.row
    have hB := hI3.below
    have hvc := hv.cell
    have p1 : W3.cell? ⟨W.heap.size, 0, none⟩ = some (.int .i64 (K bs[x.val]).1) := (blk_cell hn3 0).trans rfl
    have p2 : W3.cell? ⟨W.heap.size, 1, none⟩ = some (.int .i64 (K bs[x.val]).2) := (blk_cell hn3 1).trans rfl
    have hpl : pre.length ≤ 1000000 := by rw [take_len (Nat.le_of_lt x.isLt) HX.out]; have := x.isLt; omega
    have HR3 := Aside0.mk hr3
    have HW3 := Aside0.mk hW3
    have HZ3 := Aside0.mk hz3
    have HZ1 := Aside0.mk hz1
    have HZ2 := Aside0.mk hz2
    have HZW := Aside0.mk hzW
    have HPl := Aside0.mk hpl
    clear hz3 hz1 hz2 hzW hpl hW2 hW3 ho hc hn2 hI2 hI3 hn3 hr3
    gi_wp2_with (gi_at_builtin; refine wpListIn_append_own _ rfl _ _ 23 rfl (w.heap.size + 7) 36 i0 (.agg #[.int .i64 0, .int .i64 0]) 2 16 Tryd.underlying23 hi hz0' hz1' hz2' rfl (by decide) _ _ _ rfl (hrow.alloc _) ⟨W3.heap.size, 0, none⟩ 1 1 [.int .i64 (K bs[x.val]).1, .int .i64 (K bs[x.val]).2] rfl rfl ?cells (by simp [Value.oneCell']) (by have := HPl.out; unfold maxLen; omega) (by have := HPl.out; omega) (by have := HZ3.out; have := HZW.out; simp; omega) ?_; (case cells => (intro j u hj; exact (show _ from by rw [show (⟨W3.heap.size, 0, none⟩ : Addr).add j = ⟨W3.heap.size, j, none⟩ from by (by_cases e : j = 0 <;> simp [Addr.add, e])]; exact (blk_cell (blk_new W3 _) j).trans (by simpa using hj)))); intro v' w1 hown' hgrow _; obtain ⟨g', cap', rfl⟩ := ownsRow_succ hown'; obtain ⟨hv1, hv2, hr2, hk2, hb2⟩ := hv.appended (by decide) (ownsRow_mono hrow (by omega)) hB.size (Nat.le_refl _) (ownsRow_mono hown' (by omega)) hgrow; have hc1 := hv1.cell; have hf1 := hv1.frozen)
    have z3 := HZ3.out
    have z1 := HZ1.out
    have zw := HZW.out
    refine ⟨hk2.from _, ⟨⟨_, hv2, ?_⟩, hB.trans hb2⟩, fun k q1 q2 => ?_⟩
    · have := hown'.kept (grownBy_setCell' w1 w.heap.size (.slice (some ⟨g', 0, none⟩) (pre.length + 1) cap')) (.inr (fun e => ownsRow_block hown' (show w.heap.size < w.heap.size + 7 by omega) e.symm))
      simpa [plCells] using this
    · rw [Below.heap_setCell _ _ _ _ (by show k ≠ w.heap.size; omega), hgrow.block k (by simp; omega) (ownsRow_block hrow (by omega)), Below.heap_alloc _ _ _ (by omega)]
      exact HR3.out k q1 q2
  case done =>
    rintro D xs W hD rfl hI hK
    obtain ⟨v, hv, hrow⟩ := hI.row
    have hB := hI.below
    have hc := hv.cell
    have hl : (List.finRange bs.length).length = bs.length := List.length_finRange
    rw [hl] at hrow
    gi_wp2
    refine ⟨by simp, .inl ⟨_, _, rfl, run_takeDeferred hK, ?_⟩⟩
    have hp := (collI_own (P := P) (bs := bs) (K := K) (B := w.heap.size) (Nat.le_refl _)).putObj (.deferred none) hI (by omega) hK rfl
    exact ⟨_, results_tmp rfl _ _ _, v, rfl, ownsRow_mono (ownsRow_putObj hrow _ hK rfl) (by omega), hp.below⟩
set_option maxHeartbeats 4000000 in
theorem collect_calls {P : Nat → Prop} {g m Bc : Nat} {room hit miss : Int} {bs : List Nat} {K : Nat → Pl} {V : Nat → ByteArray} {A N : Nat → Nat} {F : Pl → Option Nat} {w : World} (h : OrdR P g m Bc room hit miss bs K V A N F w) (hd : (bs ++ [g]).Nodup) (hlen : bs.length ≤ 1000000) :
    Calls Tryd.prog 38 #[.func (.func 39) #[] #[ptr Bc]] w fun e w' => ∃ v, e = .returned v ∧ w'.ownsRow w.heap.size 36 2 v bs.length (plCells bs K (List.finRange bs.length)) ∧ Below w.heap.size w w' := by
  have HS := Aside0.mk (callsIn_wide.1 (append_in h hd hlen))
  clear h hd hlen
  go_enter Tryd.func38, Tryd.ntmps38
  go_wp2_with (go_at_call 60; refine HS.out.mono ?_; rintro e w' ⟨v, rfl, hrow, hb⟩; have HRW := Aside0.mk hrow; have HBW := Aside0.mk hb; clear hrow hb)
  go_ret
  exact ⟨v, rfl, HRW.out, HBW.out⟩
def placesOf (E : List (Pl × ByteArray)) : List Value := E.flatMap fun x => [.int .i64 x.1.1, .int .i64 x.1.2]
theorem plCells_all (bs : List Nat) (K : Nat → Pl) (V : Nat → ByteArray) : plCells bs K (List.finRange bs.length) = placesOf (entsOf bs K V) := by
  unfold plCells placesOf entsOf
  rw [List.flatMap_map]
  have e : bs = (List.finRange bs.length).map (fun i => bs[i.val]) := by
    apply List.ext_getElem
    · simp
    · intro i h1 h2; simp
  conv => rhs; rw [e]
  rw [List.flatMap_map]
set_option maxHeartbeats 4000000 in
theorem order_calls {P : Nat → Prop} {w : World} {g : Nat} {room hit miss : Int} {E : List (Pl × ByteArray)} (h : CchE P w g room hit miss E) (hl : E.length ≤ 1000000) :
    Calls Tryd.prog 20 #[ptr g] w fun e w' => ∃ v, e = .returned v ∧ w'.ownsRow w.heap.size 36 2 v E.length (placesOf E) ∧ Below w.heap.size w w' := by
  obtain ⟨m, bs, K, V, A, N, F, h, rfl⟩ := h
  have hlen : bs.length ≤ 1000000 := by simpa [entsOf] using hl
  have hb : Below w.heap.size w (w.alloc (.cells #[ptr g] 55)) := below_alloc (Below.refl _ _) _
  have hd : (bs ++ [g]).Nodup := (List.perm_append_singleton g bs).nodup_iff.2 h.nd
  have HS := Aside0.mk (collect_calls (w := w.alloc (.cells #[ptr g] 55)) (Bc := w.heap.size) ⟨blk_new w _, h.below hb⟩ hd hlen)
  have HB := Aside0.mk hb
  have HL := Aside0.mk (show (entsOf bs K V).length = bs.length by simp [entsOf])
  clear h hd hlen hb hl
  go_enter Tryd.func20, Tryd.ntmps20
  go_wp2_with (go_at_call 38; refine HS.out.mono ?_; rintro e w' ⟨v, rfl, hrow, hb⟩; have HRW := Aside0.mk hrow; have HBW := Aside0.mk hb; clear hrow hb)
  go_ret
  refine ⟨v, rfl, ?_, HB.out.trans (HBW.out.mono HB.out.size)⟩
  rw [HL.out, ← plCells_all]
  exact ownsRow_mono HRW.out HB.out.size
end Go.Proofs.YtoglapodcejocaaDoor.G
