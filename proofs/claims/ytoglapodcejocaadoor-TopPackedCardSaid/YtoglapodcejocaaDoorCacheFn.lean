/- What cache's small functions do over this seat's program. Conditions: each lemma's own. -/
import Derived.Test.YtoglapodcejocaaDoorCacheMem
import Derived.StillTailTactics
import Derived.Deep.RegionWith
import Derived.Deep.Cut
namespace Go.Proofs.YtoglapodcejocaaDoor.G
open Go.RowKit Go.Proofs.YtoglapodcejocaaDoorW.PrintWords Go.Proofs.YtoglapodcejocaaDoorW.PrintLast Go.Proofs.YtoglapodcejocaaDoorW.PrintMore
set_option linter.unusedVariables false
set_option linter.unusedSimpArgs false
set_option maxRecDepth 100000
set_option maxHeartbeats 4000000 in
theorem out_calls {w : World} {g m : Nat} {room hit miss : Int} {S : Nat → Prop} {K : Nat → Pl} {V : Nat → ByteArray} {A N : Nat → Nat} (h : RM w g m room hit miss S K V A N) {b : Nat} (hb : S b) (hA : A b = g ∨ S (A b)) (hN : N b = g ∨ S (N b)) :
    Calls Tryd.prog 36 #[ptr b] w fun e w' => e = .returned (.tuple #[]) ∧ w' = (w.drew.setCell ⟨A b, 4, none⟩ (ptr (N b))).setCell ⟨N b, 3, none⟩ (ptr (A b)) := by
  obtain ⟨a1, a2⟩ := h.ahead (.inr hb)
  obtain ⟨n1, n2⟩ := h.next (.inr hb)
  obtain ⟨p1, p2⟩ := h.next hA
  obtain ⟨q1, q2⟩ := h.ahead hN
  go_enter Tryd.func36, Tryd.ntmps36
  go_still_tail 16, (by kernel_rfl)
  go_wp2
  go_end0
  exact ⟨rfl, rfl⟩
/-- What a call may turn: blocks of P, and new ones. -/
structure KeptBut (P : Nat → Prop) (w w' : World) : Prop where
  os : w'.os = w.os
  tape : w'.tape = w.tape
  output : w'.output = w.output
  size : w.heap.size ≤ w'.heap.size
  block : ∀ k, k < w.heap.size → ¬ P k → w'.heap[k]? = w.heap[k]?
theorem KeptBut.refl (P : Nat → Prop) (w : World) : KeptBut P w w := ⟨rfl, rfl, rfl, Nat.le_refl _, fun _ _ _ => rfl⟩
theorem KeptBut.of_below {P : Nat → Prop} {w w' : World} (h : Below w.heap.size w w') : KeptBut P w w' := ⟨h.os, h.tape, h.output, h.size, fun k hk _ => h.block k hk⟩
theorem KeptBut.trans {P : Nat → Prop} {a b c : World} (h : KeptBut P a b) (k : KeptBut P b c) : KeptBut P a c := ⟨k.os.trans h.os, k.tape.trans h.tape, k.output.trans h.output, Nat.le_trans h.size k.size, fun i hi hn => (k.block i (Nat.lt_of_lt_of_le hi h.size) hn).trans (h.block i hi hn)⟩
theorem KeptBut.below {P : Nat → Prop} {w w' : World} {B : Nat} (h : KeptBut P w w') (hB : B ≤ w.heap.size) (hP : ∀ k, P k → B ≤ k) : Below B w w' := ⟨h.os, h.tape, h.output, h.size, fun k hk => h.block k (by omega) (fun hp => by have := hP k hp; omega)⟩
theorem KeptBut.mono {P Q : Nat → Prop} {w w' : World} (h : KeptBut P w w') (hPQ : ∀ k, k < w.heap.size → P k → Q k) : KeptBut Q w w' := ⟨h.os, h.tape, h.output, h.size, fun k hk hn => h.block k hk (fun hp => hn (hPQ k hk hp))⟩
theorem KeptBut.drew (P : Nat → Prop) (w : World) : KeptBut P w w.drew := KeptBut.of_below (Below.refl _ _).drew
theorem KeptBut.set {P : Nat → Prop} {w : World} {a : Addr} (v : Value) (ha : P a.block) : KeptBut P w (w.setCell a v) := ⟨rfl, rfl, rfl, by simp [World.setCell], fun k hk hn => Below.heap_setCell w a v k (fun e => hn (e ▸ ha))⟩
theorem KeptBut.turned {P : Nat → Prop} {w w' : World} {m : Nat} (h : w.mapTurned w' m) (hm : P m) : KeptBut P w w' := ⟨h.grown.os, h.grown.tape, h.grown.output, h.grown.size, fun k hk hn => h.grown.block k hk (fun e => hn (by injection e with e; exact e ▸ hm))⟩
set_option maxHeartbeats 4000000 in
theorem first_calls {w : World} {g m : Nat} {room hit miss : Int} {S : Nat → Prop} {K : Nat → Pl} {V : Nat → ByteArray} {A N : Nat → Nat} (h : RM w g m room hit miss S K V A N) {b : Nat} {k : Pl} {v : ByteArray} {x y : Value}
    (hblk : w.heap[b]? = some (.cells #[.int .i64 k.1, .int .i64 k.2, .string v, x, y] 81 (0, 0))) (hbg : b ≠ g) (hbS : ¬ S b) (hN : N g = g ∨ S (N g)) :
    Calls Tryd.prog 35 #[ptr g, ptr b] w fun e w' => e = .returned (.tuple #[]) ∧ RM w' g m room hit miss (fun c => c = b ∨ S c) (fput K b k) (fput V b v) (fput (fput A b g) (N g) b) (fput (fput N b (N g)) g b) ∧ KeptBut (fun c => c = g ∨ c = b ∨ S c) w w' := by
  have hgb : g ≠ b := fun e => hbg e.symm
  have hNb : N g = g ∨ N g = b ∨ S (N g) := hN.elim .inl (fun h => .inr (.inr h))
  obtain ⟨n1, n2⟩ := h.next (.inl rfl)
  obtain ⟨w1, hw1⟩ : ∃ w1, w1 = w.setCell ⟨b, 3, none⟩ (ptr g) := ⟨_, rfl⟩
  have b1 : w1.heap[b]? = some (.cells #[.int .i64 k.1, .int .i64 k.2, .string v, ptr g, y] 81 (0, 0)) := by rw [hw1]; exact blk_put hblk 3 _ rfl
  obtain ⟨w2, hw2⟩ : ∃ w2, w2 = w1.setCell ⟨b, 4, none⟩ (ptr (N g)) := ⟨_, rfl⟩
  have b2 : w2.heap[b]? = some (.cells (nodeC k v g (N g)) 81 (0, 0)) := by rw [hw2]; exact blk_put b1 4 _ rfl
  have h2 : RM w2 g m room hit miss (fun c => c = b ∨ S c) (fput K b k) (fput V b v) (fput A b g) (fput N b (N g)) := by
    refine ⟨?_, fun c hc => ?_, fun hc => hc.elim (fun e => hgb e) h.apart⟩
    · rw [fput_ne _ _ hgb, fput_ne _ _ hgb, hw2, hw1]
      exact blk_far (blk_far h.root hgb _) hgb _
    · by_cases e : c = b
      · subst e
        rw [fput_same, fput_same, fput_same, fput_same]; exact b2
      · rw [fput_ne _ _ e, fput_ne _ _ e, fput_ne _ _ e, fput_ne _ _ e, hw2, hw1]
        exact blk_far (blk_far (h.node c (hc.resolve_left e)) e _) e _
  have p1 : w.cell? ⟨b, 3, none⟩ = some x := (blk_cell hblk 3).trans rfl
  have p2 : w.frozen? ⟨b, 3, none⟩ = false := blk_frozen hblk 3
  have q1 : w1.drew.cell? ⟨b, 4, none⟩ = some y := (blk_cell (w := w1.drew) b1 4).trans rfl
  have q2 : w1.drew.frozen? ⟨b, 4, none⟩ = false := blk_frozen (w := w1.drew) b1 4
  obtain ⟨w3, hw3⟩ : ∃ w3, w3 = w2.drew := ⟨_, rfl⟩
  have h3 : RM w3 g m room hit miss (fun c => c = b ∨ S c) (fput K b k) (fput V b v) (fput A b g) (fput N b (N g)) := by rw [hw3]; exact h2.same (fun _ _ => rfl)
  have hbb : b = g ∨ (fun c => c = b ∨ S c) b := .inr (.inl rfl)
  obtain ⟨r1, r2⟩ := h3.ahead hbb
  obtain ⟨s1, s2⟩ := h3.next hbb
  obtain ⟨t1, t2⟩ := (h3.same (w' := w3.drew) (fun _ _ => rfl)).next (.inl rfl)
  obtain ⟨w4, hw4⟩ : ∃ w4, w4 = w3.setCell ⟨g, 4, none⟩ (ptr b) := ⟨_, rfl⟩
  have h4 : RM w4 g m room hit miss (fun c => c = b ∨ S c) (fput K b k) (fput V b v) (fput A b g) (fput (fput N b (N g)) g b) := by rw [hw4]; exact h3.setNext (.inl rfl) b
  obtain ⟨u1, u2⟩ := (h4.same (w' := w4.drew) (fun _ _ => rfl)).ahead hNb
  have HE := Aside0.mk ((h4.setAhead hNb b).same (w' := (w4.setCell ⟨N g, 3, none⟩ (ptr b)).drew) (fun _ _ => rfl))
  have HK := Aside0.mk (show KeptBut (fun c => c = g ∨ c = b ∨ S c) w (w4.setCell ⟨N g, 3, none⟩ (ptr b)).drew from by
    rw [hw4, hw3, hw2, hw1]
    exact ((((((KeptBut.set _ (.inr (.inl rfl))).trans (KeptBut.set _ (.inr (.inl rfl)))).trans (KeptBut.drew _ _)).trans (KeptBut.set _ (.inl rfl))).trans (KeptBut.set _ hNb))).trans (KeptBut.drew _ _))
  rw [fput_same] at r1 s1
  have f1 : w.drew.cell? ⟨g, 4, none⟩ = some (ptr (N g)) := n1
  have f2 : w.drew.cell? ⟨b, 3, none⟩ = some x := p1
  have f3 : w.drew.frozen? ⟨b, 3, none⟩ = false := p2
  clear n1 n2 p1 p2 h h2 h3 h4 b1 b2 hblk
  rw [hw1] at q1 q2
  rw [hw4] at u1 u2
  have r3 : w3.drew.cell? ⟨b, 3, none⟩ = some (ptr g) := r1
  have s3 : w3.drew.cell? ⟨b, 4, none⟩ = some (ptr (N g)) := s1
  go_enter Tryd.func35, Tryd.ntmps35
  go_wp2
  have HW1 := Aside0.mk hw1
  have HW2 := Aside0.mk hw2
  have HW3 := Aside0.mk hw3
  have HW4 := Aside0.mk hw4
  clear hw1 hw2 hw3 hw4
  go_region_with (fail)
  all_goals
    rw [← HW1.out, ← HW2.out, ← HW3.out]
    clear q1 q2 f1 f2 f3 HW1 HW2 HW3
    go_wp2
    go_region_with (fail)
  all_goals
    go_wp2
    go_end0
    rw [← HW4.out]
    exact ⟨rfl, HE.out, HK.out⟩
end Go.Proofs.YtoglapodcejocaaDoor.G
