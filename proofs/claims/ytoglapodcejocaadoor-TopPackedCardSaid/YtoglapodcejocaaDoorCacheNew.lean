/- A cache is made, over this seat's program: begin, New, Hits. Conditions: each lemma's own. -/
import Derived.Test.YtoglapodcejocaaDoorCacheDrop
namespace Go.Proofs.YtoglapodcejocaaDoor.G
open Go.RowKit Go.Proofs.YtoglapodcejocaaDoorW.PrintWords Go.Proofs.YtoglapodcejocaaDoorW.PrintLast Go.Proofs.YtoglapodcejocaaDoorW.PrintMore
set_option linter.unusedVariables false
set_option linter.unusedSimpArgs false
set_option maxRecDepth 100000
def rawC (room : Int) (a n : Value) (m : Value) : Array Value := #[.int .i64 0, .int .i64 0, .string ⟨#[]⟩, a, n, m, .int .i64 room, .int .i64 0, .int .i64 0]
set_option maxHeartbeats 4000000 in
theorem begin_calls {w : World} {g : Nat} {room : Int} (h : w.heap[g]? = some (.cells (rawC room (.pointer none) (.pointer none) (.map none)) 86 (0, 0))) :
    Calls Tryd.prog 31 #[ptr g] w fun e w' => e = .returned (.tuple #[]) ∧ w'.heap[g]? = some (.cells (rootC w.heap.size g g room 0 0) 86 (0, 0)) ∧ w'.heap[w.heap.size]? = some (.map #[] 0) ∧ KeptBut (fun k => k = g) w w' ∧ w'.heap.size = w.heap.size + 1 := by
  have hlt := blk_lt h
  obtain ⟨w1, hw1⟩ : ∃ w1, w1 = w.setCell ⟨g, 3, none⟩ (ptr g) := ⟨_, rfl⟩
  have b1 : w1.heap[g]? = some (.cells (rawC room (ptr g) (.pointer none) (.map none)) 86 (0, 0)) := by rw [hw1]; exact blk_put h 3 _ rfl
  obtain ⟨w2, hw2⟩ : ∃ w2, w2 = (w1.setCell ⟨g, 4, none⟩ (ptr g)).drew := ⟨_, rfl⟩
  have b2 : w2.heap[g]? = some (.cells (rawC room (ptr g) (ptr g) (.map none)) 86 (0, 0)) := by rw [hw2]; exact blk_put b1 4 _ rfl
  have z2 : w2.heap.size = w.heap.size := by rw [hw2, hw1]; simp [World.setCell, World.drew]
  have b3 : (w2.alloc (.map #[] 0)).heap[g]? = some (.cells (rawC room (ptr g) (ptr g) (.map none)) 86 (0, 0)) := blk_alloc b2 _
  obtain ⟨w4, hw4⟩ : ∃ w4, w4 = (w2.alloc (.map #[] 0)).setCell ⟨g, 5, none⟩ (.map (some w2.heap.size)) := ⟨_, rfl⟩
  have b4 : w4.heap[g]? = some (.cells (rootC w.heap.size g g room 0 0) 86 (0, 0)) := by rw [hw4, ← z2]; exact blk_put b3 5 _ rfl
  have m4 : w4.heap[w.heap.size]? = some (.map #[] 0) := by
    rw [hw4, Below.heap_setCell _ ⟨g, 5, none⟩ _ _ (by show w.heap.size ≠ g; omega), ← z2]
    exact blk_new w2 _
  have k4 : KeptBut (fun k => k = g) w w4 := by
    have ha : KeptBut (fun k => k = g) w2 (w2.alloc (.map #[] 0)) := KeptBut.of_below (below_alloc (Below.refl _ _) _)
    rw [hw4]
    refine KeptBut.trans ?_ (ha.trans (KeptBut.set _ rfl))
    rw [hw2, hw1]
    exact ((KeptBut.set (P := fun k => k = g) (a := ⟨g, 3, none⟩) _ rfl).trans (KeptBut.set (P := fun k => k = g) (a := ⟨g, 4, none⟩) _ rfl)).trans (KeptBut.drew _ _)
  have s4 : w4.heap.size = w.heap.size + 1 := by rw [hw4]; simp [World.setCell, z2]
  have HE := Aside0.mk (And.intro b4 (And.intro m4 (And.intro k4 s4)))
  have p1 : w.drew.cell? ⟨g, 3, none⟩ = some (.pointer none) := (blk_cell (w := w.drew) h 3).trans rfl
  have p2 : w.drew.frozen? ⟨g, 3, none⟩ = false := blk_frozen (w := w.drew) h 3
  have q1 : w1.drew.cell? ⟨g, 4, none⟩ = some (.pointer none) := (blk_cell (w := w1.drew) b1 4).trans rfl
  have q2 : w1.drew.frozen? ⟨g, 4, none⟩ = false := blk_frozen (w := w1.drew) b1 4
  have r1 : (w2.alloc (.map #[] 0)).cell? ⟨g, 5, none⟩ = some (.map none) := (blk_cell b3 5).trans rfl
  have r2 : (w2.alloc (.map #[] 0)).frozen? ⟨g, 5, none⟩ = false := blk_frozen b3 5
  have mm := fun W : World => run_makeMap (P := Tryd.prog) 82 W
  clear b1 b2 b3 b4 m4 k4 s4 z2 hlt h
  rw [hw1] at q1 q2
  go_enter Tryd.func31, Tryd.ntmps31
  go_wp2
  have HW1 := Aside0.mk hw1
  have HW2 := Aside0.mk hw2
  have HW4 := Aside0.mk hw4
  clear hw1 hw2 hw4
  go_region_with (fail)
  all_goals
    rw [← HW1.out, ← HW2.out]
    clear p1 p2 q1 q2
    go_wp2
    go_end0
    rw [← HW4.out]
    exact ⟨rfl, HE.out⟩
set_option maxHeartbeats 4000000 in
theorem new_calls {w : World} {room : Int} (h1 : 1 ≤ room) (h2 : room ≤ 4096) :
    Calls Tryd.prog 15 #[.int .i64 room] w fun e w' => e = .returned (.tuple #[ptr w.heap.size, .int .i64 0]) ∧ Cch (fun k => k = w.heap.size ∨ k = w.heap.size + 1) w' w.heap.size (w.heap.size + 1) room 0 0 [] (fun _ => (0, 0)) (fun _ => ⟨#[]⟩) (fun _ => w.heap.size) (fun _ => w.heap.size) (fun _ => none) ∧ Below w.heap.size w w' := by
  have c1 : ¬ room < 1 := by omega
  have c2 : ¬ room > 4096 := by omega
  have hb := blk_new w (.cells (rawC room (.pointer none) (.pointer none) (.map none)) 86 (0, 0))
  have HB := Aside0.mk (begin_calls hb)
  have hba := Aside0.mk (below_alloc (Below.refl w.heap.size w) (.cells (rawC room (.pointer none) (.pointer none) (.map none)) 86 (0, 0)))
  clear hb
  go_enter Tryd.func15, Tryd.ntmps15
  go_wp2_with (go_at_call 31; refine HB.out.mono ?_; rintro e w1 ⟨rfl, hr⟩; have HR := Aside0.mk hr; clear hr)
  go_ret2
  obtain ⟨b1, b2, b3, b4⟩ := HR.out
  have hz : (w.alloc (.cells (rawC room (.pointer none) (.pointer none) (.map none)) 86 (0, 0))).heap.size = w.heap.size + 1 := by simp
  rw [hz] at b1 b2 b4
  refine ⟨rfl, ⟨⟨b1, fun b hb => (by cases hb), fun h => (by cases h)⟩, MapP.empty b2, ⟨rfl, rfl⟩, by simp, fun b hb => (by cases hb), fun p b => ⟨fun h => (by cases h), fun h => (by cases h.1)⟩, .inl rfl, .inr rfl, fun b hb => (by cases hb), fun k hk => (by rcases hk with rfl | rfl <;> omega)⟩, ?_⟩
  exact hba.out.trans (b3.below (by rw [hz]; omega) (fun k hk => Nat.le_of_eq hk.symm))
theorem new_none {w : World} {room : Int} (h : room < 1 ∨ 4096 < room) :
    Calls Tryd.prog 15 #[.int .i64 room] w fun e w' => e = .returned (.tuple #[.pointer none, .int .i64 1]) ∧ w' = w := by
  by_cases c1 : room < 1
  · go_enter Tryd.func15, Tryd.ntmps15
    go_wp2
    go_ret2
    exact ⟨rfl, rfl⟩
  · have c2 : room > 4096 := by omega
    clear h
    go_enter Tryd.func15, Tryd.ntmps15
    go_wp2
    go_ret2
    exact ⟨rfl, rfl⟩
end Go.Proofs.YtoglapodcejocaaDoor.G
