/- A device's functions over this seat's program: has, reach, burn, Read, Write, at a sector that there is, of a device that is on. Conditions: each lemma's own. -/
import Derived.Test.YtnhigoffkmfccaaDoorDevMem
namespace Go.Proofs.YtnhigoffkmfccaaDoor.G
open Go.RowKit Go.ChangeMaps Go.MapKept Go.Proofs.YtnhigoffkmfccaaDoorW.PrintWords Go.Proofs.YtnhigoffkmfccaaDoorW.PrintLast Go.Proofs.YtnhigoffkmfccaaDoorW.PrintMore
set_option linter.unusedVariables false
set_option linter.unusedSimpArgs false

/-- A device at block g: n sectors, of which sector i reads f i; at most c were written. -/
def DevX (w : World) (g n c gs cap gm gb : Nat) (cur : Array Value) (S : Nat → ByteArray) (F : Nat → Option ByteArray) (wr : Int) (f : Nat → ByteArray) : Prop :=
  w.heap[g]? = some (.cells #[.slice (some ⟨gs, 0, none⟩) n cap, .map (some gm), .map (some gb), .bool false, .int .i64 (-1), .int .i64 wr] 76 (0, 0)) ∧ w.heap[gs]? = some (.cells cur 9 (0, 0)) ∧ (∀ i, i < n → cur[i]? = some (.string (S i))) ∧
    MapS w gm c F ∧ MapB w gb ∧ (∀ i, i < n → f i = (F i).getD (S i)) ∧ gm ≠ gb ∧ n ≤ cap ∧ n ≤ 32768 ∧ ∀ i, (F i).isSome = true → i < n
def Dev (P : Nat → Prop) (w : World) (g n c : Nat) (f : Nat → ByteArray) : Prop := ∃ (gs cap gm gb : Nat) (cur : Array Value) (S : Nat → ByteArray) (F : Nat → Option ByteArray) (wr : Int), DevX w g n c gs cap gm gb cur S F wr f ∧ P g ∧ P gm ∧ P gs ∧ P gb
/-- The blocks of a device are those of a world's first B. -/
theorem DevX.grown {w w' : World} {g n c gs cap gm gb : Nat} {cur : Array Value} {S : Nat → ByteArray} {F : Nat → Option ByteArray} {wr : Int} {f : Nat → ByteArray} (h : DevX w g n c gs cap gm gb cur S F wr f) (hb : ∀ k, k < w.heap.size → w'.heap[k]? = w.heap[k]?) : DevX w' g n c gs cap gm gb cur S F wr f := by
  obtain ⟨h1, h2, h3, h4, h5, h6⟩ := h
  exact ⟨(hb g (blk_lt h1)).trans h1, (hb gs (blk_lt h2)).trans h2, h3, h4.same (hb gm h4.lt), h5.same (hb gb (World.ownsMap.lt h5)), h6⟩
theorem Dev.below {P : Nat → Prop} {w w' : World} {g n c : Nat} {f : Nat → ByteArray} (h : Dev P w g n c f) (hb : Below w.heap.size w w') : Dev P w' g n c f := by
  obtain ⟨gs, cap, gm, gb, cur, S, F, wr, hX, hq⟩ := h
  exact ⟨gs, cap, gm, gb, cur, S, F, wr, hX.grown hb.block, hq⟩
theorem Dev.alloc {P : Nat → Prop} {w : World} {g n c : Nat} {f : Nat → ByteArray} (h : Dev P w g n c f) (o : Obj) : Dev P (w.alloc o) g n c f := h.below ((Below.refl _ w).alloc (Nat.le_refl _) o)
theorem Dev.drewN {P : Nat → Prop} {w : World} {g n c : Nat} {f : Nat → ByteArray} (h : Dev P w g n c f) (k : Nat) : Dev P (w.drewN k) g n c f := h.below (pw_below_drewN (Below.refl _ w) k)
theorem DevX.cells {w : World} {g n c gs cap gm gb : Nat} {cur : Array Value} {S : Nat → ByteArray} {F : Nat → Option ByteArray} {wr : Int} {f : Nat → ByteArray} (h : DevX w g n c gs cap gm gb cur S F wr f) :
    w.cell? ⟨g, 0, none⟩ = some (.slice (some ⟨gs, 0, none⟩) n cap) ∧ w.cell? ⟨g, 1, none⟩ = some (.map (some gm)) ∧ w.cell? ⟨g, 2, none⟩ = some (.map (some gb)) ∧ w.cell? ⟨g, 3, none⟩ = some (.bool false) ∧ w.cell? ⟨g, 4, none⟩ = some (.int .i64 (-1)) ∧ w.cell? ⟨g, 5, none⟩ = some (.int .i64 wr) ∧ w.frozen? ⟨g, 5, none⟩ = false ∧ ∀ i, i < n → w.cell? ⟨gs, i, none⟩ = some (.string (S i)) := by
  obtain ⟨h1, h2, h3, -⟩ := h
  refine ⟨?_, ?_, ?_, ?_, ?_, ?_, blk_frozen h1 _, fun i hi => ?_⟩
  · rw [blk_cell h1]; rfl
  · rw [blk_cell h1]; rfl
  · rw [blk_cell h1]; rfl
  · rw [blk_cell h1]; rfl
  · rw [blk_cell h1]; rfl
  · rw [blk_cell h1]; rfl
  · rw [blk_cell h2]; exact h3 i hi
theorem Dev.mono {P Q : Nat → Prop} {w : World} {g n c : Nat} {f : Nat → ByteArray} (h : Dev P w g n c f) (hP : ∀ k, P k → Q k) : Dev Q w g n c f := by
  obtain ⟨gs, cap, gm, gb, cur, S, F, wr, hX, q1, q2, q3, q4⟩ := h
  exact ⟨gs, cap, gm, gb, cur, S, F, wr, hX, hP _ q1, hP _ q2, hP _ q3, hP _ q4⟩
theorem Dev.n_le {P : Nat → Prop} {w : World} {g n c : Nat} {f : Nat → ByteArray} (h : Dev P w g n c f) : n ≤ 32768 := by
  obtain ⟨gs, cap, gm, gb, cur, S, F, wr, hX, -⟩ := h
  exact hX.2.2.2.2.2.2.2.2.1
/-- The blocks of a device lie in the world that holds it. -/
theorem Dev.lt {P : Nat → Prop} {w : World} {g n c : Nat} {f : Nat → ByteArray} (h : Dev P w g n c f) : Dev (fun k => P k ∧ k < w.heap.size) w g n c f := by
  obtain ⟨gs, cap, gm, gb, cur, S, F, wr, hX, q1, q2, q3, q4⟩ := h
  have l1 := blk_lt hX.1
  have l2 := blk_lt hX.2.1
  have l3 := hX.2.2.2.1.lt
  have l4 := World.ownsMap.lt hX.2.2.2.2.1
  exact ⟨gs, cap, gm, gb, cur, S, F, wr, hX, ⟨q1, l1⟩, ⟨q2, l3⟩, ⟨q3, l2⟩, ⟨q4, l4⟩⟩
/-- What grows by a block that is none of the device's keeps it. -/
theorem Dev.own {P : Nat → Prop} {w w' : World} {row : Option Nat} {g n c : Nat} {f : Nat → ByteArray} (h : Dev P w g n c f) (hg : w.grownBy w' row) (hr : ∀ r, row = some r → ¬ P r) : Dev P w' g n c f := by
  obtain ⟨gs, cap, gm, gb, cur, S, F, wr, ⟨h1, h2, h3, h4, h5, h6⟩, q1, q2, q3, q4⟩ := h
  have keep : ∀ k, P k → k < w.heap.size → w'.heap[k]? = w.heap[k]? := fun k hk hl => hg.block k hl (fun e => hr k e.symm hk)
  exact ⟨gs, cap, gm, gb, cur, S, F, wr, ⟨(keep g q1 (blk_lt h1)).trans h1, (keep gs q3 (blk_lt h2)).trans h2, h3, h4.same (keep gm q2 h4.lt), h5.same (keep gb q4 (World.ownsMap.lt h5)), h6⟩, q1, q2, q3, q4⟩
set_option maxRecDepth 100000 in
set_option maxHeartbeats 4000000 in
theorem has_calls {w : World} {g n gs cap i : Nat} (h0 : w.cell? ⟨g, 0, none⟩ = some (.slice (some ⟨gs, 0, none⟩) n cap)) (hi : i < n) :
    Calls Tryd.prog 40 #[.pointer (some ⟨g, 0, none⟩), .int .i64 i] w fun e w' => e = .returned (.bool true) ∧ w' = w := by
  have b1 : decide ((i : Int) ≥ 0) = true := decide_eq_true (by omega)
  have b2 : decide ((i : Int) < (n : Int)) = true := decide_eq_true (by omega)
  have b3 : decide (i < n) = true := decide_eq_true hi
  clear hi
  go_enter Tryd.func40, Tryd.ntmps40
  go_wp2
  go_ret
  exact ⟨rfl, rfl⟩
set_option maxRecDepth 100000 in
set_option maxHeartbeats 4000000 in
theorem reach_calls {P : Nat → Prop} {w : World} {g n c i : Nat} {f : Nat → ByteArray} (h : Dev P w g n c f) (hi : i < n) :
    Calls Tryd.prog 35 #[.pointer (some ⟨g, 0, none⟩), .int .i64 i] w fun e w' => e = .returned (.int .i64 0) ∧ w' = w := by
  obtain ⟨gs, cap, gm, gb, cur, S, F, wr, hX, hq⟩ := h
  obtain ⟨c0, c1, c2, c3, c4, c5, z5, cS⟩ := hX.cells
  have HH := Aside0.mk (has_calls c0 hi)
  clear hX cS hi c0 c1 c2 c4 c5 z5
  go_enter Tryd.func35, Tryd.ntmps35
  go_wp2_with (go_at_call 40; (with_reducible refine HH.out.mono ?_); rintro e w1 ⟨rfl, rfl⟩)
  go_ret
  exact ⟨rfl, rfl⟩
set_option maxRecDepth 100000 in
set_option maxHeartbeats 4000000 in
theorem burn_calls {P : Nat → Prop} {w : World} {g n c : Nat} {f : Nat → ByteArray} (h : Dev P w g n c f) :
    Calls Tryd.prog 37 #[.pointer (some ⟨g, 0, none⟩)] w fun e w' => e = .returned (.int .i64 0) ∧ w' = w := by
  obtain ⟨gs, cap, gm, gb, cur, S, F, wr, hX, hq⟩ := h
  obtain ⟨c0, c1, c2, c3, c4, c5, z5, cS⟩ := hX.cells
  clear hX cS c0 c1 c2 c5 z5
  go_enter Tryd.func37, Tryd.ntmps37
  go_wp2
  go_ret
  exact ⟨rfl, rfl⟩
set_option maxRecDepth 100000 in
set_option maxHeartbeats 4000000 in
/-- What is read. -/
theorem read_calls {P : Nat → Prop} {w : World} {g n c i : Nat} {f : Nat → ByteArray} (h : Dev P w g n c f) (hi : i < n) :
    Calls Tryd.prog 15 #[.pointer (some ⟨g, 0, none⟩), .int .i64 i] w fun e w' => e = .returned (.tuple #[.string (f i), .int .i64 0]) ∧ w' = w := by
  have HR := Aside0.mk (reach_calls h hi)
  obtain ⟨gs, cap, gm, gb, cur, S, F, wr, hX, hq⟩ := h
  obtain ⟨c0, c1, c2, c3, c4, c5, z5, cS⟩ := hX.cells
  have cI := cS i hi
  obtain ⟨h1, h2, h3, h4, h5, h6, h7, h8, h9, h10⟩ := hX
  have hf := h6 i hi
  have hB := h5.look i (by omega)
  have b1 : decide ((i : Int) < (n : Int)) = true := decide_eq_true (by omega)
  have b2 : (i : Int) < (n : Int) := by omega
  have b3 : ¬ ((i : Int) < 0) := by omega
  rcases h4.look i (by omega) with ⟨e1, s, hL⟩ | ⟨s, e1, hL⟩
  · rw [e1] at hf
    have hf' : f i = S i := hf
    rw [hf']
    clear h1 h2 h3 h4 h5 h6 h7 h8 h9 h10 e1 hf hf' cS hi c3 c4 c5 z5
    go_enter Tryd.func15, Tryd.ntmps15
    go_wp2_with (go_at_call 35; (with_reducible refine HR.out.mono ?_); rintro e w1 ⟨rfl, rfl⟩)
    go_ret2
    exact ⟨rfl, rfl⟩
  · rw [e1] at hf
    have hf' : f i = s := hf
    rw [hf']
    clear h1 h2 h3 h4 h5 h6 h7 h8 h9 h10 e1 hf hf' cS hi c3 c4 c5 z5
    go_enter Tryd.func15, Tryd.ntmps15
    go_wp2_with (go_at_call 35; (with_reducible refine HR.out.mono ?_); rintro e w1 ⟨rfl, rfl⟩)
    go_ret2
    exact ⟨rfl, rfl⟩
/-- Which worlds differ in a device alone. -/
def DevKept (P : Nat → Prop) (g : Nat) (w w' : World) : Prop := w'.os = w.os ∧ w'.tape = w.tape ∧ w'.output = w.output ∧ w'.heap.size = w.heap.size ∧ ∃ gm, P g ∧ P gm ∧ w.cell? ⟨g, 1, none⟩ = some (.map (some gm)) ∧ w'.cell? ⟨g, 1, none⟩ = some (.map (some gm)) ∧ (∀ k, k ≠ g → k ≠ gm → w'.heap[k]? = w.heap[k]?) ∧ (∃ es cl, w.heap[gm]? = some (.map es cl)) ∧ ∃ es cl, w'.heap[gm]? = some (.map es cl)
theorem dev_put {w w2 : World} {g n c gs cap gm gb : Nat} {cur : Array Value} {S : Nat → ByteArray} {F : Nat → Option ByteArray} {wr wr' : Int} {f : Nat → ByteArray} {i : Nat} {s : ByteArray} (hi : i < n) (h : DevX w g n c gs cap gm gb cur S F wr f) {P : Nat → Prop} (hq : P g ∧ P gm ∧ P gs ∧ P gb)
    (hM : MapS w2 gm (c + 1) (fput F i (some s))) (ht : (w.setCell ⟨g, 5, none⟩ (.int .i64 wr')).mapTurned w2 gm) : (DevX w2 g n (c + 1) gs cap gm gb cur S (fput F i (some s)) wr' (fput f i s) ∧ P g ∧ P gm ∧ P gs ∧ P gb) ∧ DevKept P g w w2 := by
  obtain ⟨h1, h2, h3, h4, h5, h6, h7, h8, h9, h10⟩ := h
  obtain ⟨D, ⟨es0, cl0, m1, -⟩, -⟩ := h4
  have hgm : g ≠ gm := fun e => by rw [e, m1] at h1; cases h1
  have hgs : gs ≠ gm := fun e => by rw [e, m1] at h2; cases h2
  have hgg : g ≠ gs := fun e => by rw [e, h2] at h1; cases h1
  have hgb : g ≠ gb := fun e => by
    obtain ⟨es, cl, q, -⟩ := h5
    rw [← e, h1] at q; cases q
  obtain ⟨es, cl, es', cl', t1, rfl⟩ := ht
  have b1 := blk_set h1 5 (.int .i64 wr')
  have keep : ∀ k, k ≠ g → k ≠ gm → (Go.ChangeMaps.setBlock (w.setCell ⟨g, 5, none⟩ (.int .i64 wr')) gm (.map es' cl')).heap[k]? = w.heap[k]? := fun k k1 k2 => by
    rw [heap_setBlock_other t1 _ (fun e => k2 e), Below.heap_setCell _ _ _ _ k1]
  have b2 : (Go.ChangeMaps.setBlock (w.setCell ⟨g, 5, none⟩ (.int .i64 wr')) gm (.map es' cl')).heap[g]? = some (.cells #[.slice (some ⟨gs, 0, none⟩) n cap, .map (some gm), .map (some gb), .bool false, .int .i64 (-1), .int .i64 wr'] 76 (0, 0)) := by
    rw [heap_setBlock_other t1 _ (fun e => hgm e), b1]
    rfl
  refine ⟨⟨⟨b2, (keep gs (fun e => hgg e.symm) hgs).trans h2, h3, hM, h5.same (keep gb (fun e => hgb e.symm) (fun e => h7 e.symm)), fun j hj => ?_, h7, h8, h9, fun j hj => ?_⟩, hq⟩, rfl, rfl, rfl, by simp [Go.ChangeMaps.setBlock, World.setCell], gm, hq.1, hq.2.1, by rw [blk_cell h1]; rfl, by rw [blk_cell b2]; rfl, keep, ⟨es0, cl0, m1⟩, ⟨es', cl', heap_setBlock_same t1 _⟩⟩
  · unfold fput
    by_cases e : j = i
    · rw [if_pos e, if_pos e]; rfl
    · rw [if_neg e, if_neg e]; exact h6 j hj
  · unfold fput at hj
    by_cases e : j = i
    · rw [e]; exact hi
    · rw [if_neg e] at hj; exact h10 j hj
theorem DevKept.below {P : Nat → Prop} {B g : Nat} {w w' : World} (h : DevKept P g w w') (hP : ∀ k, P k → B ≤ k) : Below B w w' := by
  obtain ⟨h1, h2, h3, h4, gm, h5, h6, -, -, h7, -⟩ := h
  have := hP _ h5
  have := hP _ h6
  exact ⟨h1, h2, h3, by omega, fun k hk => h7 k (by omega) (by omega)⟩
set_option maxRecDepth 100000 in
set_option maxHeartbeats 4000000 in
/-- A device, of which it is told what is sure, and what waits. -/
def DevF (P : Nat → Prop) (w : World) (g n c : Nat) (S : Nat → ByteArray) (F : Nat → Option ByteArray) : Prop := ∃ (gs cap gm gb : Nat) (cur : Array Value) (wr : Int), DevX w g n c gs cap gm gb cur S F wr (fun i => (F i).getD (S i)) ∧ P g ∧ P gm ∧ P gs ∧ P gb
theorem DevF.below {P : Nat → Prop} {w w' : World} {g n c : Nat} {S : Nat → ByteArray} {F : Nat → Option ByteArray} (h : DevF P w g n c S F) (hb : Below w.heap.size w w') : DevF P w' g n c S F := by
  obtain ⟨gs, cap, gm, gb, cur, wr, hX, hq⟩ := h
  exact ⟨gs, cap, gm, gb, cur, wr, hX.grown hb.block, hq⟩
theorem DevX.ext {w : World} {g n c gs cap gm gb : Nat} {cur : Array Value} {S : Nat → ByteArray} {F : Nat → Option ByteArray} {wr : Int} {f f' : Nat → ByteArray} (h : DevX w g n c gs cap gm gb cur S F wr f) (hf : ∀ i, i < n → f' i = f i) : DevX w g n c gs cap gm gb cur S F wr f' := by
  obtain ⟨h1, h2, h3, h4, h5, h6, h7⟩ := h
  exact ⟨h1, h2, h3, h4, h5, fun i hi => (hf i hi).trans (h6 i hi), h7⟩
theorem DevF.dev {P : Nat → Prop} {w : World} {g n c : Nat} {S : Nat → ByteArray} {F : Nat → Option ByteArray} (h : DevF P w g n c S F) : Dev P w g n c (fun i => (F i).getD (S i)) := by
  obtain ⟨gs, cap, gm, gb, cur, wr, hX, hq⟩ := h
  exact ⟨gs, cap, gm, gb, cur, S, F, wr, hX, hq⟩
theorem Dev.ext {P : Nat → Prop} {w : World} {g n c : Nat} {f f' : Nat → ByteArray} (h : Dev P w g n c f) (hf : ∀ i, i < n → f' i = f i) : Dev P w g n c f' := by
  obtain ⟨gs, cap, gm, gb, cur, S, F, wr, hX, hq⟩ := h
  exact ⟨gs, cap, gm, gb, cur, S, F, wr, hX.ext hf, hq⟩
theorem Dev.devF {P : Nat → Prop} {w : World} {g n c : Nat} {f : Nat → ByteArray} (h : Dev P w g n c f) : ∃ S F, DevF P w g n c S F ∧ ∀ i, i < n → f i = (F i).getD (S i) := by
  obtain ⟨gs, cap, gm, gb, cur, S, F, wr, hX, hq⟩ := h
  exact ⟨S, F, ⟨gs, cap, gm, gb, cur, wr, hX.ext (fun i hi => (hX.2.2.2.2.2.1 i hi).symm), hq⟩, hX.2.2.2.2.2.1⟩
set_option maxRecDepth 100000 in
set_option maxHeartbeats 4000000 in
/-- What is written. -/
theorem writeX_calls {P : Nat → Prop} {w : World} {g n c i gs cap gm gb : Nat} {cur : Array Value} {S : Nat → ByteArray} {F : Nat → Option ByteArray} {wr : Int} {f : Nat → ByteArray} {s : ByteArray} (hX : DevX w g n c gs cap gm gb cur S F wr f) (hq : P g ∧ P gm ∧ P gs ∧ P gb) (hi : i < n) (hs : s.size = 512) (hc : c < 1000000) :
    Calls Tryd.prog 23 #[.pointer (some ⟨g, 0, none⟩), .int .i64 i, .string s] w fun e w' => e = .returned (.int .i64 0) ∧ (DevX w' g n (c + 1) gs cap gm gb cur S (fput F i (some s)) (wrap64 (wr + 1)) (fput f i s) ∧ P g ∧ P gm ∧ P gs ∧ P gb) ∧ DevKept P g w w' := by
  have h : Dev P w g n c f := ⟨gs, cap, gm, gb, cur, S, F, wr, hX, hq⟩
  have HR := Aside0.mk (reach_calls h hi)
  have HBn := Aside0.mk (burn_calls h)
  clear h
  have HX := Aside0.mk hX
  obtain ⟨c0, c1, c2, c3, c4, c5, z5, cS⟩ := hX.cells
  obtain ⟨h1, h2, h3, h4, h5, h6, h7, h8, h9, h10⟩ := hX
  have hlt4 := h4.lt
  have hgm : gm ≠ g := fun e => by
    obtain ⟨D, ⟨es0, cl0, m1, -⟩, -⟩ := h4
    rw [e, h1] at m1; cases m1
  have h4' : MapS (w.setCell ⟨g, 5, none⟩ (.int .i64 (wrap64 (wr + 1)))) gm c F := h4.same (Below.heap_setCell _ _ _ _ hgm)
  obtain ⟨w2, hrun, hM, ht⟩ := h4'.put (by omega) i (by omega) s (by omega)
  have HD := Aside0.mk (dev_put hi HX.out hq hM ht)
  have c1' : (w.setCell ⟨g, 5, none⟩ (.int .i64 (wrap64 (wr + 1)))).cell? ⟨g, 1, none⟩ = some (.map (some gm)) := by
    rw [blk_cell (blk_set h1 5 _)]; rfl
  have b1 : ((s.size : Int) != 512) = false := by rw [hs]; rfl
  clear h1 h2 h3 h4 h5 h6 h7 h8 h9 h10 h4' hM ht hlt4 hgm cS hi c0 c2 c3 c4 hs
  go_enter Tryd.func23, Tryd.ntmps23
  go_wp2_with (first
    | (go_at_call 35; (with_reducible refine HR.out.mono ?_); rintro e w1 ⟨rfl, rfl⟩)
    | (go_at_call 37; (with_reducible refine HBn.out.mono ?_); rintro e w1 ⟨rfl, rfl⟩))
  go_ret
  exact ⟨rfl, HD.out⟩
theorem write_calls {P : Nat → Prop} {w : World} {g n c i : Nat} {f : Nat → ByteArray} {s : ByteArray} (h : Dev P w g n c f) (hi : i < n) (hs : s.size = 512) (hc : c < 1000000) :
    Calls Tryd.prog 23 #[.pointer (some ⟨g, 0, none⟩), .int .i64 i, .string s] w fun e w' => e = .returned (.int .i64 0) ∧ Dev P w' g n (c + 1) (fput f i s) ∧ DevKept P g w w' := by
  obtain ⟨gs, cap, gm, gb, cur, S, F, wr, hX, hq⟩ := h
  refine (writeX_calls hX hq hi hs hc).mono ?_
  rintro e w' ⟨he, hD, hk⟩
  exact ⟨he, ⟨gs, cap, gm, gb, cur, S, _, _, hD⟩, hk⟩
theorem writeF_calls {P : Nat → Prop} {w : World} {g n c i : Nat} {S : Nat → ByteArray} {F : Nat → Option ByteArray} {s : ByteArray} (h : DevF P w g n c S F) (hi : i < n) (hs : s.size = 512) (hc : c < 1000000) :
    Calls Tryd.prog 23 #[.pointer (some ⟨g, 0, none⟩), .int .i64 i, .string s] w fun e w' => e = .returned (.int .i64 0) ∧ DevF P w' g n (c + 1) S (fput F i (some s)) ∧ DevKept P g w w' := by
  obtain ⟨gs, cap, gm, gb, cur, wr, hX, hq⟩ := h
  refine (writeX_calls hX hq hi hs hc).mono ?_
  rintro e w' ⟨he, hD, hk⟩
  refine ⟨he, ⟨gs, cap, gm, gb, cur, _, hD.1.ext (fun j hj => ?_), hD.2⟩, hk⟩
  unfold fput
  by_cases e : j = i
  · rw [if_pos e, if_pos e]; rfl
  · rw [if_neg e, if_neg e]
end Go.Proofs.YtnhigoffkmfccaaDoor.G
