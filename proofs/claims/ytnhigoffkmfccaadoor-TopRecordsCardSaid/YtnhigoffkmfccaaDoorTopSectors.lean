/- The law TopSectors over this seat's program: what it comes to, walked. Conditions: each lemma's own. -/
import Derived.Test.YtnhigoffkmfccaaDoorCluRead
import Derived.Test.YtnhigoffkmfccaaDoorDevMake
import Derived.Test.YtnhigoffkmfccaaDoorDevFill
namespace Go.Proofs.YtnhigoffkmfccaaDoor.G
open Go.RowKit Go.Shelf Go.ChangeMaps Go.MapKept Go.Proofs.YtnhigoffkmfccaaDoorW.PrintWords Go.Proofs.YtnhigoffkmfccaaDoorW.PrintLast Go.Proofs.YtnhigoffkmfccaaDoorW.PrintMore
set_option linter.unusedVariables false
set_option linter.unusedSimpArgs false
/-- So many noughts. -/
def zerosX (z : Nat) : ByteArray := strOfNums (List.replicate z 0)
/-- A text is written to a container of noughts: all sums are as they must be. -/
def secFine (k n z first m : Nat) (s : ByteArray) : Prop :=
  z = m * 512 ∧ 1 ≤ m ∧ first + m ≤ n ∧ ∃ (blank : Int) (S X : Nat → Int), combine_Blank.f k (z : Int) = some (blank, 0) ∧ crc_Sum.f (zerosX z) = some blank ∧ crc_Sum.f ⟨#[]⟩ = some (S 0) ∧
    (∀ i, i < m → crc_Sum.f (sect (fillX z s) i) = some (X i) ∧ combine_Join.f k (S i) (X i) 512 = some (S (i + 1), 0)) ∧ crc_Sum.f (fillX z s) = some (S m)
/-- What TopSectors asks. -/
def secOk (k : Nat) (a b c d ata : Int) (s : ByteArray) : Prop :=
  caulktop_begins.f = some true ∧ ∃ n : Int, geom_Sectors.f k a b c d = some n ∧ ((n < 1 ∨ 256 < n) ∨ (1 ≤ n ∧ n ≤ 256 ∧ ∃ z : Nat, geom_Size.f k a b c d = some (z : Int) ∧ z ≠ 0 ∧ z ≤ 1000000 ∧
    ((z < s.size ∧ ∃ p e, geom_First.f k a b c d ata = some (p, e)) ∨ (s.size ≤ z ∧ geom_First.f k a b c d ata = some (0, 1)) ∨
      (s.size ≤ z ∧ ∃ first m : Nat, geom_First.f k a b c d ata = some ((first : Int), 0) ∧ secFine k n.toNat z first m s))))
open Classical in
noncomputable def caulktop_TopSectors.f (k : Nat) (a b c d ata : Int) (s : ByteArray) : Option Bool := if secOk k a b c d ata s then some true else none
def caulktop_TopSectors.Pure : Prop := ∀ (a b c d ata : Int) (s : ByteArray), (Lit.int .i64 a).wf = true → (Lit.int .i64 b).wf = true → (Lit.int .i64 c).wf = true → (Lit.int .i64 d).wf = true → (Lit.int .i64 ata).wf = true → s.size ≤ 140737488351232 → ∃ k, caulktop_TopSectors.f k a b c d ata s = some true
/-- A geometry in memory. -/
def GeoAt (w : World) (g0 : Nat) (a b c d : Int) : Prop := w.heap[g0]? = some (.cells #[.int .i64 a, .int .i64 b, .int .i64 c, .int .i64 d] 23 (0, 0))
theorem GeoAt.below {w w1 : World} {g0 : Nat} {a b c d : Int} (h : GeoAt w g0 a b c d) (hb : Below w.heap.size w w1) : GeoAt w1 g0 a b c d := (hb.block g0 (blk_lt h)).trans h
theorem GeoAt.cells {w : World} {g0 : Nat} {a b c d : Int} (h : GeoAt w g0 a b c d) : w.cell? ⟨g0, 0, none⟩ = some (.int .i64 a) ∧ w.cell? ⟨g0, 1, none⟩ = some (.int .i64 b) ∧ w.cell? ⟨g0, 2, none⟩ = some (.int .i64 c) ∧ w.cell? ⟨g0, 3, none⟩ = some (.int .i64 d) := by
  refine ⟨?_, ?_, ?_, ?_⟩ <;> (rw [blk_cell h]; rfl)
set_option maxRecDepth 100000 in
set_option maxHeartbeats 4000000 in
theorem tops_out (k : Nat) (a b c d ata n : Int) (s : ByteArray) (w : World) (hG : GT w) (hbeg : caulktop_begins.f = some true) (hS : geom_Sectors.f k a b c d = some n) (hn : n < 1 ∨ 256 < n) :
    Calls Tryd.prog 3 #[.agg #[.int .i64 a, .int .i64 b, .int .i64 c, .int .i64 d], .int .i64 ata, .string s] w fun e w' => e = .returned (.bool true) ∧ Below w.heap.size w w' := by
  have hg0 : GeoAt (w.alloc (.cells #[.int .i64 a, .int .i64 b, .int .i64 c, .int .i64 d] 23)) w.heap.size a b c d := World.alloc_heap_new w _
  have hb0 := below_alloc (Below.refl w.heap.size w) (.cells #[.int .i64 a, .int .i64 b, .int .i64 c, .int .i64 d] 23)
  have HG := Aside0.mk hG
  have HG0 := Aside0.mk hg0
  have HB0 := Aside0.mk hb0
  have HBeg := Aside0.mk (fun W hW => caulktop_begins.calls true W hW hbeg)
  have HSec := Aside0.mk (fun W => geom_Sectors.calls k a b c d n W hS)
  have sz0 : w.heap.size ≤ (w.alloc (.cells #[.int .i64 a, .int .i64 b, .int .i64 c, .int .i64 d] 23)).heap.size := hb0.size
  have SZ0 := Aside0.mk sz0
  clear hG hg0 hb0 hbeg hS sz0
  by_cases h1 : n < 1
  all_goals
    (first | (have h2 : n > 256 := by omega) | skip)
    clear hn
    go_enter Tryd.func3, Tryd.ntmps3
    go_wp2_with (first
      | (go_at_call 6; (with_reducible refine (HBeg.out _ (HG.out.below HB0.out)).mono ?_); rintro e w1 ⟨rfl, hb⟩; have HB1 := Aside0.mk hb.below; obtain ⟨c0, c1, c2, c3⟩ := (HG0.out.below HB1.out).cells; clear hb)
      | (go_at_call 7; (with_reducible refine (HSec.out _).mono ?_); rintro e w2 ⟨rfl, hb⟩; have HB2 := Aside0.mk hb; clear hb))
    go_ret
    exact ⟨rfl, HB0.out.trans ((HB1.out.mono SZ0.out).trans (HB2.out.mono (Nat.le_trans SZ0.out HB1.out.size)))⟩
set_option maxRecDepth 100000 in
set_option maxHeartbeats 4000000 in
theorem tops_long (k : Nat) (a b c d ata : Int) (n z : Nat) (p0 e0 : Int) (s : ByteArray) (w : World) (hG : GT w) (hbeg : caulktop_begins.f = some true) (hS : geom_Sectors.f k a b c d = some (n : Int)) (hn1 : 1 ≤ n) (hn2 : n ≤ 256) (hZ : geom_Size.f k a b c d = some (z : Int)) (hz0 : z ≠ 0) (hz1 : z ≤ 1000000) (hs : z < s.size) (hF : geom_First.f k a b c d ata = some (p0, e0)) :
    Calls Tryd.prog 3 #[.agg #[.int .i64 a, .int .i64 b, .int .i64 c, .int .i64 d], .int .i64 ata, .string s] w fun e w' => e = .returned (.bool true) ∧ Below w.heap.size w w' := by
  have hg0 : GeoAt (w.alloc (.cells #[.int .i64 a, .int .i64 b, .int .i64 c, .int .i64 d] 23)) w.heap.size a b c d := World.alloc_heap_new w _
  have hb0 := below_alloc (Below.refl w.heap.size w) (.cells #[.int .i64 a, .int .i64 b, .int .i64 c, .int .i64 d] 23)
  have HG := Aside0.mk hG
  have HG0 := Aside0.mk hg0
  have HB0 := Aside0.mk hb0
  have HBeg := Aside0.mk (fun W hW => caulktop_begins.calls true W hW hbeg)
  have HSec := Aside0.mk (fun W => geom_Sectors.calls k a b c d n W hS)
  have HNew := Aside0.mk (fun W => new_calls (w := W) hn1 (Nat.le_trans hn2 (by decide)))
  have b1 : ¬ ((n : Int) < 1) := by omega
  have b2 : ¬ ((n : Int) > 256) := by omega
  have SZ0 := Aside0.mk hb0.size
  have HFill := Aside0.mk (fun W => fill_long k z a b c d s W hZ hz0 hs)
  have HFi := Aside0.mk (fun W => geom_First.calls k a b c d ata p0 e0 W hF)
  clear hG hg0 hb0 hbeg hS hn1 hn2 hZ hz0 hz1 hs hF
  go_enter Tryd.func3, Tryd.ntmps3
  go_wp2_with (first
    | (go_at_call 6; (with_reducible refine (HBeg.out _ (HG.out.below HB0.out)).mono ?_); rintro e w1 ⟨rfl, hb⟩; have HB1 := Aside0.mk (HB0.out.trans (hb.below.mono SZ0.out)); have HG1 := Aside0.mk (HG0.out.below hb.below); obtain ⟨c0, c1, c2, c3⟩ := HG1.out.cells; clear hb)
    | (go_at_call 7; (with_reducible refine (HSec.out _).mono ?_); rintro e w2 ⟨rfl, hb⟩; have HB2 := Aside0.mk (HB1.out.trans (hb.mono HB1.out.size)); have HG2 := Aside0.mk (HG1.out.below hb); obtain ⟨d0, d1, d2, d3⟩ := HG2.out.cells; clear hb)
    | (go_at_call 8; (with_reducible refine (HNew.out _).mono ?_); rintro e w3 ⟨g, rfl, hD, hb⟩; have HD3 := Aside0.mk hD; have HB3 := Aside0.mk (HB2.out.trans (hb.mono HB2.out.size)); have HG3 := Aside0.mk (HG2.out.below hb); have HS2 := Aside0.mk (show w.heap.size < w2.heap.size from blk_lt HG2.out); obtain ⟨e0, e1, e2, e3⟩ := HG3.out.cells; clear hb hD)
    | (go_at_call 9; (with_reducible refine (HFill.out _).mono ?_); rintro e w4 ⟨rfl, hb⟩; have HB4 := Aside0.mk (HB3.out.trans (hb.mono HB3.out.size)); have HG4 := Aside0.mk (HG3.out.below hb); obtain ⟨f0, f1, f2, f3⟩ := HG4.out.cells; clear hb)
    | (go_at_call 10; (with_reducible refine (HFi.out _).mono ?_); rintro e w5 ⟨rfl, hb⟩; have HB5 := Aside0.mk (HB4.out.trans (hb.mono HB4.out.size)); clear hb))
  go_ret
  exact ⟨rfl, HB5.out⟩
set_option maxRecDepth 100000 in
set_option maxHeartbeats 4000000 in
theorem tops_none (k : Nat) (a b c d ata : Int) (n z : Nat) (s : ByteArray) (w : World) (hG : GT w) (hbeg : caulktop_begins.f = some true) (hS : geom_Sectors.f k a b c d = some (n : Int)) (hn1 : 1 ≤ n) (hn2 : n ≤ 256) (hZ : geom_Size.f k a b c d = some (z : Int)) (hz0 : z ≠ 0) (hz1 : z ≤ 1000000) (hs : s.size ≤ z) (hF : geom_First.f k a b c d ata = some (0, 1)) :
    Calls Tryd.prog 3 #[.agg #[.int .i64 a, .int .i64 b, .int .i64 c, .int .i64 d], .int .i64 ata, .string s] w fun e w' => e = .returned (.bool true) ∧ Below w.heap.size w w' := by
  have hg0 : GeoAt (w.alloc (.cells #[.int .i64 a, .int .i64 b, .int .i64 c, .int .i64 d] 23)) w.heap.size a b c d := World.alloc_heap_new w _
  have hb0 := below_alloc (Below.refl w.heap.size w) (.cells #[.int .i64 a, .int .i64 b, .int .i64 c, .int .i64 d] 23)
  have HG := Aside0.mk hG
  have HG0 := Aside0.mk hg0
  have HB0 := Aside0.mk hb0
  have HBeg := Aside0.mk (fun W hW => caulktop_begins.calls true W hW hbeg)
  have HSec := Aside0.mk (fun W => geom_Sectors.calls k a b c d n W hS)
  have HNew := Aside0.mk (fun W => new_calls (w := W) hn1 (Nat.le_trans hn2 (by decide)))
  have b1 : ¬ ((n : Int) < 1) := by omega
  have b2 : ¬ ((n : Int) > 256) := by omega
  have SZ0 := Aside0.mk hb0.size
  have HFill := Aside0.mk (fun W => fill_calls k z a b c d s W hZ hz0 hz1 hs)
  have HFi := Aside0.mk (fun W => geom_First.calls k a b c d ata 0 1 W hF)
  obtain ⟨t, ht⟩ : ∃ t, t = fillX z s := ⟨_, rfl⟩
  rw [← ht] at HFill
  clear hG hg0 hb0 hbeg hS hn1 hn2 hZ hz0 hz1 hs hF ht
  go_enter Tryd.func3, Tryd.ntmps3
  go_wp2_with (first
    | (go_at_call 6; (with_reducible refine (HBeg.out _ (HG.out.below HB0.out)).mono ?_); rintro e w1 ⟨rfl, hb⟩; have HB1 := Aside0.mk (HB0.out.trans (hb.below.mono SZ0.out)); have HG1 := Aside0.mk (HG0.out.below hb.below); obtain ⟨c0, c1, c2, c3⟩ := HG1.out.cells; clear hb)
    | (go_at_call 7; (with_reducible refine (HSec.out _).mono ?_); rintro e w2 ⟨rfl, hb⟩; have HB2 := Aside0.mk (HB1.out.trans (hb.mono HB1.out.size)); have HG2 := Aside0.mk (HG1.out.below hb); obtain ⟨d0, d1, d2, d3⟩ := HG2.out.cells; clear hb)
    | (go_at_call 8; (with_reducible refine (HNew.out _).mono ?_); rintro e w3 ⟨g, rfl, hD, hb⟩; have HD3 := Aside0.mk hD; have HB3 := Aside0.mk (HB2.out.trans (hb.mono HB2.out.size)); have HG3 := Aside0.mk (HG2.out.below hb); have HS2 := Aside0.mk (show w.heap.size < w2.heap.size from blk_lt HG2.out); obtain ⟨e0, e1, e2, e3⟩ := HG3.out.cells; clear hb hD)
    | (go_at_call 9; (with_reducible refine (HFill.out _).mono ?_); rintro e w4 ⟨rfl, hb⟩; have HB4 := Aside0.mk (HB3.out.trans (hb.mono HB3.out.size)); have HG4 := Aside0.mk (HG3.out.below hb); obtain ⟨f0, f1, f2, f3⟩ := HG4.out.cells; clear hb)
    | (go_at_call 10; (with_reducible refine (HFi.out _).mono ?_); rintro e w5 ⟨rfl, hb⟩; have HB5 := Aside0.mk (HB4.out.trans (hb.mono HB4.out.size)); clear hb))
  go_ret
  exact ⟨rfl, HB5.out⟩
theorem fin_vals (m : Nat) : (List.finRange m).map (fun i : Fin m => i.val) = List.range m := by
  apply List.ext_getElem
  · simp
  · intro i h1 h2
    simp
theorem flat_fin {α : Type} (m : Nat) (g : Nat → List α) : (List.finRange m).flatMap (fun i : Fin m => g i.val) = (List.range m).flatMap g := by
  rw [← fin_vals m, List.flatMap_map]
theorem chunks {α : Type} (l : List α) (m : Nat) : (List.range m).flatMap (fun i => (l.drop (i * 512)).take 512) = l.take (m * 512) := by
  induction m with
  | zero => simp
  | succ m ih =>
    rw [List.range_succ, List.flatMap_append, ih, List.flatMap_cons, List.flatMap_nil, List.append_nil, Nat.succ_mul, List.take_add]
theorem rep_flat (m k : Nat) : (List.range m).flatMap (fun _ => List.replicate k (0 : Int)) = List.replicate (m * k) 0 := by
  induction m with
  | zero => simp
  | succ m ih => rw [List.range_succ, List.flatMap_append, ih, List.flatMap_cons, List.flatMap_nil, List.append_nil, List.replicate_append_replicate, Nat.succ_mul]
theorem bytesOf_rep (k : Nat) : bytesOf (strOfNums (List.replicate k 0)) = List.replicate k 0 := by
  unfold bytesOf strOfNums
  simp
theorem strOfNums_bytesOf' (s : ByteArray) : strOfNums (bytesOf s) = s := by
  unfold bytesOf strOfNums
  cases s with | mk d => ?_
  refine congrArg ByteArray.mk ?_
  rw [List.map_map, show ((fun n : Int => UInt8.ofNat n.toNat) ∘ fun b : UInt8 => (b.toNat : Int)) = id from funext fun b => by simp, List.map_id]
theorem raw_blank (first m : Nat) : rawB (fun _ => blank512) first (List.finRange m) = List.replicate (m * 512) 0 := by
  unfold rawB blank512
  rw [flat_fin m (fun _ => bytesOf (strOfNums (List.replicate 512 0))), bytesOf_rep, rep_flat]
theorem wrL_get (first : Nat) (s : ByteArray) {m : Nat} (pre : List (Fin m)) : ∀ (f : Nat → ByteArray) (q : Nat), (wrL f first s pre q = f q ∧ ∀ x ∈ pre, first + x.val ≠ q) ∨ (wrL f first s pre q = sect s (q - first) ∧ ∃ x ∈ pre, first + x.val = q) := by
  induction pre with
  | nil => intro f q; exact .inl ⟨rfl, fun x hx => by cases hx⟩
  | cons x pre ih =>
    intro f q
    have e : wrL f first s (x :: pre) = wrL (fput f (first + x.val) (sect s x.val)) first s pre := rfl
    rw [e]
    rcases ih (fput f (first + x.val) (sect s x.val)) q with ⟨h1, h2⟩ | ⟨h1, y, hy, h2⟩
    · by_cases hq : q = first + x.val
      · refine .inr ⟨?_, x, List.mem_cons_self, hq.symm⟩
        rw [h1]
        unfold fput
        rw [if_pos hq, hq, Nat.add_sub_cancel_left]
      · refine .inl ⟨?_, fun y hy => ?_⟩
        · rw [h1]
          unfold fput
          rw [if_neg hq]
        · rcases List.mem_cons.1 hy with rfl | hy
          · exact fun e => hq e.symm
          · exact h2 y hy
    · exact .inr ⟨h1, y, List.mem_cons_of_mem _ hy, h2⟩
theorem wrL_at (f : Nat → ByteArray) (first : Nat) (s : ByteArray) {m i : Nat} (hi : i < m) : wrL f first s (List.finRange m) (first + i) = sect s i := by
  rcases wrL_get first s (List.finRange m) f (first + i) with ⟨-, h⟩ | ⟨h, -⟩
  · exact absurd rfl (h ⟨i, hi⟩ (List.mem_finRange _))
  · rw [h, Nat.add_sub_cancel_left]
theorem bytesOf_sect (s : ByteArray) (i : Nat) : bytesOf (sect s i) = ((bytesOf s).drop (i * 512)).take 512 := by
  unfold bytesOf sect
  rw [ByteArray.data_extract, Array.toList_extract, List.extract_eq_take_drop]
  rw [← List.map_drop, ← List.map_take, Nat.add_sub_cancel_left]
theorem raw_wr (f : Nat → ByteArray) (first : Nat) (s : ByteArray) {m : Nat} (hs : s.size = m * 512) : strOfNums (rawB (wrL f first s (List.finRange m)) first (List.finRange m)) = s := by
  have e : rawB (wrL f first s (List.finRange m)) first (List.finRange m) = bytesOf s := by
    unfold rawB
    rw [show (fun i : Fin m => bytesOf (wrL f first s (List.finRange m) (first + i.val))) = fun i : Fin m => ((bytesOf s).drop (i.val * 512)).take 512 from funext fun i => by rw [wrL_at f first s i.isLt, bytesOf_sect]]
    rw [flat_fin m (fun i => ((bytesOf s).drop (i * 512)).take 512), chunks, List.take_of_length_le (by rw [bytesOf_length]; omega)]
  rw [e]
  exact strOfNums_bytesOf' s
theorem fillX_size {n : Nat} {s : ByteArray} (h : s.size ≤ n) : (fillX n s).size = n := by
  unfold fillX
  rw [strOfNums_size, List.length_append, bytesOf_length, List.length_replicate]
  omega
set_option maxRecDepth 100000 in
set_option maxHeartbeats 4000000 in
theorem tops_fine (k : Nat) (a b c d ata : Int) (n z : Nat) (first m : Nat) (s : ByteArray) (w : World) (hG : GT w) (hbeg : caulktop_begins.f = some true) (hS : geom_Sectors.f k a b c d = some (n : Int)) (hn1 : 1 ≤ n) (hn2 : n ≤ 256) (hZ : geom_Size.f k a b c d = some (z : Int)) (hz0 : z ≠ 0) (hz1 : z ≤ 1000000) (hs : s.size ≤ z) (hF : geom_First.f k a b c d ata = some ((first : Int), 0)) (hX : secFine k n z first m s) :
    Calls Tryd.prog 3 #[.agg #[.int .i64 a, .int .i64 b, .int .i64 c, .int .i64 d], .int .i64 ata, .string s] w fun e w' => e = .returned (.bool true) ∧ Below w.heap.size w w' := by
  have hg0 : GeoAt (w.alloc (.cells #[.int .i64 a, .int .i64 b, .int .i64 c, .int .i64 d] 23)) w.heap.size a b c d := World.alloc_heap_new w _
  have hb0 := below_alloc (Below.refl w.heap.size w) (.cells #[.int .i64 a, .int .i64 b, .int .i64 c, .int .i64 d] 23)
  have HG := Aside0.mk hG
  have HG0 := Aside0.mk hg0
  have HB0 := Aside0.mk hb0
  have HBeg := Aside0.mk (fun W hW => caulktop_begins.calls true W hW hbeg)
  have HSec := Aside0.mk (fun W => geom_Sectors.calls k a b c d n W hS)
  have HNew := Aside0.mk (fun W => new_calls (w := W) hn1 (Nat.le_trans hn2 (by decide)))
  have b1 : ¬ ((n : Int) < 1) := by omega
  have b2 : ¬ ((n : Int) > 256) := by omega
  have SZ0 := Aside0.mk hb0.size
  obtain ⟨hzm, hm1, hfm, blank, S, X, hBl, hC0, hS0, hSt, hSm⟩ := hX
  have hm2 : m ≤ 2147483648 := by omega
  have HFill := Aside0.mk (fun W => fill_calls k z a b c d s W hZ hz0 hz1 hs)
  have HFi := Aside0.mk (fun W => geom_First.calls k a b c d ata (first : Int) 0 W hF)
  obtain ⟨t, ht⟩ : ∃ t, t = fillX z s := ⟨_, rfl⟩
  have htz : t.size = z := by rw [ht]; exact fillX_size hs
  rw [← ht] at HFill hSt hSm
  have HBl := Aside0.mk (fun W => combine_Blank.calls k (z : Int) blank 0 W hBl)
  have HRd0 := Aside0.mk (fun (W : World) (P : Nat → Prop) (g : Nat) (hD : Dev P W g n 0 (fun _ => blank512)) (hG : GT W) => cread_calls hD hG k a b c d ata first z m blank hZ hF hzm hm1 hm2 hfm (fun _ _ => blank512_size) (zerosX z) (by rw [raw_blank, ← hzm]; rfl) hC0)
  have HRd1 := Aside0.mk (fun (W : World) (P : Nat → Prop) (g : Nat) (hD : Dev P W g n m (wrL (fun _ => blank512) first t (List.finRange m))) (hG : GT W) => cread_calls hD hG k a b c d ata first z m (S m) hZ hF hzm hm1 hm2 hfm (fun i hi => by rw [wrL_at _ _ _ hi]; exact sect_size (by omega) hi) t (raw_wr _ _ _ (by omega)) hSm)
  have HWr := Aside0.mk (fun (W : World) (P : Nat → Prop) (g : Nat) (hD : Dev P W g n 0 (fun _ => blank512)) => cwrite_calls hD k a b c d ata first z m t hZ hF hzm hm2 htz hfm (by omega))
  have HS0 := Aside0.mk hS0
  have HSt := Aside0.mk hSt
  have HFM := Aside0.mk hfm
  have HN2 := Aside0.mk hn2
  have HM2 := Aside0.mk (show m ≤ 2000 by omega)
  have q1 : (z : Int) / 512 = (m : Int) := by omega
  have q2 : (z : Int) ≤ 1000000 := by omega
  have q3 : (t.size : Int) = (z : Int) := by omega
  clear hG hg0 hb0 hbeg hS hn1 hn2 hZ hz0 hz1 hs hF ht htz hzm hm1 hfm hBl hC0 hS0 hSt hSm hm2
  go_enter Tryd.func3, Tryd.ntmps3
  go_wp2_with (first
    | (go_at_call 6; (with_reducible refine (HBeg.out _ (HG.out.below HB0.out)).mono ?_); rintro e w1 ⟨rfl, hb⟩; have HB1 := Aside0.mk (HB0.out.trans (hb.below.mono SZ0.out)); have HG1 := Aside0.mk (HG0.out.below hb.below); obtain ⟨c0, c1, c2, c3⟩ := HG1.out.cells; clear hb)
    | (go_at_call 7; (with_reducible refine (HSec.out _).mono ?_); rintro e w2 ⟨rfl, hb⟩; have HB2 := Aside0.mk (HB1.out.trans (hb.mono HB1.out.size)); have HG2 := Aside0.mk (HG1.out.below hb); obtain ⟨d0, d1, d2, d3⟩ := HG2.out.cells; clear hb)
    | (go_at_call 8; (with_reducible refine (HNew.out _).mono ?_); rintro e w3 ⟨g, rfl, hD, hb⟩; have HD3 := Aside0.mk hD; have HB3 := Aside0.mk (HB2.out.trans (hb.mono HB2.out.size)); have HG3 := Aside0.mk (HG2.out.below hb); have HS2 := Aside0.mk (show w.heap.size < w2.heap.size from blk_lt HG2.out); obtain ⟨e0, e1, e2, e3⟩ := HG3.out.cells; clear hb hD)
    | (go_at_call 9; (with_reducible refine (HFill.out _).mono ?_); rintro e w4 ⟨rfl, hb⟩; have HD4 := Aside0.mk (HD3.out.below hb); have HB4 := Aside0.mk (HB3.out.trans (hb.mono HB3.out.size)); have HG4 := Aside0.mk (HG3.out.below hb); obtain ⟨f0, f1, f2, f3⟩ := HG4.out.cells; clear hb)
    | (go_at_call 10; (with_reducible refine (HFi.out _).mono ?_); rintro e w5 ⟨rfl, hb⟩; have HD5 := Aside0.mk (HD4.out.below hb); have HB5 := Aside0.mk (HB4.out.trans (hb.mono HB4.out.size)); have HG5 := Aside0.mk (HG4.out.below hb); clear hb)
    | (go_at_call 11; (with_reducible refine (HBl.out _).mono ?_); rintro e w6 ⟨rfl, hb⟩; have HD6 := Aside0.mk (HD5.out.below hb.below); have HB6 := Aside0.mk (HB5.out.trans (hb.below.mono HB5.out.size)); have HG6 := Aside0.mk (HG5.out.below hb.below); obtain ⟨g0, g1, g2, g3⟩ := HG6.out.cells; clear hb)
    | (go_at_call 12; refine (HRd0.out _ _ _ HD6.out (HG.out.below HB6.out)).mono ?_; rintro e w7 ⟨rfl, hb⟩; have HD7 := Aside0.mk (HD6.out.below hb); have HB7 := Aside0.mk (HB6.out.trans (hb.mono HB6.out.size)); have HG7 := Aside0.mk (HG6.out.below hb); obtain ⟨i0, i1, i2, i3⟩ := HG7.out.cells; clear hb)
    | (go_at_call 13; refine (HWr.out _ _ _ HD7.out).mono ?_; rintro e w8 ⟨rfl, hD, hb⟩; have HD8 := Aside0.mk hD; have HB8 := Aside0.mk (HB7.out.trans (hb.below HB7.out.size (fun k hk => by have := HS2.out; omega))); have HG8 := Aside0.mk (show GeoAt w8 w.heap.size a b c d from (hb.block w.heap.size (blk_lt HG7.out) (by have := HS2.out; omega)).trans HG7.out); clear hb hD)
    | (go_at_call 14; (with_reducible refine (crc_Sum.calls ⟨#[]⟩ (S 0) _ (HG.out.below HB8.out) HS0.out).mono ?_); rintro e w9 ⟨rfl, hb⟩; have HD9 := Aside0.mk (HD8.out.below hb.below); have HB9 := Aside0.mk (HB8.out.trans (hb.below.mono HB8.out.size)); have HG9 := Aside0.mk (HG8.out.below hb.below); clear hb))
  obtain ⟨F, hF⟩ : ∃ F, F = wrL (fun _ => blank512) first t (List.finRange m) := ⟨_, rfl⟩
  have HF := Aside0.mk hF
  rw [← hF] at HD9 HRd1
  obtain ⟨P, hP⟩ : ∃ P, P = fun k => w2.heap.size ≤ k := ⟨_, rfl⟩
  have HP := Aside0.mk hP
  rw [← hP] at HD9
  clear hF hP
  go_loopw [18, 101] (fun v18 v101 wr => ∃ i : Nat, Aside0 (i ≤ m) ∧ v101 = .int .i64 i ∧ v18 = .int .u32 (S i) ∧ Aside0 (Dev P wr g n (0 + m) F) ∧ Aside0 (GeoAt wr w.heap.size a b c d) ∧ Aside0 (Below w.heap.size w wr)) (fun _ v101 _ => m - (intOf v101).toNat)
  case atStart => exact ⟨0, ⟨Nat.zero_le _⟩, rfl, rfl, HD9, HG9, HB9⟩
  case round =>
    obtain ⟨i, HI, rfl, rfl, HDi, HGi, HBi⟩ := hrel
    by_cases hlt : i < m
    · have c1 : decide ((i : Int) < (m : Int)) = true := decide_eq_true (by omega)
      have c2 : (i : Int) < (m : Int) := by omega
      have HLT := Aside0.mk hlt
      have hrd := read_calls (i := first + i) HDi.out (by have := HFM.out; omega)
      rw [Int.natCast_add, HF.out, wrL_at _ _ _ hlt] at hrd
      obtain ⟨hx1, hx2⟩ := HSt.out i hlt
      have HR := Aside0.mk hrd
      have HX1 := Aside0.mk hx1
      have HX2 := Aside0.mk hx2
      have W1 := Aside0.mk (wrap_inc i m HI.out (by have := HM2.out; omega))
      have u1 : wrap64 ((first : Int) + (i : Int)) = (first : Int) + (i : Int) := wrap_small _ (by omega) (by have := HFM.out; have := HN2.out; omega)
      obtain ⟨y, hy⟩ : ∃ y, y = sect t i := ⟨_, rfl⟩
      rw [← hy] at HR HX1
      clear hlt hrd hx1 hx2 hy
      go_wp2_with (first
        | (go_at_call 15; (with_reducible refine HR.out.mono ?_); rintro e wa ⟨rfl, hww⟩; obtain rfl := hww)
        | (go_at_call 14; (with_reducible refine (crc_Sum.calls y (X i) _ (HG.out.below HBi.out) HX1.out).mono ?_); rintro e wb ⟨rfl, hb⟩; have HDb := Aside0.mk (HDi.out.below hb.below); have HBb := Aside0.mk (HBi.out.trans (hb.below.mono HBi.out.size)); have HGb := Aside0.mk (HGi.out.below hb.below); clear hb)
        | (go_at_call 16; (with_reducible refine (combine_Join.calls k (S i) (X i) 512 (S (i + 1)) 0 _ HX2.out).mono ?_); rintro e wc ⟨rfl, hb⟩; have HDc := Aside0.mk (HDb.out.below hb.below); have HBc := Aside0.mk (HBb.out.trans (hb.below.mono HBb.out.size)); have HGc := Aside0.mk (HGb.out.below hb.below); clear hb))
      go_roundw
      case rel => exact ⟨i + 1, ⟨HLT.out⟩, by go_num, rfl, HDc, HGc, HBc⟩
      case measure =>
        have h := HLT.out
        show m - ((i : Int) + 1).toNat < m - ((i : Int)).toNat
        omega
    · have hme : i = m := by have := HI.out; omega
      subst hme
      have c1 : decide ((i : Int) < (i : Int)) = false := decide_eq_false (by omega)
      obtain ⟨j0, j1, j2, j3⟩ := HGi.out.cells
      have hdm := HDi.out
      rw [Nat.zero_add] at hdm
      have HDM := Aside0.mk hdm
      clear hlt hdm
      go_wp2_with (go_at_call 12; refine (HRd1.out _ _ _ HDM.out (HG.out.below HBi.out)).mono ?_; rintro e wd ⟨rfl, hb⟩; have HBd := Aside0.mk (HBi.out.trans (hb.mono HBi.out.size)); clear hb)
      go_ret
      exact ⟨by simp, HBd.out⟩
open Classical in
theorem caulktop_TopSectors.calls (k : Nat) (a b c d ata : Int) (s : ByteArray) (r : Bool) (w : World) (hG : GT w) (h : caulktop_TopSectors.f k a b c d ata s = some r) :
    Calls Tryd.prog 3 #[.agg #[.int .i64 a, .int .i64 b, .int .i64 c, .int .i64 d], .int .i64 ata, .string s] w fun e w' => e = .returned (.bool r) ∧ Below w.heap.size w w' := by
  unfold caulktop_TopSectors.f at h
  by_cases hx : secOk k a b c d ata s
  · rw [if_pos hx] at h
    obtain rfl := Option.some.inj h
    obtain ⟨hbeg, n, hS, hn | ⟨h1, h2, z, hZ, hz0, hz1, ⟨hs, p, e, hF⟩ | ⟨hs, hF⟩ | ⟨hs, first, m, hF, hX⟩⟩⟩ := hx
    · exact tops_out k a b c d ata n s w hG hbeg hS hn
    all_goals obtain ⟨nn, rfl⟩ : ∃ nn : Nat, n = (nn : Int) := ⟨n.toNat, by omega⟩
    · exact tops_long k a b c d ata nn z p e s w hG hbeg hS (by omega) (by omega) hZ hz0 hz1 hs hF
    · exact tops_none k a b c d ata nn z s w hG hbeg hS (by omega) (by omega) hZ hz0 hz1 hs hF
    · exact tops_fine k a b c d ata nn z first m s w hG hbeg hS (by omega) (by omega) hZ hz0 hz1 hs hF hX
  · rw [if_neg hx] at h; cases h
end Go.Proofs.YtnhigoffkmfccaaDoor.G
