/- The law TopClusters over this seat's program: what it comes to, walked. Conditions: each lemma's own. -/
import Derived.Test.YtnhigoffkmfccaaDoorTopSectors
import Derived.Test.YtnhigoffkmfccaaDoorDevCrash
namespace Go.Proofs.YtnhigoffkmfccaaDoor.G
open Go.RowKit Go.Shelf Go.ChangeMaps Go.MapKept Go.Proofs.YtnhigoffkmfccaaDoorW.PrintWords Go.Proofs.YtnhigoffkmfccaaDoorW.PrintLast Go.Proofs.YtnhigoffkmfccaaDoorW.PrintMore
set_option linter.unusedVariables false
set_option linter.unusedSimpArgs false
/-- What TopClusters asks. -/
def clusFine (k n d m first : Nat) (a b c ata : Int) : Prop :=
  1 ≤ m ∧ first + m ≤ n ∧ n = d * m ∧ ∀ s, s < n → ∃ x : Int, geom_Cluster.f k a b c d s = some (x, 0) ∧ (x = ata ↔ first ≤ s ∧ s < first + m)
def clusOk (k : Nat) (a b c d ata : Int) : Prop :=
  caulktop_begins.f = some true ∧ ∃ n : Int, geom_Sectors.f k a b c d = some n ∧ ((n < 1 ∨ 256 < n) ∨ (1 ≤ n ∧ n ≤ 256 ∧ ∃ z : Nat, geom_Size.f k a b c d = some (z : Int) ∧ z ≤ 1000000 ∧
    ((geom_First.f k a b c d ata = some (0, 1) ∧ (ata < 0 ∨ ata ≥ d)) ∨ (∃ first m dn : Nat, d = (dn : Int) ∧ geom_First.f k a b c d ata = some ((first : Int), 0) ∧ z = m * 512 ∧ clusFine k n.toNat dn m first a b c ata))))
open Classical in
noncomputable def caulktop_TopClusters.f (k : Nat) (a b c d ata : Int) (by_ : Int) (l : List Bool) : Option Bool := if clusOk k a b c d ata ∧ l.length < 140737488355300 then some true else none
def caulktop_TopClusters.Pure : Prop := ∀ (a b c d ata : Int) (by_ : Int) (l : List Bool), (Lit.int .i64 a).wf = true → (Lit.int .i64 b).wf = true → (Lit.int .i64 c).wf = true → (Lit.int .i64 d).wf = true → (Lit.int .i64 ata).wf = true → (Lit.int .u8 by_).wf = true → l.length * 1 ≤ 140737488351232 → ∃ k, caulktop_TopClusters.f k a b c d ata by_ l = some true
set_option maxRecDepth 100000 in
set_option maxHeartbeats 4000000 in
theorem clus_out (k : Nat) (a b c d ata n y : Int) (ks : Value) (w : World) (hG : GT w) (hbeg : caulktop_begins.f = some true) (hS : geom_Sectors.f k a b c d = some n) (hn : n < 1 ∨ 256 < n) :
    Calls Tryd.prog 5 #[.agg #[.int .i64 a, .int .i64 b, .int .i64 c, .int .i64 d], .int .i64 ata, .int .u8 y, ks] w fun e w' => e = .returned (.bool true) ∧ Below w.heap.size w w' := by
  have hg0 : GeoAt (w.alloc (.cells #[.int .i64 a, .int .i64 b, .int .i64 c, .int .i64 d] 23)) w.heap.size a b c d := World.alloc_heap_new w _
  have hb0 := below_alloc (Below.refl w.heap.size w) (.cells #[.int .i64 a, .int .i64 b, .int .i64 c, .int .i64 d] 23)
  have HG := Aside0.mk hG
  have HG0 := Aside0.mk hg0
  have HB0 := Aside0.mk hb0
  have HBeg := Aside0.mk (fun W hW => caulktop_begins.calls true W hW hbeg)
  have HSec := Aside0.mk (fun W => geom_Sectors.calls k a b c d n W hS)
  have SZ0 := Aside0.mk hb0.size
  clear hG hg0 hb0 hbeg hS
  by_cases h1 : n < 1
  all_goals
    (first | (have h2 : n > 256 := by omega) | skip)
    clear hn
    go_enter Tryd.func5, Tryd.ntmps5
    go_wp2_with (first
      | (go_at_call 6; (with_reducible refine (HBeg.out _ (HG.out.below HB0.out)).mono ?_); rintro e w1 ⟨rfl, hb⟩; have HB1 := Aside0.mk hb.below; obtain ⟨c0, c1, c2, c3⟩ := (HG0.out.below HB1.out).cells; clear hb)
      | (go_at_call 7; (with_reducible refine (HSec.out _).mono ?_); rintro e w2 ⟨rfl, hb⟩; have HB2 := Aside0.mk hb; clear hb))
    go_ret
    exact ⟨rfl, HB0.out.trans ((HB1.out.mono SZ0.out).trans (HB2.out.mono (Nat.le_trans SZ0.out HB1.out.size)))⟩
/-- So many bytes, of which the first ones are y, the others 00. -/
def rowY (K i : Nat) (y : Int) : List Int := List.replicate i y ++ List.replicate (K - i) 0
theorem rowY_set {K i : Nat} (h : i < K) (y : Int) : ((rowY K i y).map (Value.int .u8)).toArray.setIfInBounds i (.int .u8 y) = ((rowY K (i + 1) y).map (Value.int .u8)).toArray := by
  apply Array.ext'
  unfold rowY
  simp only [List.map_append, List.map_replicate, Array.toList_setIfInBounds]
  rw [List.set_append_right _ _ (by simp), List.length_replicate, Nat.sub_self]
  obtain ⟨q, hq⟩ : ∃ q, K - i = q + 1 := ⟨K - i - 1, by omega⟩
  rw [hq, List.replicate_succ, List.set_cons_zero, show K - (i + 1) = q from by omega, List.replicate_succ']
  simp
theorem rowY_zero (K : Nat) (y : Int) : madeCells #[.int .u8 0] K = ((rowY K 0 y).map (Value.int .u8)).toArray := by
  apply Array.ext'
  unfold rowY
  apply List.ext_getElem
  · simp [madeCells]
  · intro i h1 h2
    simp [madeCells, Nat.mod_one]
theorem rowY_len {K i : Nat} (h : i ≤ K) (y : Int) : (rowY K i y).length = K := by unfold rowY; simp; omega
theorem rowY_conv {W : World} {gB K i : Nat} {y : Int} (h : i ≤ K) (hb : W.heap[gB]? = some (.cells ((rowY K i y).map (Value.int .u8)).toArray 5 (0, 0))) : (convert 53 9 (.slice (some ⟨gB, 0, none⟩) K K)).run Tryd.prog W = .ok (.string (strOfNums (rowY K i y))) W := by
  refine run_convert_bytes_arg W 53 5 Tryd.underlying53 Tryd.underlying5 gB 0 K K (rowY K i y) (rowY_len h y) (fun j hj => ?_) 9 Tryd.underlying9
  rw [blk_cell hb, Nat.zero_add]
  have hl : j < (rowY K i y).length := by rw [rowY_len h]; exact hj
  simp only [List.getElem?_toArray, List.getElem?_map, List.getElem?_eq_getElem hl, Option.map_some, List.getD_eq_getElem?_getD, Option.getD_some]
set_option maxRecDepth 100000 in
set_option maxHeartbeats 4000000 in
theorem clus_none (k : Nat) (a b c d ata y : Int) (n z : Nat) (ks : Value) (w : World) (hG : GT w) (hbeg : caulktop_begins.f = some true) (hS : geom_Sectors.f k a b c d = some (n : Int)) (hn1 : 1 ≤ n) (hn2 : n ≤ 256) (hZ : geom_Size.f k a b c d = some (z : Int)) (hz1 : z ≤ 1000000) (hF : geom_First.f k a b c d ata = some (0, 1)) (hr : ata < 0 ∨ ata ≥ d) :
    Calls Tryd.prog 5 #[.agg #[.int .i64 a, .int .i64 b, .int .i64 c, .int .i64 d], .int .i64 ata, .int .u8 y, ks] w fun e w' => e = .returned (.bool true) ∧ Below w.heap.size w w' := by
  have hg0 : GeoAt (w.alloc (.cells #[.int .i64 a, .int .i64 b, .int .i64 c, .int .i64 d] 23)) w.heap.size a b c d := World.alloc_heap_new w _
  have hb0 := below_alloc (Below.refl w.heap.size w) (.cells #[.int .i64 a, .int .i64 b, .int .i64 c, .int .i64 d] 23)
  have HG := Aside0.mk hG
  have HG0 := Aside0.mk hg0
  have HB0 := Aside0.mk hb0
  have HBeg := Aside0.mk (fun W hW => caulktop_begins.calls true W hW hbeg)
  have HSec := Aside0.mk (fun W => geom_Sectors.calls k a b c d n W hS)
  have HNew := Aside0.mk (fun W => new_calls (w := W) hn1 (Nat.le_trans hn2 (by decide)))
  have HSz := Aside0.mk (fun W => geom_Size.calls k a b c d (z : Int) W hZ)
  have b1 : ¬ ((n : Int) < 1) := by omega
  have b2 : ¬ ((n : Int) > 256) := by omega
  have SZ0 := Aside0.mk hb0.size
  have kmk : ∀ W : World, (Instr.makeSlice 53 (.int .i64 512) (.int .i64 512)).run Tryd.prog W = .ok (.slice (some ⟨W.heap.size, 0, none⟩) 512 512) (W.alloc (.cells ((rowY 512 0 y).map (Value.int .u8)).toArray 5)) := fun W => by
    have := print_make (P := Tryd.prog) 53 5 .u8 1 Tryd.underlying53 (by kernel_rfl) (by decide) 512 (by omega) W
    rw [rowY_zero 512 y] at this
    exact this
  have HFi := Aside0.mk (fun W => geom_First.calls k a b c d ata 0 1 W hF)
  have HR := Aside0.mk hr
  clear hG hg0 hb0 hbeg hS hn1 hn2 hZ hF hr
  go_enter Tryd.func5, Tryd.ntmps5
  go_wp2_with (first
    | (go_at_call 6; (with_reducible refine (HBeg.out _ (HG.out.below HB0.out)).mono ?_); rintro e w1 ⟨rfl, hb⟩; have HB1 := Aside0.mk (HB0.out.trans (hb.below.mono SZ0.out)); have HG1 := Aside0.mk (HG0.out.below hb.below); obtain ⟨c0, c1, c2, c3⟩ := HG1.out.cells; clear hb)
    | (go_at_call 7; (with_reducible refine (HSec.out _).mono ?_); rintro e w2 ⟨rfl, hb⟩; have HB2 := Aside0.mk (HB1.out.trans (hb.mono HB1.out.size)); have HG2 := Aside0.mk (HG1.out.below hb); obtain ⟨d0, d1, d2, d3⟩ := HG2.out.cells; clear hb)
    | (go_at_call 8; (with_reducible refine (HNew.out _).mono ?_); rintro e w3 ⟨g, rfl, hD, hb⟩; have HD3 := Aside0.mk hD; have HB3 := Aside0.mk (HB2.out.trans (hb.mono HB2.out.size)); have HG3 := Aside0.mk (HG2.out.below hb); have HS2 := Aside0.mk (show w.heap.size < w2.heap.size from blk_lt HG2.out); have HSZ3 := Aside0.mk hb.size; clear hb hD))
  obtain ⟨gB, hgB⟩ : ∃ q, q = w3.heap.size := ⟨_, rfl⟩
  have hrow0 : (w3.alloc (.cells ((rowY 512 0 y).map (Value.int .u8)).toArray 5)).heap[gB]? = some (.cells ((rowY 512 0 y).map (Value.int .u8)).toArray 5 (0, 0)) := heap_new _ _ hgB
  have HR0 := Aside0.mk hrow0
  have HGB := Aside0.mk (show w2.heap.size ≤ gB ∧ w.heap.size < gB from by have h1 := HS2.out; have h2 := HSZ3.out; omega)
  have HB4 := Aside0.mk (HB3.out.alloc HB3.out.size (.cells ((rowY 512 0 y).map (Value.int .u8)).toArray 5))
  have HG4 := Aside0.mk (HG3.out.below ((Below.refl _ w3).alloc (Nat.le_refl _) (.cells ((rowY 512 0 y).map (Value.int .u8)).toArray 5)))
  have HD4 := Aside0.mk (show Dev (fun k => w2.heap.size ≤ k ∧ k < gB) _ g n 0 (fun _ => blank512) from (HD3.out.lt.alloc (.cells ((rowY 512 0 y).map (Value.int .u8)).toArray 5)).mono (fun k hk => ⟨hk.1, by rw [hgB]; exact hk.2⟩))
  rw [← hgB]
  clear hrow0 hgB
  go_loopw [48] (fun v48 wr => ∃ i : Nat, i ≤ 512 ∧ v48 = .int .i64 i ∧ Aside0 (wr.heap[gB]? = some (.cells ((rowY 512 i y).map (Value.int .u8)).toArray 5 (0, 0))) ∧ Aside0 (Dev (fun k => w2.heap.size ≤ k ∧ k < gB) wr g n 0 (fun _ => blank512)) ∧ Aside0 (GeoAt wr w.heap.size a b c d) ∧ Aside0 (Below w.heap.size w wr)) (fun v48 _ => 512 - (intOf v48).toNat)
  case atStart => exact ⟨0, by omega, rfl, HR0, HD4, HG4, HB4⟩
  case round =>
    obtain ⟨i, hi, rfl, HRi, HDi, HGi, HBi⟩ := hrel
    by_cases hlt : i < 512
    · have kc : wr.cell? ⟨gB, i, none⟩ = some (.int .u8 ((rowY 512 i y).getD i 0)) := by
        rw [blk_cell HRi.out]
        have hl : i < (rowY 512 i y).length := by rw [rowY_len hi]; exact hlt
        simp only [List.getElem?_toArray, List.getElem?_map, List.getElem?_eq_getElem hl, Option.map_some, List.getD_eq_getElem?_getD, Option.getD_some]
      have kf := blk_frozen HRi.out i
      have hset := (blk_set HRi.out i (.int .u8 y)).trans (by rw [rowY_set hlt])
      have HSet := Aside0.mk hset
      have HD' := Aside0.mk (HDi.out.same (w' := wr.setCell ⟨gB, i, none⟩ (.int .u8 y)) (fun k hk => Below.heap_setCell _ _ _ _ (by show k ≠ gB; omega)))
      have HG' := Aside0.mk (show GeoAt (wr.setCell ⟨gB, i, none⟩ (.int .u8 y)) w.heap.size a b c d from (Below.heap_setCell wr ⟨gB, i, none⟩ _ w.heap.size (by show w.heap.size ≠ gB; have := HGB.out.2; omega)).trans HGi.out)
      have HB' := Aside0.mk (HBi.out.setCell (p := ⟨gB, i, none⟩) (by show w.heap.size ≤ gB; have := HGB.out.2; omega) (.int .u8 y))
      clear hset
      go_wp2
      go_roundw
      case rel => exact ⟨i + 1, by omega, by go_num, HSet, HD', HG', HB'⟩
      case measure => simp [intOf]; omega
    · have hi5 : i = 512 := by omega
      subst hi5
      clear hi hlt
      obtain ⟨e0, e1, e2, e3⟩ := HGi.out.cells
      by_cases hr : ata < 0
      · go_wp2_with (first
          | (go_at_call 10; (with_reducible refine (HFi.out _).mono ?_); rintro e w5 ⟨rfl, hb⟩; have HB5 := Aside0.mk (HBi.out.trans (hb.mono HBi.out.size)); have HG5 := Aside0.mk (HGi.out.below hb); obtain ⟨f0, f1, f2, f3⟩ := HG5.out.cells; clear hb)
          | (go_at_call 22; (with_reducible refine (HSz.out _).mono ?_); rintro e w6 ⟨rfl, hb⟩; have HB6 := Aside0.mk (HB5.out.trans (hb.mono HB5.out.size)); have HG6 := Aside0.mk (HG5.out.below hb); obtain ⟨g0, g1, g2, g3⟩ := HG6.out.cells; clear hb))
        go_ret
        exact ⟨rfl, HB6.out⟩
      · have hr2 : ata ≥ d := by have := HR.out; omega
        go_wp2_with (first
          | (go_at_call 10; (with_reducible refine (HFi.out _).mono ?_); rintro e w5 ⟨rfl, hb⟩; have HB5 := Aside0.mk (HBi.out.trans (hb.mono HBi.out.size)); have HG5 := Aside0.mk (HGi.out.below hb); obtain ⟨f0, f1, f2, f3⟩ := HG5.out.cells; clear hb)
          | (go_at_call 22; (with_reducible refine (HSz.out _).mono ?_); rintro e w6 ⟨rfl, hb⟩; have HB6 := Aside0.mk (HB5.out.trans (hb.mono HB5.out.size)); have HG6 := Aside0.mk (HG5.out.below hb); obtain ⟨g0, g1, g2, g3⟩ := HG6.out.cells; clear hb))
        go_ret
        exact ⟨rfl, HB6.out⟩
theorem ba_bne (B : ByteArray) : (B != B) = false := by
  cases B with | mk d => ?_
  show (!(d == d)) = false
  simp
/-- A device of noughts but for some sectors. -/
def bandF (first i : Nat) (B : ByteArray) : Nat → ByteArray := fun q => if first ≤ q ∧ q < first + i then B else blank512
theorem bandF_zero (first : Nat) (B : ByteArray) : bandF first 0 B = fun _ => blank512 := funext fun q => by unfold bandF; rw [if_neg (by omega)]
theorem bandF_succ (first i : Nat) (B : ByteArray) (q : Nat) : bandF first (i + 1) B q = fput (bandF first i B) (first + i) B q := by
  unfold bandF fput
  by_cases e : q = first + i
  · rw [if_pos (by omega), if_pos e]
  · rw [if_neg e]
    show _ = if first ≤ q ∧ q < first + i then B else blank512
    by_cases h : first ≤ q ∧ q < first + i
    · rw [if_pos h, if_pos (by omega)]
    · rw [if_neg h, if_neg (by omega)]
theorem rowY_none (K : Nat) (y : Int) : rowY K 0 y = List.replicate K 0 := by unfold rowY; simp
theorem rowY_size {K i : Nat} (h : i ≤ K) (y : Int) : (strOfNums (rowY K i y)).size = K := by rw [strOfNums_size, rowY_len h]
theorem own_first {W : World} {base : Nat} {v : Value} {l : List Bool} (h : W.ownsRow base 4 1 v ([false] ++ l).length (encs Value.bool ([false] ++ l))) : ∃ gk c, v = .slice (some ⟨gk, 0, none⟩) ([false] ++ l).length c ∧ W.cell? ⟨gk, 0, none⟩ = some (.bool false) := by
  obtain ⟨h1, ⟨-, hz⟩ | ⟨gk, cap, cur, e, hb, hg, hn, hm, hs, ht⟩⟩ := h
  · simp at hz
  · refine ⟨gk, cap, e, ?_⟩
    rw [blk_cell hg]
    have e2 : (cur.toList.take (([false] ++ l).length * 1))[0]? = some (.bool false) := by rw [ht]; rfl
    rw [List.getElem?_take, if_pos (by simp)] at e2
    simpa using e2
theorem lit_own {W : World} {n0 : Nat} (h : W.heap[n0]? = some (.cells #[.bool false] 4 (0, 0))) : W.ownsRow n0 4 1 (.slice (some ⟨n0, 0, none⟩) 1 1) [false].length (encs Value.bool [false]) :=
  ⟨rfl, .inr ⟨n0, 1, #[.bool false], rfl, Nat.le_refl _, h, Nat.le_refl _, by unfold maxLen; omega, rfl, rfl⟩⟩
set_option maxRecDepth 100000 in
set_option maxHeartbeats 4000000 in
theorem clus_fine (k : Nat) (a b c d ata y : Int) (n z : Nat) (dn m first : Nat) (A : Option Addr) (ck : Nat) (l : List Bool) (w : World) (hG : GT w) (hbeg : caulktop_begins.f = some true) (hS : geom_Sectors.f k a b c d = some (n : Int)) (hn1 : 1 ≤ n) (hn2 : n ≤ 256) (hZ : geom_Size.f k a b c d = some (z : Int)) (hz1 : z ≤ 1000000) (hd : d = (dn : Int)) (hF : geom_First.f k a b c d ata = some ((first : Int), 0)) (hzm : z = m * 512) (hX : clusFine k n dn m first a b c ata) (hl : l.length < 140737488355300) (hkeep : Kd.C Kd.bool w A l.length l) :
    Calls Tryd.prog 5 #[.agg #[.int .i64 a, .int .i64 b, .int .i64 c, .int .i64 d], .int .i64 ata, .int .u8 y, .slice A l.length ck] w fun e w' => e = .returned (.bool true) ∧ Below w.heap.size w w' := by
  have hg0 : GeoAt (w.alloc (.cells #[.int .i64 a, .int .i64 b, .int .i64 c, .int .i64 d] 23)) w.heap.size a b c d := World.alloc_heap_new w _
  have hb0 := below_alloc (Below.refl w.heap.size w) (.cells #[.int .i64 a, .int .i64 b, .int .i64 c, .int .i64 d] 23)
  have HG := Aside0.mk hG
  have HG0 := Aside0.mk hg0
  have HB0 := Aside0.mk hb0
  have HBeg := Aside0.mk (fun W hW => caulktop_begins.calls true W hW hbeg)
  have HSec := Aside0.mk (fun W => geom_Sectors.calls k a b c d n W hS)
  have HNew := Aside0.mk (fun W => new_calls (w := W) hn1 (Nat.le_trans hn2 (by decide)))
  have HSz := Aside0.mk (fun W => geom_Size.calls k a b c d (z : Int) W hZ)
  have b1 : ¬ ((n : Int) < 1) := by omega
  have b2 : ¬ ((n : Int) > 256) := by omega
  have SZ0 := Aside0.mk hb0.size
  have kmk : ∀ W : World, (Instr.makeSlice 53 (.int .i64 512) (.int .i64 512)).run Tryd.prog W = .ok (.slice (some ⟨W.heap.size, 0, none⟩) 512 512) (W.alloc (.cells ((rowY 512 0 y).map (Value.int .u8)).toArray 5)) := fun W => by
    have := print_make (P := Tryd.prog) 53 5 .u8 1 Tryd.underlying53 (by kernel_rfl) (by decide) 512 (by omega) W
    rw [rowY_zero 512 y] at this
    exact this
  subst hd
  obtain ⟨hm1, hfm, hnd, hcl⟩ := hX
  have HFi := Aside0.mk (fun W => geom_First.calls k a b c dn ata (first : Int) 0 W hF)
  have HKeep := Aside0.mk (Kd.reads_of_C (d := false) hkeep)
  have HCl := Aside0.mk (show ∀ s, s < n → ∃ x : Int, geom_Cluster.f k a b c dn s = some (x, 0) ∧ (x = ata ↔ first ≤ s ∧ s < first + m) from hcl)
  have HL := Aside0.mk hl
  have HFM := Aside0.mk (show first + m ≤ n ∧ 1 ≤ m ∧ n ≤ 256 ∧ n = dn * m from ⟨hfm, hm1, hn2, hnd⟩)
  have q1 : (z : Int) / 512 = (m : Int) := by omega
  have q2 : (z : Int) ≤ 1000000 := by omega
  obtain ⟨B, hB⟩ : ∃ B, B = strOfNums (rowY 512 512 y) := ⟨_, rfl⟩
  have HB := Aside0.mk hB
  clear hG hg0 hb0 hbeg hS hn1 hn2 hZ hF hm1 hfm hnd hcl hkeep hl hzm hz1 hB
  go_enter Tryd.func5, Tryd.ntmps5
  go_wp2_with (first
    | (go_at_call 6; (with_reducible refine (HBeg.out _ (HG.out.below HB0.out)).mono ?_); rintro e w1 ⟨rfl, hb⟩; have HB1 := Aside0.mk (HB0.out.trans (hb.below.mono SZ0.out)); have HG1 := Aside0.mk (HG0.out.below hb.below); obtain ⟨c0, c1, c2, c3⟩ := HG1.out.cells; clear hb)
    | (go_at_call 7; (with_reducible refine (HSec.out _).mono ?_); rintro e w2 ⟨rfl, hb⟩; have HB2 := Aside0.mk (HB1.out.trans (hb.mono HB1.out.size)); have HG2 := Aside0.mk (HG1.out.below hb); obtain ⟨d0, d1, d2, d3⟩ := HG2.out.cells; clear hb)
    | (go_at_call 8; (with_reducible refine (HNew.out _).mono ?_); rintro e w3 ⟨g, rfl, hD, hb⟩; have HD3 := Aside0.mk hD; have HB3 := Aside0.mk (HB2.out.trans (hb.mono HB2.out.size)); have HG3 := Aside0.mk (HG2.out.below hb); have HS2 := Aside0.mk (show w.heap.size < w2.heap.size from blk_lt HG2.out); have HSZ3 := Aside0.mk hb.size; clear hb hD))
  obtain ⟨gB, hgB⟩ : ∃ q, q = w3.heap.size := ⟨_, rfl⟩
  have hrow0 : (w3.alloc (.cells ((rowY 512 0 y).map (Value.int .u8)).toArray 5)).heap[gB]? = some (.cells ((rowY 512 0 y).map (Value.int .u8)).toArray 5 (0, 0)) := heap_new _ _ hgB
  have HR0 := Aside0.mk hrow0
  have HGB := Aside0.mk (show w2.heap.size ≤ gB ∧ w.heap.size < gB from by have h1 := HS2.out; have h2 := HSZ3.out; omega)
  have HB4 := Aside0.mk (HB3.out.alloc HB3.out.size (.cells ((rowY 512 0 y).map (Value.int .u8)).toArray 5))
  have HG4 := Aside0.mk (HG3.out.below ((Below.refl _ w3).alloc (Nat.le_refl _) (.cells ((rowY 512 0 y).map (Value.int .u8)).toArray 5)))
  have HD4 := Aside0.mk (show Dev (fun k => w2.heap.size ≤ k ∧ k < gB) _ g n 0 (fun _ => blank512) from (HD3.out.lt.alloc (.cells ((rowY 512 0 y).map (Value.int .u8)).toArray 5)).mono (fun k hk => ⟨hk.1, by rw [hgB]; exact hk.2⟩))
  rw [← hgB]
  clear hrow0 hgB
  go_loopw [48] (fun v48 wr => ∃ i : Nat, i ≤ 512 ∧ v48 = .int .i64 i ∧ Aside0 (wr.heap[gB]? = some (.cells ((rowY 512 i y).map (Value.int .u8)).toArray 5 (0, 0))) ∧ Aside0 (Dev (fun k => w2.heap.size ≤ k ∧ k < gB) wr g n 0 (fun _ => blank512)) ∧ Aside0 (GeoAt wr w.heap.size a b c dn) ∧ Aside0 (Below w.heap.size w wr)) (fun v48 _ => 512 - (intOf v48).toNat)
  case atStart => exact ⟨0, by omega, rfl, HR0, HD4, HG4, HB4⟩
  case round =>
    obtain ⟨i, hi, rfl, HRi, HDi, HGi, HBi⟩ := hrel
    by_cases hlt : i < 512
    · have kc : wr.cell? ⟨gB, i, none⟩ = some (.int .u8 ((rowY 512 i y).getD i 0)) := by
        rw [blk_cell HRi.out]
        have hl : i < (rowY 512 i y).length := by rw [rowY_len hi]; exact hlt
        simp only [List.getElem?_toArray, List.getElem?_map, List.getElem?_eq_getElem hl, Option.map_some, List.getD_eq_getElem?_getD, Option.getD_some]
      have kf := blk_frozen HRi.out i
      have hset := (blk_set HRi.out i (.int .u8 y)).trans (by rw [rowY_set hlt])
      have HSet := Aside0.mk hset
      have HD' := Aside0.mk (HDi.out.same (w' := wr.setCell ⟨gB, i, none⟩ (.int .u8 y)) (fun k hk => Below.heap_setCell _ _ _ _ (by show k ≠ gB; omega)))
      have HG' := Aside0.mk (show GeoAt (wr.setCell ⟨gB, i, none⟩ (.int .u8 y)) w.heap.size a b c dn from (Below.heap_setCell wr ⟨gB, i, none⟩ _ w.heap.size (by show w.heap.size ≠ gB; have := HGB.out.2; omega)).trans HGi.out)
      have HB' := Aside0.mk (HBi.out.setCell (p := ⟨gB, i, none⟩) (by show w.heap.size ≤ gB; have := HGB.out.2; omega) (.int .u8 y))
      clear hset
      go_wp2
      go_roundw
      case rel => exact ⟨i + 1, by omega, by go_num, HSet, HD', HG', HB'⟩
      case measure => simp [intOf]; omega
    · have hi5 : i = 512 := by omega
      subst hi5
      clear hi hlt
      obtain ⟨e0, e1, e2, e3⟩ := HGi.out.cells
      go_wp2_with (first
        | (go_at_call 10; (with_reducible refine (HFi.out _).mono ?_); rintro e w5 ⟨rfl, hb⟩; have HB5 := Aside0.mk (HBi.out.trans (hb.mono HBi.out.size)); have HG5 := Aside0.mk (HGi.out.below hb); have HR5 := Aside0.mk ((hb.block gB (blk_lt HRi.out)).trans HRi.out); have HD5 := Aside0.mk (HDi.out.below hb); obtain ⟨f0, f1, f2, f3⟩ := HG5.out.cells; clear hb)
        | (go_at_call 22; (with_reducible refine (HSz.out _).mono ?_); rintro e w6 ⟨rfl, hb⟩; have HB6 := Aside0.mk (HB5.out.trans (hb.mono HB5.out.size)); have HG6 := Aside0.mk (HG5.out.below hb); have HR6 := Aside0.mk ((hb.block gB (blk_lt HR5.out)).trans HR5.out); have HD6 := Aside0.mk (show Dev (fun k => w2.heap.size ≤ k ∧ k < gB) w6 g n 0 (bandF first 0 B) from by rw [bandF_zero]; exact HD5.out.below hb); clear hb))
      clear q1 q2 e0 e1 e2 e3 f0 f1 f2 f3
      go_loopw [80] (fun v80 wr => ∃ i : Nat, i ≤ m ∧ v80 = .int .i64 i ∧ Aside0 (wr.heap[gB]? = some (.cells ((rowY 512 512 y).map (Value.int .u8)).toArray 5 (0, 0))) ∧ Aside0 (Dev (fun k => w2.heap.size ≤ k ∧ k < gB) wr g n i (bandF first i B)) ∧ Aside0 (GeoAt wr w.heap.size a b c dn) ∧ Aside0 (Below w.heap.size w wr)) (fun v80 _ => m - (intOf v80).toNat)
      case atStart => exact ⟨0, by omega, rfl, HR6, HD6, HG6, HB6⟩
      case round =>
        obtain ⟨i, hi, rfl, HRj, HDj, HGj, HBj⟩ := hrel
        obtain ⟨hfm, hm1, hn2, hnd⟩ := HFM.out
        by_cases hlt : i < m
        · have hconv := rowY_conv (Nat.le_refl 512) HRj.out
          rw [← HB.out] at hconv
          have c1 : decide ((i : Int) < (m : Int)) = true := decide_eq_true (by omega)
          have c2 : (i : Int) < (m : Int) := by omega
          have hwr := write_calls (i := first + i) (s := B) HDj.out (by omega) (by rw [HB.out]; exact rowY_size (Nat.le_refl _) y) (by omega)
          rw [Int.natCast_add] at hwr
          have HWr := Aside0.mk hwr
          have W1 := Aside0.mk (wrap_inc i m hi (by omega))
          have u1 : wrap64 ((first : Int) + (i : Int)) = (first : Int) + (i : Int) := wrap_small _ (by omega) (by omega)
          have HLT := Aside0.mk hlt
          clear hwr hi hlt hfm hm1 hn2 hnd
          go_wp2_with (go_at_call 23; (with_reducible refine HWr.out.mono ?_); rintro e w7 ⟨rfl, hD, hk⟩; have HD7 := Aside0.mk hD; have HK7 := Aside0.mk hk; clear hD hk)
          have hk := HK7.out.but
          have gb1 := HGB.out
          have ls := HS2.out
          go_roundw
          case rel => exact ⟨i + 1, HLT.out, by first | go_num | (rw [W1.out]; rfl), ⟨(hk.block gB (blk_lt HRj.out) (by omega)).trans HRj.out⟩, ⟨HD7.out.ext (fun q _ => bandF_succ first i B q)⟩, ⟨(hk.block w.heap.size (blk_lt HGj.out) (by omega)).trans HGj.out⟩, ⟨HBj.out.trans (HK7.out.below (fun k hk => by omega))⟩⟩
          case measure =>
            have h := HLT.out
            first
              | (show m - ((i : Int) + 1).toNat < m - ((i : Int)).toNat; omega)
              | exact meas_inc HLT.out W1.out
        · have him : i = m := by omega
          subst him
          have c1 : decide ((i : Int) < (i : Int)) = false := decide_eq_false (by omega)
          have hfl := flush_calls HDj.out
          have HFl := Aside0.mk hfl
          have gb1 := HGB.out
          have hconv0 : ∀ W : World, (convert 53 9 (.slice (some ⟨W.heap.size, 0, none⟩) 512 512)).run Tryd.prog (W.alloc (.cells ((rowY 512 0 y).map (Value.int .u8)).toArray 5)) = .ok (.string blank512) (W.alloc (.cells ((rowY 512 0 y).map (Value.int .u8)).toArray 5)) := fun W => by
            have := rowY_conv (W := W.alloc (.cells ((rowY 512 0 y).map (Value.int .u8)).toArray 5)) (gB := W.heap.size) (Nat.zero_le 512) (heap_new _ _ rfl)
            rw [rowY_none 512 y] at this ⊢
            exact this
          have HFM2 := Aside0.mk (show first < n ∧ i < 1000000 from by omega)
          clear hfl hi hlt hfm hm1 hn2 hnd
          go_wp2_with (first
            | (go_at_call 18; (with_reducible refine HFl.out.mono ?_); rintro e w8 ⟨rfl, hD, hk⟩; have HD8 := Aside0.mk hD; have HK8 := Aside0.mk hk; have HR8 := Aside0.mk ((hk.block gB (blk_lt HRj.out) (by have := HGB.out; omega)).trans HRj.out); have HG8 := Aside0.mk (show GeoAt w8 w.heap.size a b c dn from (hk.block w.heap.size (blk_lt HGj.out) (by have := HS2.out; omega)).trans HGj.out); have HB8 := Aside0.mk (HBj.out.trans (hk.below HBj.out.size (fun k hk => by have := HS2.out; omega))); have HD9 := Aside0.mk (hD.below ((Below.refl _ w8).alloc (Nat.le_refl _) (.cells ((rowY 512 0 y).map (Value.int .u8)).toArray 5))); clear hD hk)
            | (go_at_call 23; refine (writeF_calls (i := first) (s := blank512) HD9.out HFM2.out.1 blank512_size HFM2.out.2).mono ?_; rintro e w10 ⟨rfl, hD, hk⟩; have HD10 := Aside0.mk hD; have hk2 := (KeptBut.of_below ((Below.refl _ w8).alloc (Nat.le_refl _) (.cells ((rowY 512 0 y).map (Value.int .u8)).toArray 5))).trans hk.but; have HR10 := Aside0.mk ((hk2.block gB (blk_lt HR8.out) (by have := HGB.out; omega)).trans HR8.out); have HG10 := Aside0.mk (show GeoAt w10 w.heap.size a b c dn from (hk2.block w.heap.size (blk_lt HG8.out) (by have := HS2.out; omega)).trans HG8.out); have HB10 := Aside0.mk (HB8.out.trans (hk2.below HB8.out.size (fun k hk => by have := HS2.out; omega))); clear hD hk hk2)
            | (at_builtin; refine print_append_row_of (w0 := w10) Value.bool false w10.heap.size rfl (.tmp 101) (.tmp 102) 52 4 (.bool false) 1 rfl Tryd.underlying52 (by kernel_rfl) rfl (by decide) (fun _ => rfl) (.slice (some ⟨w10.heap.size, 0, none⟩) 1 1) [false] l A l.length ck rfl rfl (lit_own (heap_new _ _ rfl)) ((HKeep.out.below (HB10.out.mono (Nat.le_refl _))).below ((Below.refl _ w10).alloc (Nat.le_refl _) (.cells #[.bool false] 4))) ((Below.refl _ w10).alloc (Nat.le_refl _) (.cells #[.bool false] 4)) (by simp) (by have := HL.out; simp; omega) ?_; intro v1 w11 hown hb hg hat; obtain ⟨gk, ckk, rfl, hck⟩ := own_first hown; have HCK := Aside0.mk hck; have HB11 := Aside0.mk hb; have HD11 := Aside0.mk (HD10.out.below hb); clear hown hb hg hat hck)
            | (go_at_call 24; refine (crash_calls (i := first) HD11.out HFM2.out.1 (by simp) HCK.out (by have := HL.out; simp; omega)).mono ?_; rintro e w12 ⟨rfl, hD, hk⟩; have hk2 := (KeptBut.of_below HB11.out).trans hk; have HR12 := Aside0.mk ((hk2.block gB (blk_lt HR10.out) (by have := HGB.out; omega)).trans HR10.out); have HG12 := Aside0.mk (show GeoAt w12 w.heap.size a b c dn from (hk2.block w.heap.size (blk_lt HG10.out) (by have := HS2.out; omega)).trans HG10.out); have HB12 := Aside0.mk (HB10.out.trans (hk2.below HB10.out.size (fun k hk => by have := HS2.out; omega))); have HD12 := Aside0.mk (hD.dev); clear hD hk hk2))
          go_loopw [106] (fun v106 wr => ∃ q : Nat, q ≤ n ∧ v106 = .int .i64 q ∧ Aside0 (wr.heap[gB]? = some (.cells ((rowY 512 512 y).map (Value.int .u8)).toArray 5 (0, 0))) ∧ Aside0 (Dev (fun k => w2.heap.size ≤ k ∧ k < gB) wr g n (i + 1) (bandF first i B)) ∧ Aside0 (GeoAt wr w.heap.size a b c dn) ∧ Aside0 (Below w.heap.size w wr)) (fun v106 _ => n - (intOf v106).toNat)
          case atStart => exact ⟨0, by omega, rfl, HR12, HD12, HG12, HB12⟩
          case round =>
            obtain ⟨q, hq, rfl, HRq, HDq, HGq, HBq⟩ := hrel
            by_cases hlt : q < n
            · obtain ⟨x, hx1, hx2⟩ := HCl.out q hlt
              have HCC := Aside0.mk (fun W => geom_Cluster.calls k a b c dn q x 0 W hx1)
              have HQ := Aside0.mk hlt
              have hn256 : n ≤ 256 := HFM.out.2.2.1
              obtain ⟨j0, j1, j2, j3⟩ := HGq.out.cells
              have c1 : decide ((q : Int) < (n : Int)) = true := decide_eq_true (by omega)
              have c2 : (q : Int) < (n : Int) := by omega
              have sB := ba_bne B
              have sZ := ba_bne blank512
              by_cases hin : first ≤ q ∧ q < first + i
              · have hbf : bandF first i B q = B := by unfold bandF; rw [if_pos hin]
                obtain rfl : x = ata := hx2.2 hin
                clear hx1 hx2 hin hlt
                go_wp2_with (first
                  | (go_at_call 25; (with_reducible refine (HCC.out _).mono ?_); rintro e w13 ⟨rfl, hb⟩; have HB13 := Aside0.mk (HBq.out.trans (hb.mono HBq.out.size)); have HG13 := Aside0.mk (HGq.out.below hb); have HR13 := Aside0.mk ((hb.block gB (blk_lt HRq.out)).trans HRq.out); have HD13 := Aside0.mk (HDq.out.below hb); have hcv := rowY_conv (W := w13.alloc (.cells ((rowY 512 0 y).map (Value.int .u8)).toArray 5)) (Nat.le_refl 512) (heap_old _ HR13.out); rw [← HB.out] at hcv; clear hb)
                  | (go_at_call 15; refine (read_calls (i := q) HD13.out HQ.out).mono ?_; rw [hbf]; rintro e w14 ⟨rfl, hww⟩; obtain rfl := hww))
                have W1 := wrap_inc q n hq (by omega)
                go_roundw
                case rel => exact ⟨q + 1, HQ.out, by first | go_num | (rw [W1]; rfl), ⟨heap_old _ HR13.out⟩, ⟨HD13.out.alloc _⟩, ⟨heap_old _ HG13.out⟩, ⟨HB13.out.alloc HB13.out.size _⟩⟩
                case measure =>
                  have h := HQ.out
                  first
                    | (show n - ((q : Int) + 1).toNat < n - ((q : Int)).toNat; omega)
                    | exact meas_inc HQ.out W1
              · have hbf : bandF first i B q = blank512 := by unfold bandF; rw [if_neg hin]
                have hne : (x == ata) = false := beq_eq_false_iff_ne.mpr (fun e => hin (hx2.1 e))
                clear hx1 hx2 hin hlt
                go_wp2_with (first
                  | (go_at_call 25; (with_reducible refine (HCC.out _).mono ?_); rintro e w13 ⟨rfl, hb⟩; have HB13 := Aside0.mk (HBq.out.trans (hb.mono HBq.out.size)); have HG13 := Aside0.mk (HGq.out.below hb); have HR13 := Aside0.mk ((hb.block gB (blk_lt HRq.out)).trans HRq.out); have HD13 := Aside0.mk (HDq.out.below hb); clear hb)
                  | (go_at_call 15; refine (read_calls (i := q) HD13.out HQ.out).mono ?_; rw [hbf]; rintro e w14 ⟨rfl, hww⟩; obtain rfl := hww))
                have W1 := wrap_inc q n hq (by omega)
                go_roundw
                case rel => exact ⟨q + 1, HQ.out, by first | go_num | (rw [W1]; rfl), ⟨heap_old _ HR13.out⟩, ⟨HD13.out.alloc _⟩, ⟨heap_old _ HG13.out⟩, ⟨HB13.out.alloc HB13.out.size _⟩⟩
                case measure =>
                  have h := HQ.out
                  first
                    | (show n - ((q : Int) + 1).toNat < n - ((q : Int)).toNat; omega)
                    | exact meas_inc HQ.out W1
            · have hqn : q = n := by omega
              subst hqn
              have c1 : decide ((q : Int) < (q : Int)) = false := decide_eq_false (by omega)
              obtain ⟨j0, j1, j2, j3⟩ := HGq.out.cells
              have u1 : (dn : Int) * (i : Int) = (q : Int) := by have := HFM.out.2.2.2; rw [this]; push_cast; rfl
              have u2 : wrap64 ((dn : Int) * (i : Int)) = (q : Int) := by rw [u1]; exact wrap_small _ (by omega) (by have := HFM.out.2.2.1; omega)
              clear hq hlt
              go_wp2
              go_ret
              exact ⟨by simp, HBq.out⟩
open Classical in
theorem caulktop_TopClusters.calls (k : Nat) (a b c d ata y : Int) (A : Option Addr) (ck : Nat) (l : List Bool) (r : Bool) (w : World) (hr3 : Kd.C Kd.bool w A l.length l) (hc3 : l.length ≤ ck) (hG : GT w) (h : caulktop_TopClusters.f k a b c d ata y l = some r) :
    Calls Tryd.prog 5 #[.agg #[.int .i64 a, .int .i64 b, .int .i64 c, .int .i64 d], .int .i64 ata, .int .u8 y, .slice A l.length ck] w fun e w' => e = .returned (.bool r) ∧ Below w.heap.size w w' := by
  unfold caulktop_TopClusters.f at h
  by_cases hx : clusOk k a b c d ata ∧ l.length < 140737488355300
  · rw [if_pos hx] at h
    obtain rfl := Option.some.inj h
    obtain ⟨⟨hbeg, n, hS, hn | ⟨h1, h2, z, hZ, hz1, ⟨hF, hr⟩ | ⟨first, m, dn, hd, hF, hzm, hX⟩⟩⟩, hl⟩ := hx
    · exact clus_out k a b c d ata n y _ w hG hbeg hS hn
    all_goals obtain ⟨nn, rfl⟩ : ∃ nn : Nat, n = (nn : Int) := ⟨n.toNat, by omega⟩
    · exact clus_none k a b c d ata y nn z _ w hG hbeg hS (by omega) (by omega) hZ hz1 hF hr
    · exact clus_fine k a b c d ata y nn z dn m first A ck l w hG hbeg hS (by omega) (by omega) hZ hz1 hd hF hzm hX hl hr3
  · rw [if_neg hx] at h; cases h
end Go.Proofs.YtnhigoffkmfccaaDoor.G
