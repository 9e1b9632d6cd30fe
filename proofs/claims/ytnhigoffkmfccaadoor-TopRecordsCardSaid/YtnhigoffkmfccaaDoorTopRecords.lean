/- The law TopRecords over this seat's program: what it comes to, walked. Conditions: each lemma's own. -/
import Derived.Test.YtnhigoffkmfccaaDoorTopSectors
import Derived.Test.YtnhigoffkmfccaaDoorDevGarble
import Derived.Test.YtnhigoffkmfccaaDoorCluMore
import Derived.Deep.Cut
import Derived.Deep.RegionWith
namespace Go.Proofs.YtnhigoffkmfccaaDoor.G
open Go.RowKit Go.Shelf Go.ChangeMaps Go.MapKept Go.Proofs.YtnhigoffkmfccaaDoorW.PrintWords Go.Proofs.YtnhigoffkmfccaaDoorW.PrintLast Go.Proofs.YtnhigoffkmfccaaDoorW.PrintMore
set_option linter.unusedVariables false
set_option linter.unusedSimpArgs false
/-- What a container holds once a text was written to it. -/
def recF (first m : Nat) (t : ByteArray) : Nat → ByteArray := wrL (fun _ => blank512) first t (List.finRange m)
/-- What is read once four bytes were turned. -/
def recT (first m off : Nat) (t : ByteArray) (y : Int) : ByteArray := strOfNums (rawB (fput (recF first m t) first (garS (recF first m t first) off y)) first (List.finRange m))
def recFine (k n z first m : Nat) (s : ByteArray) (ws vs : List Int) (off y : Int) : Prop :=
  z = m * 512 ∧ 1 ≤ m ∧ first + m ≤ n ∧ ∃ (sum : Int) (u : ByteArray), crc_Sum.f (fillX z s) = some sum ∧ field_All.f k (fillX z s) ws = some (vs, u, 0) ∧ caulkref07_Same.f k vs vs = some true ∧
    ((off < 0 ∨ 508 < off) ∨ ∃ (on : Nat) (sum2 : Int), off = (on : Int) ∧ on ≤ 508 ∧ crc_Sum.f (recT first m on (fillX z s) y) = some sum2 ∧ (sum2 = sum ↔ y = 0))
/-- What TopRecords asks. -/
def recOk (k : Nat) (a b c d ata : Int) (ws vs : List Int) (off y : Int) : Prop :=
  caulktop_begins.f = some true ∧ (0 ≤ y ∧ y < 4294967296) ∧ ∃ n : Int, geom_Sectors.f k a b c d = some n ∧ (((n < 1 ∨ 256 < n) ∨ 60 < ws.length) ∨ (1 ≤ n ∧ n ≤ 256 ∧ ws.length ≤ 60 ∧ ∃ (s : ByteArray) (e1 : Int), field_Join.f k ws vs = some (s, e1) ∧ ∃ z : Nat, geom_Size.f k a b c d = some (z : Int) ∧ z ≠ 0 ∧ z ≤ 1000000 ∧ s.size ≤ z ∧
    (e1 ≠ 0 ∨ (e1 = 0 ∧ (geom_First.f k a b c d ata = some (0, 1) ∨ ∃ first m : Nat, geom_First.f k a b c d ata = some ((first : Int), 0) ∧ recFine k n.toNat z first m s ws vs off y)))))
open Classical in
noncomputable def caulktop_TopRecords.f (k : Nat) (a b c d ata : Int) (ws vs : List Int) (off y : Int) : Option Bool := if recOk k a b c d ata ws vs off y then some true else none
def caulktop_TopRecords.Pure : Prop := ∀ (a b c d ata : Int) (ws vs : List Int) (off y : Int), (Lit.int .i64 a).wf = true → (Lit.int .i64 b).wf = true → (Lit.int .i64 c).wf = true → (Lit.int .i64 d).wf = true → (Lit.int .i64 ata).wf = true → (ws.length * 8 ≤ 140737488351232 ∧ ∀ x0_ ∈ ws, (Lit.int .i64 x0_).wf = true) → (vs.length * 8 ≤ 140737488351232 ∧ ∀ x0_ ∈ vs, (Lit.int .u64 x0_).wf = true) → (Lit.int .i64 off).wf = true → (Lit.int .u32 y).wf = true → ∃ k, caulktop_TopRecords.f k a b c d ata ws vs off y = some true
set_option maxRecDepth 100000 in
set_option maxHeartbeats 4000000 in
theorem recs_out (k : Nat) (a b c d ata : Int) (n : Int) (A2 : Option Addr) (c2 : Nat) (ws : List Int) (A3 : Option Addr) (c3 : Nat) (vs : List Int) (off y : Int) (w : World) (hr2 : Kd.C (Kd.int .i64) w A2 ws.length ws) (hc2 : ws.length ≤ c2) (hr3 : Kd.C (Kd.int .u64) w A3 vs.length vs) (hc3 : vs.length ≤ c3) (hG : GT w) (hbeg : caulktop_begins.f = some true) (hS : geom_Sectors.f k a b c d = some n) (hn : (n < 1 ∨ 256 < n) ∨ 60 < ws.length) :
    Calls Tryd.prog 4 #[.agg #[.int .i64 a, .int .i64 b, .int .i64 c, .int .i64 d], .int .i64 ata, .slice A2 ws.length c2, .slice A3 vs.length c3, .int .i64 off, .int .u32 y] w fun e w' => e = .returned (.bool true) ∧ Below w.heap.size w w' := by
  have hg0 : GeoAt (w.alloc (.cells #[.int .i64 a, .int .i64 b, .int .i64 c, .int .i64 d] 23)) w.heap.size a b c d := World.alloc_heap_new w _
  have hb0 := below_alloc (Below.refl w.heap.size w) (.cells #[.int .i64 a, .int .i64 b, .int .i64 c, .int .i64 d] 23)
  have HG := Aside0.mk hG
  have HG0 := Aside0.mk hg0
  have HB0 := Aside0.mk hb0
  have HBeg := Aside0.mk (fun W hW => caulktop_begins.calls true W hW hbeg)
  have SZ0 := Aside0.mk hb0.size
  have HR2 := Aside0.mk hr2
  have HR3 := Aside0.mk hr3
  have HC2 := Aside0.mk hc2
  have HC3 := Aside0.mk hc3
  have HSec := Aside0.mk (fun W => geom_Sectors.calls k a b c d n W hS)
  clear hG hg0 hb0 hbeg hS hr2 hr3 hc2 hc3
  have hl0 : ¬ n < 1 → ¬ n > 256 → (ws.length : Int) > 60 := fun h1 h2 => by omega
  by_cases h1 : n < 1
  · clear hn hl0
    go_enter Tryd.func4, Tryd.ntmps4
    go_wp2_with (first
      | (go_at_call 6; (with_reducible refine (HBeg.out _ (HG.out.below HB0.out)).mono ?_); rintro e w1 ⟨rfl, hb⟩; have HB1 := Aside0.mk hb.below; obtain ⟨c0, c1, c2, c3⟩ := (HG0.out.below HB1.out).cells; clear hb)
      | (go_at_call 7; (with_reducible refine (HSec.out _).mono ?_); rintro e w2 ⟨rfl, hb⟩; have HB2 := Aside0.mk hb; clear hb))
    go_ret
    exact ⟨rfl, HB0.out.trans ((HB1.out.mono SZ0.out).trans (HB2.out.mono (Nat.le_trans SZ0.out HB1.out.size)))⟩
  · by_cases h2 : n > 256
    all_goals
      (first | (have h3 := hl0 h1 h2) | skip)
      clear hn hl0
      go_enter Tryd.func4, Tryd.ntmps4
      go_wp2_with (first
        | (go_at_call 6; (with_reducible refine (HBeg.out _ (HG.out.below HB0.out)).mono ?_); rintro e w1 ⟨rfl, hb⟩; have HB1 := Aside0.mk hb.below; obtain ⟨c0, c1, c2, c3⟩ := (HG0.out.below HB1.out).cells; clear hb)
        | (go_at_call 7; (with_reducible refine (HSec.out _).mono ?_); rintro e w2 ⟨rfl, hb⟩; have HB2 := Aside0.mk hb; clear hb))
      go_ret
      exact ⟨rfl, HB0.out.trans ((HB1.out.mono SZ0.out).trans (HB2.out.mono (Nat.le_trans SZ0.out HB1.out.size)))⟩
set_option maxRecDepth 100000 in
set_option maxHeartbeats 4000000 in
theorem recs_err (k : Nat) (a b c d ata : Int) (n z : Nat) (s : ByteArray) (ej : Int) (A2 : Option Addr) (c2 : Nat) (ws : List Int) (A3 : Option Addr) (c3 : Nat) (vs : List Int) (off y : Int) (w : World) (hr2 : Kd.C (Kd.int .i64) w A2 ws.length ws) (hc2 : ws.length ≤ c2) (hr3 : Kd.C (Kd.int .u64) w A3 vs.length vs) (hc3 : vs.length ≤ c3) (hG : GT w) (hbeg : caulktop_begins.f = some true) (hS : geom_Sectors.f k a b c d = some (n : Int)) (hn1 : 1 ≤ n) (hn2 : n ≤ 256) (hl : ws.length ≤ 60) (hJ : field_Join.f k ws vs = some (s, ej)) (hZ : geom_Size.f k a b c d = some (z : Int)) (hz0 : z ≠ 0) (hz1 : z ≤ 1000000) (hs : s.size ≤ z) (hej : ej ≠ 0) :
    Calls Tryd.prog 4 #[.agg #[.int .i64 a, .int .i64 b, .int .i64 c, .int .i64 d], .int .i64 ata, .slice A2 ws.length c2, .slice A3 vs.length c3, .int .i64 off, .int .u32 y] w fun e w' => e = .returned (.bool true) ∧ Below w.heap.size w w' := by
  have hg0 : GeoAt (w.alloc (.cells #[.int .i64 a, .int .i64 b, .int .i64 c, .int .i64 d] 23)) w.heap.size a b c d := World.alloc_heap_new w _
  have hb0 := below_alloc (Below.refl w.heap.size w) (.cells #[.int .i64 a, .int .i64 b, .int .i64 c, .int .i64 d] 23)
  have HG := Aside0.mk hG
  have HG0 := Aside0.mk hg0
  have HB0 := Aside0.mk hb0
  have HBeg := Aside0.mk (fun W hW => caulktop_begins.calls true W hW hbeg)
  have SZ0 := Aside0.mk hb0.size
  have HR2 := Aside0.mk hr2
  have HR3 := Aside0.mk hr3
  have HC2 := Aside0.mk hc2
  have HC3 := Aside0.mk hc3
  have HSec := Aside0.mk (fun W => geom_Sectors.calls k a b c d n W hS)
  have HNew := Aside0.mk (fun W => new_calls (w := W) hn1 (Nat.le_trans hn2 (by decide)))
  have HJ := Aside0.mk (fun W h2 h3 => field_Join.calls k A2 c2 ws A3 c3 vs s ej W h2 HC2.out h3 HC3.out hJ)
  have HFill := Aside0.mk (fun W => fill_calls k z a b c d s W hZ hz0 hz1 hs)
  have b1 : ¬ ((n : Int) < 1) := by omega
  have b2 : ¬ ((n : Int) > 256) := by omega
  have b3 : ¬ ((ws.length : Int) > 60) := by omega
  have b4 : (ej != 0) = true := bne_iff_ne.mpr hej
  clear hG hg0 hb0 hbeg hS hn1 hn2 hZ hz0 hz1 hs hl hJ hej hr2 hr3 hc2 hc3
  obtain ⟨t, ht⟩ : ∃ t, t = fillX z s := ⟨_, rfl⟩
  rw [← ht] at HFill
  clear ht
  go_enter Tryd.func4, Tryd.ntmps4
  go_wp2_with (first
    | (go_at_call 6; (with_reducible refine (HBeg.out _ (HG.out.below HB0.out)).mono ?_); rintro e w1 ⟨rfl, hb⟩; have HB1 := Aside0.mk (HB0.out.trans (hb.below.mono SZ0.out)); have HG1 := Aside0.mk (HG0.out.below hb.below); obtain ⟨c0, c1, c2, c3⟩ := HG1.out.cells; clear hb)
    | (go_at_call 7; (with_reducible refine (HSec.out _).mono ?_); rintro e w2 ⟨rfl, hb⟩; have HB2 := Aside0.mk (HB1.out.trans (hb.mono HB1.out.size)); have HG2 := Aside0.mk (HG1.out.below hb); clear hb)
    | (go_at_call 17; (with_reducible refine (HJ.out _ (Kd.C_below HR2.out HB2.out) (Kd.C_below HR3.out HB2.out)).mono ?_); rintro e w3 ⟨rfl, hb⟩; have HB3 := Aside0.mk (HB2.out.trans (hb.mono HB2.out.size)); have HG3 := Aside0.mk (HG2.out.below hb); obtain ⟨d0, d1, d2, d3⟩ := HG3.out.cells; clear hb)
    | (go_at_call 9; (with_reducible refine (HFill.out _).mono ?_); rintro e w4 ⟨rfl, hb⟩; have HB4 := Aside0.mk (HB3.out.trans (hb.mono HB3.out.size)); have HG4 := Aside0.mk (HG3.out.below hb); have HS4 := Aside0.mk (show w.heap.size < w4.heap.size from blk_lt HG4.out); clear hb)
    | (go_at_call 8; (with_reducible refine (HNew.out _).mono ?_); rintro e w5 ⟨g, rfl, hD, hb⟩; have HD5 := Aside0.mk hD; have HB5 := Aside0.mk (HB4.out.trans (hb.mono HB4.out.size)); have HG5 := Aside0.mk (HG4.out.below hb); obtain ⟨e0, e1, e2, e3⟩ := HG5.out.cells; clear hb hD))
  go_ret
  exact ⟨rfl, HB5.out⟩
set_option maxRecDepth 100000 in
set_option maxHeartbeats 4000000 in
theorem recs_none (k : Nat) (a b c d ata : Int) (n z : Nat) (s : ByteArray) (A2 : Option Addr) (c2 : Nat) (ws : List Int) (A3 : Option Addr) (c3 : Nat) (vs : List Int) (off y : Int) (w : World) (hr2 : Kd.C (Kd.int .i64) w A2 ws.length ws) (hc2 : ws.length ≤ c2) (hr3 : Kd.C (Kd.int .u64) w A3 vs.length vs) (hc3 : vs.length ≤ c3) (hG : GT w) (hbeg : caulktop_begins.f = some true) (hS : geom_Sectors.f k a b c d = some (n : Int)) (hn1 : 1 ≤ n) (hn2 : n ≤ 256) (hl : ws.length ≤ 60) (hJ : field_Join.f k ws vs = some (s, 0)) (hZ : geom_Size.f k a b c d = some (z : Int)) (hz0 : z ≠ 0) (hz1 : z ≤ 1000000) (hs : s.size ≤ z) (hF : geom_First.f k a b c d ata = some (0, 1)) :
    Calls Tryd.prog 4 #[.agg #[.int .i64 a, .int .i64 b, .int .i64 c, .int .i64 d], .int .i64 ata, .slice A2 ws.length c2, .slice A3 vs.length c3, .int .i64 off, .int .u32 y] w fun e w' => e = .returned (.bool true) ∧ Below w.heap.size w w' := by
  have hg0 : GeoAt (w.alloc (.cells #[.int .i64 a, .int .i64 b, .int .i64 c, .int .i64 d] 23)) w.heap.size a b c d := World.alloc_heap_new w _
  have hb0 := below_alloc (Below.refl w.heap.size w) (.cells #[.int .i64 a, .int .i64 b, .int .i64 c, .int .i64 d] 23)
  have HG := Aside0.mk hG
  have HG0 := Aside0.mk hg0
  have HB0 := Aside0.mk hb0
  have HBeg := Aside0.mk (fun W hW => caulktop_begins.calls true W hW hbeg)
  have SZ0 := Aside0.mk hb0.size
  have HR2 := Aside0.mk hr2
  have HR3 := Aside0.mk hr3
  have HC2 := Aside0.mk hc2
  have HC3 := Aside0.mk hc3
  have HSec := Aside0.mk (fun W => geom_Sectors.calls k a b c d n W hS)
  have HNew := Aside0.mk (fun W => new_calls (w := W) hn1 (Nat.le_trans hn2 (by decide)))
  have HJ := Aside0.mk (fun W h2 h3 => field_Join.calls k A2 c2 ws A3 c3 vs s 0 W h2 HC2.out h3 HC3.out hJ)
  have HFill := Aside0.mk (fun W => fill_calls k z a b c d s W hZ hz0 hz1 hs)
  have b1 : ¬ ((n : Int) < 1) := by omega
  have b2 : ¬ ((n : Int) > 256) := by omega
  have b3 : ¬ ((ws.length : Int) > 60) := by omega
  obtain ⟨t, ht⟩ : ∃ t, t = fillX z s := ⟨_, rfl⟩
  rw [← ht] at HFill
  have HWr := Aside0.mk (fun (W : World) (ga : Addr) => cwrite_err (w := W) ga k a b c d ata 1 t (by decide) hF)
  clear hG hg0 hb0 hbeg hS hn1 hn2 hZ hz0 hz1 hs hl hJ hr2 hr3 hc2 hc3 hF ht
  go_enter Tryd.func4, Tryd.ntmps4
  go_wp2_with (first
    | (go_at_call 6; (with_reducible refine (HBeg.out _ (HG.out.below HB0.out)).mono ?_); rintro e w1 ⟨rfl, hb⟩; have HB1 := Aside0.mk (HB0.out.trans (hb.below.mono SZ0.out)); have HG1 := Aside0.mk (HG0.out.below hb.below); obtain ⟨c0, c1, c2, c3⟩ := HG1.out.cells; clear hb)
    | (go_at_call 7; (with_reducible refine (HSec.out _).mono ?_); rintro e w2 ⟨rfl, hb⟩; have HB2 := Aside0.mk (HB1.out.trans (hb.mono HB1.out.size)); have HG2 := Aside0.mk (HG1.out.below hb); clear hb)
    | (go_at_call 17; (with_reducible refine (HJ.out _ (Kd.C_below HR2.out HB2.out) (Kd.C_below HR3.out HB2.out)).mono ?_); rintro e w3 ⟨rfl, hb⟩; have HB3 := Aside0.mk (HB2.out.trans (hb.mono HB2.out.size)); have HG3 := Aside0.mk (HG2.out.below hb); obtain ⟨d0, d1, d2, d3⟩ := HG3.out.cells; clear hb)
    | (go_at_call 9; (with_reducible refine (HFill.out _).mono ?_); rintro e w4 ⟨rfl, hb⟩; have HB4 := Aside0.mk (HB3.out.trans (hb.mono HB3.out.size)); have HG4 := Aside0.mk (HG3.out.below hb); have HS4 := Aside0.mk (show w.heap.size < w4.heap.size from blk_lt HG4.out); clear hb)
    | (go_at_call 8; (with_reducible refine (HNew.out _).mono ?_); rintro e w5 ⟨g, rfl, hD, hb⟩; have HD5 := Aside0.mk hD; have HB5 := Aside0.mk (HB4.out.trans (hb.mono HB4.out.size)); have HG5 := Aside0.mk (HG4.out.below hb); obtain ⟨e0, e1, e2, e3⟩ := HG5.out.cells; clear hb hD)
    | (go_at_call 13; refine (HWr.out _ _).mono ?_; rintro e w6 ⟨rfl, hb⟩; have HB6 := Aside0.mk (HB5.out.trans (hb.mono HB5.out.size)); clear hb))
  go_ret
  exact ⟨rfl, HB6.out⟩
theorem recF_at {first m i : Nat} {t : ByteArray} (hi : i < m) : recF first m t (first + i) = sect t i := wrL_at _ _ _ hi
theorem recF_size {first m i : Nat} {t : ByteArray} (ht : t.size = m * 512) (hi : i < m) : (recF first m t (first + i)).size = 512 := by rw [recF_at hi]; exact sect_size ht hi
theorem garS_size (s : ByteArray) (off : Nat) (y : Int) : (garS s off y).size = s.size := by
  unfold garS
  rw [strOfNums_size, garL_len, bytesOf_length]
theorem fput_size {F : Nat → ByteArray} {p m : Nat} {x : ByteArray} (first : Nat) (hF : ∀ i, i < m → (F (first + i)).size = 512) (hx : x.size = 512) : ∀ i, i < m → (fput F p x (first + i)).size = 512 := fun i hi => by
  unfold fput
  split
  · exact hx
  · exact hF i hi
set_option maxRecDepth 100000 in
set_option maxHeartbeats 4000000 in
theorem recs_fine (k : Nat) (a b c d ata : Int) (n z first m : Nat) (s : ByteArray) (A2 : Option Addr) (c2 : Nat) (ws : List Int) (A3 : Option Addr) (c3 : Nat) (vs : List Int) (off y : Int) (w : World) (hr2 : Kd.C (Kd.int .i64) w A2 ws.length ws) (hc2 : ws.length ≤ c2) (hr3 : Kd.C (Kd.int .u64) w A3 vs.length vs) (hc3 : vs.length ≤ c3) (hG : GT w) (hbeg : caulktop_begins.f = some true) (hS : geom_Sectors.f k a b c d = some (n : Int)) (hn1 : 1 ≤ n) (hn2 : n ≤ 256) (hl : ws.length ≤ 60) (hJ : field_Join.f k ws vs = some (s, 0)) (hZ : geom_Size.f k a b c d = some (z : Int)) (hz0 : z ≠ 0) (hz1 : z ≤ 1000000) (hs : s.size ≤ z) (hy : 0 ≤ y ∧ y < 4294967296) (hF : geom_First.f k a b c d ata = some ((first : Int), 0)) (hX : recFine k n z first m s ws vs off y) :
    Calls Tryd.prog 4 #[.agg #[.int .i64 a, .int .i64 b, .int .i64 c, .int .i64 d], .int .i64 ata, .slice A2 ws.length c2, .slice A3 vs.length c3, .int .i64 off, .int .u32 y] w fun e w' => e = .returned (.bool true) ∧ Below w.heap.size w w' := by
  have hg0 : GeoAt (w.alloc (.cells #[.int .i64 a, .int .i64 b, .int .i64 c, .int .i64 d] 23)) w.heap.size a b c d := World.alloc_heap_new w _
  have hb0 := below_alloc (Below.refl w.heap.size w) (.cells #[.int .i64 a, .int .i64 b, .int .i64 c, .int .i64 d] 23)
  have HG := Aside0.mk hG
  have HG0 := Aside0.mk hg0
  have HB0 := Aside0.mk hb0
  have HBeg := Aside0.mk (fun W hW => caulktop_begins.calls true W hW hbeg)
  have SZ0 := Aside0.mk hb0.size
  have HR2 := Aside0.mk hr2
  have HR3 := Aside0.mk hr3
  have HC2 := Aside0.mk hc2
  have HC3 := Aside0.mk hc3
  have HSec := Aside0.mk (fun W => geom_Sectors.calls k a b c d n W hS)
  have HNew := Aside0.mk (fun W => new_calls (w := W) hn1 (Nat.le_trans hn2 (by decide)))
  have HJ := Aside0.mk (fun W h2 h3 => field_Join.calls k A2 c2 ws A3 c3 vs s 0 W h2 HC2.out h3 HC3.out hJ)
  have HFill := Aside0.mk (fun W => fill_calls k z a b c d s W hZ hz0 hz1 hs)
  have b1 : ¬ ((n : Int) < 1) := by omega
  have b2 : ¬ ((n : Int) > 256) := by omega
  have b3 : ¬ ((ws.length : Int) > 60) := by omega
  obtain ⟨hzm, hm1, hfm, sum, u, hC, hA, hSame, hoff⟩ := hX
  have hm2 : m ≤ 2147483648 := by omega
  obtain ⟨t, ht⟩ : ∃ t, t = fillX z s := ⟨_, rfl⟩
  have htz : t.size = z := by rw [ht]; exact fillX_size hs
  have htm : t.size = m * 512 := by omega
  rw [← ht] at HFill hC hA hoff
  obtain ⟨F, hFd⟩ : ∃ F, F = recF first m t := ⟨_, rfl⟩
  have HWr := Aside0.mk (fun (W : World) (P : Nat → Prop) (g : Nat) (hD : Dev P W g n 0 (fun _ => blank512)) => cwrite_calls hD k a b c d ata first z m t hZ hF hzm hm2 htz hfm (by omega))
  have HFW : Aside0 (wrL (fun _ => blank512) first t (List.finRange m) = F) := ⟨hFd.symm⟩
  have hfs : ∀ i, i < m → (F (first + i)).size = 512 := fun i hi => by rw [hFd]; exact recF_size htm hi
  have HRd := Aside0.mk (fun (W : World) (P : Nat → Prop) (g c0 : Nat) (hD : Dev P W g n c0 F) (hG : GT W) => cread_calls hD hG k a b c d ata first z m sum hZ hF hzm hm1 hm2 hfm hfs t (by rw [hFd]; exact raw_wr _ _ _ htm) hC)
  have HFi := Aside0.mk (fun W => geom_First.calls k a b c d ata (first : Int) 0 W hF)
  have HAll := Aside0.mk (fun W h2 => field_All.calls k t A2 c2 ws vs u 0 W h2 HC2.out hA)
  have HSame := Aside0.mk (fun W A c h1 hc h3 => caulkref07_Same.calls k A c vs A3 c3 vs true W h1 hc h3 HC3.out hSame)
  have HCs := Aside0.mk hC
  have f0 : F first = sect t 0 := by rw [hFd]; exact recF_at (i := 0) (by omega)
  have hfs0 : (F first).size = 512 := hfs 0 (by omega)
  have HIN := Aside0.mk (show first < n by omega)
  have HOff := Aside0.mk (show (off < 0 ∨ 508 < off) ∨ ∃ on : Nat, off = (on : Int) ∧ on ≤ 508 ∧ (∀ (W : World) (P : Nat → Prop) (g c0 : Nat), DevF P W g n c0 F (fun _ => none) → Calls Tryd.prog 21 #[.pointer (some ⟨g, 0, none⟩), .int .i64 first, .int .i64 (on : Int), .int .u32 y] W fun e w' => e = .returned (.int .i64 0) ∧ DevF P w' g n c0 (fput F first (garS (F first) on y)) (fun _ => none) ∧ KeptBut P W w') ∧
      ∀ (W : World) (P : Nat → Prop) (g c0 : Nat), Dev P W g n c0 (fput F first (garS (F first) on y)) → GT W → Calls Tryd.prog 12 #[.pointer (some ⟨g, 0, none⟩), .agg #[.int .i64 a, .int .i64 b, .int .i64 c, .int .i64 d], .int .i64 ata, .int .u32 sum] W fun e w' => ∃ (u : ByteArray) (q : Int), e = .returned (.tuple #[.string u, .int .i64 q]) ∧ (q == 0) = (y == 0) ∧ Below W.heap.size W w' from by
    rcases hoff with ho | ⟨on, sum2, rfl, hon, hC2, hiff⟩
    · exact .inl ho
    · refine .inr ⟨on, rfl, hon, fun W P g c0 hD => garble_calls hD HIN.out y hon hfs0 hy, fun W P g c0 hD hG => ?_⟩
      have hfs2 := fput_size (p := first) (x := garS (F first) on y) first hfs (by rw [garS_size]; exact hfs0)
      have ht2 : strOfNums (rawB (fput F first (garS (F first) on y)) first (List.finRange m)) = recT first m on t y := by rw [hFd]; rfl
      by_cases hy0 : y = 0
      · have e2 := hiff.2 hy0
        rw [e2] at hC2
        refine (cread_calls hD hG k a b c d ata first z m sum hZ hF hzm hm1 hm2 hfm hfs2 _ ht2 hC2).mono ?_
        rintro e w' ⟨rfl, hb⟩
        exact ⟨_, 0, rfl, by rw [hy0], hb⟩
      · refine (cread_bad hD hG k a b c d ata first z m sum sum2 hZ hF hzm hm1 hm2 hfm hfs2 _ ht2 hC2 (fun e => hy0 (hiff.1 e))).mono ?_
        rintro e w' ⟨rfl, hb⟩
        exact ⟨_, 9, rfl, by rw [show (y == 0) = false from beq_eq_false_iff_ne.mpr hy0]; rfl, hb⟩)
  clear hG hg0 hb0 hbeg hS hn1 hn2 hZ hz0 hz1 hs hl hJ hr2 hr3 hc2 hc3 hF hy hzm hm1 hfm hC hA hSame hoff hm2 ht htz htm hFd hfs f0 hfs0
  go_enter Tryd.func4, Tryd.ntmps4
  go_upto_region 15 with (first
    | (go_at_call 6; (with_reducible refine (HBeg.out _ (HG.out.below HB0.out)).mono ?_); rintro e w1 ⟨rfl, hb⟩; have HB1 := Aside0.mk (HB0.out.trans (hb.below.mono SZ0.out)); have HG1 := Aside0.mk (HG0.out.below hb.below); obtain ⟨c0, c1, c2, c3⟩ := HG1.out.cells; clear hb)
    | (go_at_call 7; (with_reducible refine (HSec.out _).mono ?_); rintro e w2 ⟨rfl, hb⟩; have HB2 := Aside0.mk (HB1.out.trans (hb.mono HB1.out.size)); have HG2 := Aside0.mk (HG1.out.below hb); clear hb)
    | (go_at_call 17; (with_reducible refine (HJ.out _ (Kd.C_below HR2.out HB2.out) (Kd.C_below HR3.out HB2.out)).mono ?_); rintro e w3 ⟨rfl, hb⟩; have HB3 := Aside0.mk (HB2.out.trans (hb.mono HB2.out.size)); have HG3 := Aside0.mk (HG2.out.below hb); obtain ⟨d0, d1, d2, d3⟩ := HG3.out.cells; clear hb)
    | (go_at_call 9; (with_reducible refine (HFill.out _).mono ?_); rintro e w4 ⟨rfl, hb⟩; have HB4 := Aside0.mk (HB3.out.trans (hb.mono HB3.out.size)); have HG4 := Aside0.mk (HG3.out.below hb); have HS4 := Aside0.mk (show w.heap.size < w4.heap.size from blk_lt HG4.out); clear hb)
    | (go_at_call 8; (with_reducible refine (HNew.out _).mono ?_); rintro e w5 ⟨g, rfl, hD, hb⟩; have HD5 := Aside0.mk hD; have HB5 := Aside0.mk (HB4.out.trans (hb.mono HB4.out.size)); have HG5 := Aside0.mk (HG4.out.below hb); obtain ⟨e0, e1, e2, e3⟩ := HG5.out.cells; clear hb hD)
    | (go_at_call 13; refine (HWr.out _ _ _ HD5.out).mono ?_; rw [HFW.out]; rintro e w6 ⟨rfl, hD, hb⟩; have HD6 := Aside0.mk hD; have HB6 := Aside0.mk (HB5.out.trans (hb.below HB5.out.size (fun k hk => by have := HS4.out; omega))); have HG6 := Aside0.mk (show GeoAt w6 w.heap.size a b c d from (hb.block w.heap.size (blk_lt HG5.out) (by have := HS4.out; omega)).trans HG5.out); clear hb hD)
    | (go_at_call 18; refine (flush_calls HD6.out).mono ?_; rintro e w7 ⟨rfl, hD, hb⟩; have HD7 := Aside0.mk hD; have HB7 := Aside0.mk (HB6.out.trans (hb.below HB6.out.size (fun k hk => by have := HS4.out; omega))); have HG7 := Aside0.mk (show GeoAt w7 w.heap.size a b c d from (hb.block w.heap.size (blk_lt HG6.out) (by have := HS4.out; omega)).trans HG6.out); obtain ⟨i0, i1, i2, i3⟩ := HG7.out.cells; clear hb hD))
  have j0 : w7.drew.cell? ⟨w.heap.size, 0, none⟩ = some (.int .i64 a) := i0
  have j1 : w7.drew.cell? ⟨w.heap.size, 1, none⟩ = some (.int .i64 b) := i1
  have j2 : w7.drew.cell? ⟨w.heap.size, 2, none⟩ = some (.int .i64 c) := i2
  have j3 : w7.drew.cell? ⟨w.heap.size, 3, none⟩ = some (.int .i64 d) := i3
  obtain ⟨P, hP⟩ : ∃ P, P = fun k => w4.heap.size ≤ k := ⟨_, rfl⟩
  have HP := Aside0.mk hP
  rw [← hP] at HD7
  clear hP HD5 HD6 HG0 HG1 HG2 HG3 HG4 HG5 HG6 HBeg HSec HNew HJ HFill HWr
  go_cut [21, 22] from 93 (fun v21 v22 wc => v21 = .string t ∧ v22 = .int .i64 0 ∧ Aside0 (DevF P wc g n (0 + m) F (fun _ => none)) ∧ Aside0 (GeoAt wc w.heap.size a b c d) ∧ Aside0 (Below w.heap.size w wc))
  case first =>
    go_region_with (first
      | (go_at_call 14; (with_reducible refine (crc_Sum.calls t sum _ (HG.out.below (HB7.out.drew)) HCs.out).mono ?_); rintro e wS ⟨rfl, hb⟩; have HBS := Aside0.mk (show Below w.heap.size w wS from HB7.out.drew.trans (hb.below.mono HB7.out.size)); have HDS := Aside0.mk (show DevF P wS g n (0 + m) F (fun _ => none) from HD7.out.below ((Below.refl w7.heap.size w7).drew.trans hb.below)); have HGS := Aside0.mk (show GeoAt wS w.heap.size a b c d from HG7.out.below ((Below.refl w7.heap.size w7).drew.trans hb.below)); obtain ⟨l0, l1, l2, l3⟩ := HGS.out.cells; clear hb)
      | (go_at_call 12; refine (HRd.out _ P g (0 + m) (HDS.out.dev) (HG.out.below HBS.out)).mono ?_; rintro e wR ⟨rfl, hb⟩; have HBR := Aside0.mk (HBS.out.trans (hb.mono HBS.out.size)); have HDR := Aside0.mk (HDS.out.below hb); have HGR := Aside0.mk (HGS.out.below hb); clear hb))
    all_goals
      go_wp2
      go_meet
      case rel => exact ⟨rfl, rfl, HDR, HGR, HBR⟩
  case rest =>
    obtain ⟨rfl, rfl, HDc, HGc, HBc⟩ := hcut
    obtain ⟨l0, l1, l2, l3⟩ := HGc.out.cells
    rcases HOff.out with ho | ⟨on, rfl, hon, hg1, hg2⟩
    · have HO := Aside0.mk ho
      by_cases ho1 : off < 0
      all_goals
        (first | (have ho2 : off > 508 := by omega) | skip)
        clear ho
        go_wp2_with (first
          | (go_at_call 19; refine (HAll.out _ (Kd.C_below HR2.out HBc.out)).mono ?_; rintro e wA ⟨v0, rfl, ho, hb⟩; obtain ⟨Av, cv, ev⟩ := Kd.R_slice ho; subst ev; have HOV := Aside0.mk ho; have HBA := Aside0.mk (HBc.out.trans (hb.mono HBc.out.size)); have HDA := Aside0.mk (HDc.out.below hb); have HGA := Aside0.mk (HGc.out.below hb); clear hb ho)
          | (go_at_call 20; refine (HSame.out _ Av cv (Kd.R_reads' HOV.out).2.2 (Kd.R_reads' HOV.out).2.1 (Kd.C_below HR3.out HBA.out)).mono ?_; rintro e wB ⟨rfl, hb⟩; have HBB := Aside0.mk (HBA.out.trans (hb.below.mono HBA.out.size)); have HDB := Aside0.mk (HDA.out.below hb.below); have HGB := Aside0.mk (HGA.out.below hb.below); obtain ⟨m0, m1, m2, m3⟩ := HGB.out.cells; clear hb)
          | (go_at_call 10; (with_reducible refine (HFi.out _).mono ?_); rintro e wF ⟨rfl, hb⟩; have HBF := Aside0.mk (HBB.out.trans (hb.mono HBB.out.size)); have HDF := Aside0.mk (HDB.out.below hb); have HGF := Aside0.mk (HGB.out.below hb); clear hb)
          | (go_at_call 21; refine (garble_out HDF.out.dev HIN.out off y HO.out).mono ?_; rintro e wG ⟨rfl, hww⟩; obtain rfl := hww))
        go_ret
        exact ⟨rfl, HBF.out⟩
    · have HG1 := Aside0.mk hg1
      have HG2 := Aside0.mk hg2
      clear hg1 hg2
      go_upto_region 22 with (first
          | (go_at_call 19; refine (HAll.out _ (Kd.C_below HR2.out HBc.out)).mono ?_; rintro e wA ⟨v0, rfl, ho, hb⟩; obtain ⟨Av, cv, ev⟩ := Kd.R_slice ho; subst ev; have HOV := Aside0.mk ho; have HBA := Aside0.mk (HBc.out.trans (hb.mono HBc.out.size)); have HDA := Aside0.mk (HDc.out.below hb); have HGA := Aside0.mk (HGc.out.below hb); clear hb ho)
          | (go_at_call 20; refine (HSame.out _ Av cv (Kd.R_reads' HOV.out).2.2 (Kd.R_reads' HOV.out).2.1 (Kd.C_below HR3.out HBA.out)).mono ?_; rintro e wB ⟨rfl, hb⟩; have HBB := Aside0.mk (HBA.out.trans (hb.below.mono HBA.out.size)); have HDB := Aside0.mk (HDA.out.below hb.below); have HGB := Aside0.mk (HGA.out.below hb.below); obtain ⟨m0, m1, m2, m3⟩ := HGB.out.cells; clear hb)
          | (go_at_call 10; (with_reducible refine (HFi.out _).mono ?_); rintro e wF ⟨rfl, hb⟩; have HBF := Aside0.mk (HBB.out.trans (hb.mono HBB.out.size)); have HDF := Aside0.mk (HDB.out.below hb); have HGF := Aside0.mk (HGB.out.below hb); clear hb)
          | (go_at_call 21; refine (HG1.out _ P g (0 + m) HDF.out).mono ?_; rintro e wG ⟨rfl, hD, hb⟩; have HDG := Aside0.mk hD; have HBG := Aside0.mk (HBF.out.trans (hb.below HBF.out.size (fun k hk => by have h1 := HS4.out; rw [HP.out] at hk; omega))); have HGG := Aside0.mk (show GeoAt wG w.heap.size a b c d from (hb.block w.heap.size (blk_lt HGF.out) (by have h1 := HS4.out; rw [HP.out]; omega)).trans HGF.out); obtain ⟨n0, n1, n2, n3⟩ := HGG.out.cells; clear hb hD))
      have p0 : wG.drew.cell? ⟨w.heap.size, 0, none⟩ = some (.int .i64 a) := n0
      have p1 : wG.drew.cell? ⟨w.heap.size, 1, none⟩ = some (.int .i64 b) := n1
      have p2 : wG.drew.cell? ⟨w.heap.size, 2, none⟩ = some (.int .i64 c) := n2
      have p3 : wG.drew.cell? ⟨w.heap.size, 3, none⟩ = some (.int .i64 d) := n3
      go_region_with (first
        | (go_at_call 14; (with_reducible refine (crc_Sum.calls t sum _ (HG.out.below (HBG.out.drew)) HCs.out).mono ?_); rintro e wT ⟨rfl, hb⟩; have HBT := Aside0.mk (show Below w.heap.size w wT from HBG.out.drew.trans (hb.below.mono HBG.out.size)); have HDT := Aside0.mk (show DevF P wT g n (0 + m) (fput F first (garS (F first) on y)) (fun _ => none) from HDG.out.below ((Below.refl wG.heap.size wG).drew.trans hb.below)); have HGT2 := Aside0.mk (show GeoAt wT w.heap.size a b c d from HGG.out.below ((Below.refl wG.heap.size wG).drew.trans hb.below)); obtain ⟨q0, q1, q2, q3⟩ := HGT2.out.cells; clear hb)
        | (go_at_call 12; refine (HG2.out _ P g (0 + m) HDT.out.dev (HG.out.below HBT.out)).mono ?_; rintro e wU ⟨u2, qe, rfl, hqe, hb⟩; have HQE := Aside0.mk hqe; have HBU := Aside0.mk (HBT.out.trans (hb.mono HBT.out.size)); clear hb hqe))
      all_goals
        go_wp2
        go_ret
        exact ⟨by rw [HQE.out]; simp, HBU.out⟩
open Classical in
theorem caulktop_TopRecords.calls (k : Nat) (a b c d ata : Int) (A2 : Option Addr) (c2 : Nat) (ws : List Int) (A3 : Option Addr) (c3 : Nat) (vs : List Int) (off y : Int) (r : Bool) (w : World) (hr2 : Kd.C (Kd.int .i64) w A2 ws.length ws) (hc2 : ws.length ≤ c2) (hr3 : Kd.C (Kd.int .u64) w A3 vs.length vs) (hc3 : vs.length ≤ c3) (hG : GT w) (h : caulktop_TopRecords.f k a b c d ata ws vs off y = some r) :
    Calls Tryd.prog 4 #[.agg #[.int .i64 a, .int .i64 b, .int .i64 c, .int .i64 d], .int .i64 ata, .slice A2 ws.length c2, .slice A3 vs.length c3, .int .i64 off, .int .u32 y] w fun e w' => e = .returned (.bool r) ∧ Below w.heap.size w w' := by
  unfold caulktop_TopRecords.f at h
  by_cases hx : recOk k a b c d ata ws vs off y
  · rw [if_pos hx] at h
    obtain rfl := Option.some.inj h
    obtain ⟨hbeg, hy, n, hS, hn | ⟨h1, h2, hl, s, e1, hJ, z, hZ, hz0, hz1, hs, he | ⟨rfl, hF | ⟨first, m, hF, hX⟩⟩⟩⟩ := hx
    · exact recs_out k a b c d ata n A2 c2 ws A3 c3 vs off y w hr2 hc2 hr3 hc3 hG hbeg hS hn
    all_goals obtain ⟨nn, rfl⟩ : ∃ nn : Nat, n = (nn : Int) := ⟨n.toNat, by omega⟩
    · exact recs_err k a b c d ata nn z s e1 A2 c2 ws A3 c3 vs off y w hr2 hc2 hr3 hc3 hG hbeg hS (by omega) (by omega) hl hJ hZ hz0 hz1 hs he
    · exact recs_none k a b c d ata nn z s A2 c2 ws A3 c3 vs off y w hr2 hc2 hr3 hc3 hG hbeg hS (by omega) (by omega) hl hJ hZ hz0 hz1 hs hF
    · exact recs_fine k a b c d ata nn z first m s A2 c2 ws A3 c3 vs off y w hr2 hc2 hr3 hc3 hG hbeg hS (by omega) (by omega) hl hJ hZ hz0 hz1 hs hy hF hX
  · rw [if_neg hx] at h; cases h
end Go.Proofs.YtnhigoffkmfccaaDoor.G
