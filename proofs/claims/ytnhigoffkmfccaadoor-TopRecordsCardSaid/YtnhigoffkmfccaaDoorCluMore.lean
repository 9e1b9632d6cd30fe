/- cluster.Write at no such cluster, cluster.Read by another sum, over this seat's program. Conditions: each lemma's own. -/
import Derived.Test.YtnhigoffkmfccaaDoorCluRead
namespace Go.Proofs.YtnhigoffkmfccaaDoor.G
open Go.RowKit Go.Shelf Go.ChangeMaps Go.MapKept Go.Proofs.YtnhigoffkmfccaaDoorW.PrintWords Go.Proofs.YtnhigoffkmfccaaDoorW.PrintLast Go.Proofs.YtnhigoffkmfccaaDoorW.PrintMore
set_option linter.unusedVariables false
set_option linter.unusedSimpArgs false
set_option maxRecDepth 100000 in
set_option maxHeartbeats 4000000 in
theorem cwrite_err {w : World} (ga : Addr) (k : Nat) (a b c d ata e : Int) (s : ByteArray) (he : e ≠ 0) (hF : geom_First.f k a b c d ata = some (0, e)) :
    Calls Tryd.prog 13 #[.pointer (some ga), .agg #[.int .i64 a, .int .i64 b, .int .i64 c, .int .i64 d], .int .i64 ata, .string s] w fun e' w' => e' = .returned (.int .i64 e) ∧ Below w.heap.size w w' := by
  have HFi := Aside0.mk (fun W => geom_First.calls k a b c d ata 0 e W hF)
  have b1 : (e != 0) = true := bne_iff_ne.mpr he
  clear hF he
  go_enter Tryd.func13, Tryd.ntmps13
  go_upto_region 3 with (go_at_call 10; (with_reducible refine (HFi.out _).mono ?_); rintro e1 w1 ⟨rfl, hb⟩; have HB1 := Aside0.mk hb; clear hb)
  obtain ⟨f0, f1, f2, f3, f4, f5⟩ := four_boxes w (.cells #[.pointer (some ga)] 26) (.cells #[.int .i64 a, .int .i64 b, .int .i64 c, .int .i64 d] 23) (.cells #[.string s] 9) (.cells #[.int .i64 0] 27)
  have hb := HB1.out
  rw [f4] at hb
  have sz1 : w.heap.size + 4 ≤ w1.heap.size := by have := hb.size; omega
  have e3 : Boxed w1 (w.heap.size + 3) 27 (.int .i64 0) := (hb.block _ (by omega)).trans f3
  have e4 := e3.alloc (.cells #[.int .i64 (0 : Int)] 3)
  have hbw := (f5.trans (hb.mono (by omega))).alloc (Nat.le_trans f5.size (by rw [f4]; exact sz1)) (.cells #[.int .i64 (0 : Int)] 3)
  have k1 : (w1.alloc (.cells #[.int .i64 (0 : Int)] 3)).cell? ⟨w.heap.size + 1 + 1 + 1, 0, none⟩ = some (.int .i64 0) := e4.cell
  have k2 : (w1.alloc (.cells #[.int .i64 (0 : Int)] 3)).frozen? ⟨w.heap.size + 1 + 1 + 1, 0, none⟩ = false := e4.frozen
  have E4 := Aside0.mk (e4.set (.int .i64 e))
  have HBW := Aside0.mk (hbw.setCell (p := ⟨w.heap.size + 1 + 1 + 1, 0, none⟩) (by show w.heap.size ≤ w.heap.size + 1 + 1 + 1; omega) (.int .i64 e))
  clear f0 f1 f2 f3 f4 f5 hb sz1 e3 e4 hbw HB1
  go_wp2
  have hc : ((w1.alloc (.cells #[.int .i64 (0 : Int)] 3)).setCell ⟨w.heap.size + 1 + 1 + 1, 0, none⟩ (.int .i64 e)).cell? ⟨w.heap.size + 1 + 1 + 1, 0, none⟩ = some (.int .i64 e) := E4.out.cell
  exact bodyPost_ret (v := .int .i64 e) (by simp [results, Tryd.results13, go_sem, hc]) rfl ⟨rfl, HBW.out⟩
set_option maxRecDepth 100000 in
set_option maxHeartbeats 4000000 in
/-- What is read by another sum is not. -/
theorem cread_bad {P : Nat → Prop} {w : World} {g n c0 : Nat} {f : Nat → ByteArray} (hD : Dev P w g n c0 f) (hG : GT w) (k : Nat) (a b c d ata : Int) (first z m : Nat) (sum sum' : Int) (hS : geom_Size.f k a b c d = some (z : Int)) (hF : geom_First.f k a b c d ata = some ((first : Int), 0)) (hz : z = m * 512) (hm1 : 1 ≤ m) (hm : m ≤ 2147483648) (hfm : first + m ≤ n) (hf : ∀ i, i < m → (f (first + i)).size = 512) (t : ByteArray) (ht : strOfNums (rawB f first (List.finRange m)) = t) (hC : crc_Sum.f t = some sum') (hne : sum' ≠ sum) :
    Calls Tryd.prog 12 #[.pointer (some ⟨g, 0, none⟩), .agg #[.int .i64 a, .int .i64 b, .int .i64 c, .int .i64 d], .int .i64 ata, .int .u32 sum] w fun e w' => e = .returned (.tuple #[.string ⟨#[]⟩, .int .i64 9]) ∧ Below w.heap.size w w' := by
  have hB0 := below_alloc (Below.refl w.heap.size w) (.cells #[.int .i64 a, .int .i64 b, .int .i64 c, .int .i64 d] 23)
  have hR := craw_calls (hD.alloc (.cells #[.int .i64 a, .int .i64 b, .int .i64 c, .int .i64 d] 23)) k a b c d ata first z m hS hF hz hm1 hm hfm hf
  rw [ht] at hR
  have HR := Aside0.mk hR
  have HB0 := Aside0.mk hB0
  have HG := Aside0.mk hG
  have HC := Aside0.mk hC
  have b1 : (sum' != sum) = true := bne_iff_ne.mpr hne
  clear hD hG hB0 hR hS hF hz hm1 hm hfm hf ht hC hne
  go_enter Tryd.func12, Tryd.ntmps12
  go_wp2_with (first
    | (go_at_call 30; (with_reducible refine HR.out.mono ?_); rintro e w1 ⟨rfl, hb⟩; have HB1 := Aside0.mk (HB0.out.trans (hb.mono (by simp))); clear hb)
    | (go_at_call 14; (with_reducible refine (crc_Sum.calls t sum' _ (GT.below HG.out HB1.out) HC.out).mono ?_); rintro e w2 ⟨rfl, hb⟩; have HB2 := Aside0.mk hb; clear hb))
  go_ret2
  exact ⟨rfl, HB1.out.trans (HB2.out.below.mono HB1.out.size)⟩
end Go.Proofs.YtnhigoffkmfccaaDoor.G
