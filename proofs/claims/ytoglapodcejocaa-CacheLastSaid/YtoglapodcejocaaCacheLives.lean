/- What the statements on caches ask first: answers that the document gives, over this seat's program. No condition. -/
import Derived.Test.YtoglapodcejocaaCacheInv
namespace Go.Proofs.Ytoglapodcejocaa.G
open Go.RowKit Go.Proofs.YtoglapodcejocaaW.PrintWords Go.Proofs.YtoglapodcejocaaW.PrintLast Go.Proofs.YtoglapodcejocaaW.PrintMore
set_option linter.unusedVariables false
set_option linter.unusedSimpArgs false
set_option maxRecDepth 100000
/-- Three variables in memory, each a place. -/
def Three (W : World) (a b c : Nat) : Prop := W.heap[a]? = some (.cells #[.int .i64 1, .int .i64 0] 34 (0, 0)) ∧ W.heap[b]? = some (.cells #[.int .i64 2, .int .i64 0] 34 (0, 0)) ∧ W.heap[c]? = some (.cells #[.int .i64 2, .int .i64 1] 34 (0, 0))
theorem Three.cells {W : World} {a b c : Nat} (h : Three W a b c) : (W.cell? ⟨a, 0, none⟩ = some (.int .i64 1) ∧ W.cell? ⟨a, 1, none⟩ = some (.int .i64 0)) ∧ (W.cell? ⟨b, 0, none⟩ = some (.int .i64 2) ∧ W.cell? ⟨b, 1, none⟩ = some (.int .i64 0)) ∧ (W.cell? ⟨c, 0, none⟩ = some (.int .i64 2) ∧ W.cell? ⟨c, 1, none⟩ = some (.int .i64 1)) :=
  ⟨(cells2 h.1).1, (cells2 h.2.1).1, (cells2 h.2.2).1⟩
theorem Three.leaves {W W' : World} {a b c : Nat} (h : Three W a b c) (hl : Leaves (fun k => k = a ∨ k = b ∨ k = c) W W') : Three W' a b c := ⟨(hl.block a (.inl rfl)).trans h.1, (hl.block b (.inr (.inl rfl))).trans h.2.1, (hl.block c (.inr (.inr rfl))).trans h.2.2⟩
theorem Three.below {W W' : World} {a b c : Nat} (h : Three W a b c) (hb : Below W.heap.size W W') : Three W' a b c := ⟨blk_below h.1 hb, blk_below h.2.1 hb, blk_below h.2.2 hb⟩
def sA : ByteArray := ⟨#[97]⟩
def sB : ByteArray := ⟨#[98]⟩
def sD : ByteArray := ⟨#[100]⟩
theorem putE1 : putE 2 [] (1, 0) sA = [((1, 0), sA)] := rfl
theorem putE2 : putE 2 [((1, 0), sA)] (2, 0) sB = [((2, 0), sB), ((1, 0), sA)] := rfl
theorem getE3 : getE [((2, 0), sB), ((1, 0), sA)] (1, 0) 0 0 = ([((1, 0), sA), ((2, 0), sB)], sA, true, 1, 0) := rfl
theorem putE4 : putE 2 [((1, 0), sA), ((2, 0), sB)] (2, 1) sD = [((2, 1), sD), ((1, 0), sA)] := rfl
theorem getE5 : getE [((2, 1), sD), ((1, 0), sA)] (2, 0) 1 0 = ([((2, 1), sD), ((1, 0), sA)], ⟨#[]⟩, false, 1, 1) := rfl
theorem dropE6 : dropE [((2, 1), sD), ((1, 0), sA)] 2 = [((1, 0), sA)] := rfl
theorem pl_ok (a b : Int) (h : (Lit.int .i64 a).wf = true ∧ (Lit.int .i64 b).wf = true) : plOk (a, b) := h
set_option maxHeartbeats 8000000 in
theorem lives_calls (w : World) : Calls Try.prog 7 #[] w fun e w' => e = .returned (.bool true) ∧ Below w.heap.size w w' := by
  have HNew := Aside0.mk (cinv_new (w0 := w) (w := w) (room := 2) (Below.refl _ _) (by decide) (by decide) (fun _ => False) (fun _ h => h.elim))
  go_enter Try.func7, Try.ntmps7
  go_upto_region 2 with (go_at_call 8; refine HNew.out.mono ?_; rintro e w1 ⟨g, rfl, hi, hb⟩; have HI1 := Aside0.mk hi; have HB1 := Aside0.mk hb; clear hi hb)
  go_upto_region 5 with (go_at_call 8; refine (new_none (room := 0) (.inl (by decide))).mono ?_; rintro e w1n ⟨rfl, hw⟩; subst hw)
  go_upto_region 6 with (first
    | ((with_reducible refine gate_dst (N := 5) rfl ?_); refine box_event ?hg (N := 5) ?hd (cs := #[.int .i64 0, .int .i64 0]) (t := 34) ?hr ?_; (case hd => rfl); (case hg => rfl); (case hr => first | (go_simp; done) | (go_simp; rfl)); intro g5 hg5 w2 hx5 hb2; have HX5 := Aside0.mk hx5; have HG5 := Aside0.mk hg5; have HB2 := Aside0.mk hb2; clear hx5 hg5 hb2)
    | ((with_reducible refine gate_dst (N := 6) rfl ?_); refine box_event ?hg (N := 6) ?hd (cs := #[.int .i64 0, .int .i64 0]) (t := 34) ?hr ?_; (case hd => rfl); (case hg => rfl); (case hr => first | (go_simp; done) | (go_simp; rfl)); intro g6 hg6 w3 hx6 hb3; have HX6 := Aside0.mk hx6; have HG6 := Aside0.mk hg6; have HB3 := Aside0.mk hb3; clear hx6 hg6 hb3)
    | ((with_reducible refine gate_dst (N := 7) rfl ?_); refine box_event ?hg (N := 7) ?hd (cs := #[.int .i64 0, .int .i64 0]) (t := 34) ?hr ?_; (case hd => rfl); (case hg => rfl); (case hr => first | (go_simp; done) | (go_simp; rfl)); intro g7 hg7 w4 hx7 hb4; have HX7 := Aside0.mk hx7; have HG7 := Aside0.mk hg7; have HB4 := Aside0.mk hb4; clear hx7 hg7 hb4; have y5 := blk_below (blk_below HX5.out HB3.out) HB4.out; have y6 := blk_below HX6.out HB4.out; have y7 := HX7.out; obtain ⟨⟨a0, a1⟩, b0, b1⟩ := cells2 y5; obtain ⟨⟨c0, c1⟩, d0, d1⟩ := cells2 y6; obtain ⟨⟨e0, e1⟩, f0, f1⟩ := cells2 y7; have n56 : g5 ≠ g6 := (by have h1 := blk_lt HX5.out; have h2 := HG6.out; omega); have n67 : g6 ≠ g7 := (by have h1 := blk_lt HX6.out; have h2 := HG7.out; omega); have n57 : g5 ≠ g7 := (by have h1 := blk_lt HX5.out; have h3 := HB3.out.size; have h2 := HG7.out; omega); have n65 := n56.symm; have n76 := n67.symm; have n75 := n57.symm))
  obtain ⟨w5, hw5⟩ : ∃ w5, w5 = (((((w4.setCell ⟨g5, 0, none⟩ (.int .i64 1)).setCell ⟨g5, 1, none⟩ (.int .i64 0)).setCell ⟨g6, 0, none⟩ (.int .i64 2)).setCell ⟨g6, 1, none⟩ (.int .i64 0)).setCell ⟨g7, 0, none⟩ (.int .i64 2)).setCell ⟨g7, 1, none⟩ (.int .i64 1) := ⟨_, rfl⟩
  have T5 : Three w5 g5 g6 g7 := by
    rw [hw5]
    exact ⟨blk_far (blk_far (blk_far (blk_far (blk_put (blk_put y5 0 _ rfl) 1 _ rfl) n56 _) n56 _) n57 _) n57 _, blk_far (blk_far (blk_put (blk_put (blk_far (blk_far y6 n65 _) n65 _) 0 _ rfl) 1 _ rfl) n67 _) n67 _, blk_put (blk_put (blk_far (blk_far (blk_far (blk_far y7 n75 _) n75 _) n76 _) n76 _) 0 _ rfl) 1 _ rfl⟩
  have hz1 := HG5.out
  have hz2 := HG6.out
  have hz3 := HG7.out
  have hs2 := HB2.out.size
  have hs3 := HB3.out.size
  have hs4 := HB4.out.size
  have hb5 : Below w1n.heap.size w1n w5 := by
    rw [hw5]
    have h4 : Below w1n.heap.size w1n w4 := (HB2.out.trans (HB3.out.mono (by omega))).trans (HB4.out.mono (by omega))
    exact Below.setCell (Below.setCell (Below.setCell (Below.setCell (Below.setCell (Below.setCell h4 (p := ⟨g5, 0, none⟩) (by show _ ≤ g5; omega) _) (p := ⟨g5, 1, none⟩) (by show _ ≤ g5; omega) _) (p := ⟨g6, 0, none⟩) (by show _ ≤ g6; omega) _) (p := ⟨g6, 1, none⟩) (by show _ ≤ g6; omega) _) (p := ⟨g7, 0, none⟩) (by show _ ≤ g7; omega) _) (p := ⟨g7, 1, none⟩) (by show _ ≤ g7; omega) _
  have HT5 := Aside0.mk T5
  have HI5 := Aside0.mk (HI1.out.step hb5 (keep' := fun k => k = g5 ∨ k = g6 ∨ k = g7) (fun k hk => .inr (by
    have h1 := blk_lt T5.1
    have h2 := blk_lt T5.2.1
    have h3 := blk_lt T5.2.2
    rcases hk with rfl | rfl | rfl <;> omega)))
  rw [← hw5]
  clear hw5 T5 hz1 hz2 hz3 hs2 hs3 hs4 hb5 n56 n67 n57 n65 n76 n75 y5 y6 y7 a0 a1 b0 b1 c0 c1 d0 d1 e0 e1 f0 f1
  obtain ⟨⟨x0, x1⟩, ⟨x2, x3⟩, x4, x5⟩ := HT5.out.cells
  have HP5 := Aside0.mk (HI5.out.put (by decide) (1, 0) (pl_ok _ _ (by decide)) sA)
  rw [putE1] at HP5
  go_upto_region 7 with (go_at_call 10; refine HP5.out.mono ?_; rintro e w6 ⟨rfl, hi, hl⟩; have HI6 := Aside0.mk hi; have HT6 := Aside0.mk (HT5.out.leaves hl); clear hi hl)
  clear x0 x1 x2 x3 x4 x5
  obtain ⟨⟨x0, x1⟩, ⟨x2, x3⟩, x4, x5⟩ := HT6.out.cells
  have HP6 := Aside0.mk (HI6.out.put (by decide) (2, 0) (pl_ok _ _ (by decide)) sB)
  rw [putE2] at HP6
  go_upto_region 8 with (go_at_call 10; refine HP6.out.mono ?_; rintro e w7 ⟨rfl, hi, hl⟩; have HI7 := Aside0.mk hi; have HT7 := Aside0.mk (HT6.out.leaves hl); clear hi hl)
  clear x0 x1 x2 x3 x4 x5
  obtain ⟨⟨x0, x1⟩, ⟨x2, x3⟩, x4, x5⟩ := HT7.out.cells
  have HP7 := Aside0.mk (HI7.out.get (by decide) (by decide) (1, 0) (pl_ok _ _ (by decide)))
  rw [getE3] at HP7
  go_upto_region 9 with (go_at_call 12; refine HP7.out.mono ?_; rintro e w8 ⟨E', s', is', hit', miss', rfl, he, hi, hl⟩; simp only [Prod.mk.injEq] at he; obtain ⟨rfl, rfl, rfl, rfl, rfl⟩ := he; have HI8 := Aside0.mk hi; have HT8 := Aside0.mk (HT7.out.leaves hl); clear hi hl)
  clear x0 x1 x2 x3 x4 x5
  obtain ⟨⟨x0, x1⟩, ⟨x2, x3⟩, x4, x5⟩ := HT8.out.cells
  have HP8 := Aside0.mk (HI8.out.put (by decide) (2, 1) (pl_ok _ _ (by decide)) sD)
  rw [putE4] at HP8
  go_upto_region 10 with (go_at_call 10; refine HP8.out.mono ?_; rintro e w9 ⟨rfl, hi, hl⟩; have HI9 := Aside0.mk hi; have HT9 := Aside0.mk (HT8.out.leaves hl); clear hi hl)
  clear x0 x1 x2 x3 x4 x5
  obtain ⟨⟨x0, x1⟩, ⟨x2, x3⟩, x4, x5⟩ := HT9.out.cells
  have HP9 := Aside0.mk (HI9.out.get (by decide) (by decide) (2, 0) (pl_ok _ _ (by decide)))
  rw [getE5] at HP9
  go_upto_region 11 with (go_at_call 12; refine HP9.out.mono ?_; rintro e w10 ⟨E', s', is', hit', miss', rfl, he, hi, hl⟩; simp only [Prod.mk.injEq] at he; obtain ⟨rfl, rfl, rfl, rfl, rfl⟩ := he; have HI10 := Aside0.mk hi; have HT10 := Aside0.mk (HT9.out.leaves hl); clear hi hl)
  clear x0 x1 x2 x3 x4 x5
  have HP10 := Aside0.mk HI10.out.hits
  go_upto_region 12 with (go_at_call 16; refine HP10.out.mono ?_; rintro e w11 ⟨rfl, rfl⟩)
  have HI11 := Aside0.mk (HI10.out.step (keep' := fun k => k = g5 ∨ k = g6 ∨ k = g7) (Below.refl _ _).drew (fun k hk => .inl hk))
  have HT11 := Aside0.mk (HT10.out.below (Below.refl _ _).drew)
  have HP11 := Aside0.mk (HI11.out.order (by decide))
  go_upto_region 13 with (go_at_call 18; refine HP11.out.mono ?_; rintro e w12 ⟨A1, c1, rfl, hc, hC, hb⟩; have HC12 := Aside0.mk hC; have HL12 := Aside0.mk hc; have HI12 := Aside0.mk (HI11.out.step (keep' := fun k => (k = g5 ∨ k = g6 ∨ k = g7) ∨ (w10.drew.heap.size ≤ k ∧ k < w12.heap.size)) hb (fun k hk => hk)); have HT12 := Aside0.mk (HT11.out.below hb); clear hc hC hb)
  have HP12 := Aside0.mk (HI12.out.drop (by decide) 2)
  rw [dropE6] at HP12
  go_upto_region 14 with (go_at_call 15; refine HP12.out.mono ?_; rintro e w13 ⟨rfl, hi, hl⟩; have HI13 := Aside0.mk hi; have HL13 := Aside0.mk hl; clear hi hl)
  have HT13 := Aside0.mk (HT12.out.leaves ⟨fun k hk => HL13.out.block k (.inl hk), HL13.out.size⟩)
  have HF13 := Aside0.mk (F_leaves HC12.out HL13.out (fun k hk => .inr hk))
  obtain ⟨⟨x0, x1⟩, ⟨x2, x3⟩, x4, x5⟩ := HT13.out.cells
  have HKey := Aside0.mk (fun (W : World) (hW : Below w13.heap.size w13 W) => (show W.cell? ⟨g5, 0, none⟩ = some (.int .i64 1) ∧ W.cell? ⟨g5, 1, none⟩ = some (.int .i64 0) ∧ W.cell? ⟨g7, 0, none⟩ = some (.int .i64 2) ∧ W.cell? ⟨g7, 1, none⟩ = some (.int .i64 1) from by
    obtain ⟨⟨q0, q1⟩, _, q4, q5⟩ := (HT13.out.below hW).cells
    exact ⟨q0, q1, q4, q5⟩))
  clear x0 x1 x2 x3 x4 x5
  obtain ⟨x0, x1, x2, x3⟩ := HKey.out w13.drew (Below.refl _ _).drew
  have hsA : sA = (⟨#[97]⟩ : ByteArray) := rfl
  rw [hsA]
  clear hsA
  go_region_held3 (fun w' => w'.cell? ⟨g5, 0, none⟩ = some (.int .i64 1) ∧ w'.cell? ⟨g5, 1, none⟩ = some (.int .i64 0) ∧ w'.cell? ⟨g7, 0, none⟩ = some (.int .i64 2) ∧ w'.cell? ⟨g7, 1, none⟩ = some (.int .i64 1))
    (first
      | (refine ⟨?_, ?_, ?_, ?_⟩ <;> assumption)
      | exact HKey.out _ HBK.out
      | exact HKey.out _ (below_alloc HBK.out _)
      | exact HKey.out _ (below_drew (below_alloc (Below.refl _ _) _))
      | exact HKey.out _ (below_alloc (below_drew (Below.refl _ _)) _))
    (first
      | (go_at_call_of 17 (Value.slice A1 2 c1); refine (same_places (L := [(2, 1), (1, 0)]) (by decide) rfl ?C1 HL12.out ?C2 ?C3).mono ?_; (case C1 => exact Kd.F_now (Kd.F_below HF13.out (by first | exact below_drew (below_alloc (Below.refl _ _) _) | exact below_alloc (below_drew (Below.refl _ _)) _))); (case C2 => exact (Kd.R_reads' (lit_places (base := 0) [(2, 1), (1, 0)] rfl (blk_new w13 _) (Nat.zero_le _) (by decide))).2.2); (case C3 => decide); rintro e w14 ⟨rfl, hb⟩; have HBK := Aside0.mk (show Below w13.heap.size w13 w14 from by first | exact (below_drew (below_alloc (Below.refl _ _) _)).trans (hb.below.mono (by simp)) | exact (below_alloc (below_drew (Below.refl _ _)) _).trans (hb.below.mono (by simp))); clear hb)
      | (go_at_call 18; refine (((HI13.out.step (keep' := fun _ => False) HBK.out (fun k hk => hk.elim))).order (by decide)).mono ?_; rintro e w15 ⟨A2, c2, rfl, hc, hC, hb⟩; have HC15 := Aside0.mk hC; have HL15 := Aside0.mk hc; have HBL := Aside0.mk hb; have HBK := Aside0.mk (HBK.out.trans (hb.mono HBK.out.size)); clear hc hC hb)
      | (go_at_call 18; refine (((HI13.out.step (keep' := fun _ => False) (below_alloc HBK.out _) (fun k hk => hk.elim))).order (by decide)).mono ?_; rintro e w15 ⟨A2, c2, rfl, hc, hC, hb⟩; have HC15 := Aside0.mk hC; have HL15 := Aside0.mk hc; have HBL := Aside0.mk hb; have HBK := Aside0.mk ((below_alloc HBK.out _).trans (hb.mono (below_alloc HBK.out _).size)); clear hc hC hb)
      | (go_at_call 17; refine (same_places (L := [(1, 0)]) (by decide) rfl ?C1 HL15.out ?C2 ?C3).mono ?_; (case C1 => first | exact Kd.F_now HC15.out | exact Kd.F_now (Kd.F_alloc HC15.out _)); (case C2 => first | exact (Kd.R_reads' (lit_places (base := 0) [(1, 0)] rfl (blk_new _ _) (Nat.zero_le _) (by decide))).2.2 | exact (Kd.R_reads' (lit_places (base := 0) [(1, 0)] rfl (blk_below (blk_new _ _) HBL.out) (Nat.zero_le _) (by decide))).2.2); (case C3 => decide); rintro e w16 ⟨rfl, hb⟩; have HBM := Aside0.mk (show Below w13.heap.size w13 w16 from by first | exact HBK.out.trans (hb.below.mono HBK.out.size) | exact (below_alloc HBK.out _).trans (hb.below.mono (below_alloc HBK.out _).size)); have HBK := HBM; clear hb))
  all_goals
    go_wp2
    go_ret
    exact ⟨rfl, HI13.out.below.trans (HBM.out.mono HI13.out.below.size)⟩
end Go.Proofs.Ytoglapodcejocaa.G
