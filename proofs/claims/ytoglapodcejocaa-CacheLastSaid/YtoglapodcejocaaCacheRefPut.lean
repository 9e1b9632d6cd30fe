/- The document's cache's Put over this seat's program: it answers as the plain function below. Conditions: those of the plain function. -/
import Derived.Test.YtoglapodcejocaaGx2
import Derived.Deep.RegionHeld3
import Derived.StillTailTactics
namespace Go.Proofs.Ytoglapodcejocaa.G
open Go.RowKit Go.Proofs.YtoglapodcejocaaW.PrintWords Go.Proofs.YtoglapodcejocaaW.PrintLast Go.Proofs.YtoglapodcejocaaW.PrintMore
set_option linter.unusedVariables false
set_option linter.unusedSimpArgs false
set_option maxRecDepth 100000
def caulkref36_Cache_Put.l (a0_0 a1_0 a1_1 : Int) (a2 : ByteArray) (r : List S90) : List S90 := ((⟨⟨a1_0, a1_1⟩, a2⟩ : S90) :: r).take (if ((r.length + 1 : Nat) : Int) ≤ a0_0 then r.length + 1 else a0_0.toNat)
/-- The plain function of the document's Put. -/
def caulkref36_Cache_Put.f (k : Nat) (a0_0 : Int) (l0_1 : List (S90)) (a0_2 : Int) (a0_3 : Int) (a1_0 a1_1 : Int) (a2 : ByteArray) : Option (Int × List S90 × Int × Int) :=
  (caulkref36_Cache_without.f k a0_0 l0_1 a0_2 a0_3 a1_0 a1_1).bind fun r => if r.length ≤ 1000000 ∧ 0 ≤ a0_0 then some (a0_0, caulkref36_Cache_Put.l a0_0 a1_0 a1_1 a2 r, a0_2, a0_3) else none
theorem caulkref36_Cache_Put.mono : ∀ a0 a1 a2 a3 a4 a5 a6 k, LeO (caulkref36_Cache_Put.f k a0 a1 a2 a3 a4 a5 a6) (caulkref36_Cache_Put.f (k + 1) a0 a1 a2 a3 a4 a5 a6) := by
  intro a0 a1 a2 a3 a4 a5 a6 k
  unfold caulkref36_Cache_Put.f
  exact LeO.bind (caulkref36_Cache_without.mono _ _ _ _ _ _ _) (fun _ => LeO.refl _)
theorem one_row {W : World} {base b : Nat} {x : S90} (hb : W.heap[b]? = some (.cells #[.int .i64 x.f0.f0, .int .i64 x.f0.f1, .string x.f1] 90 (0, 0))) (hbase : base ≤ b) : Kd.R k90 90 W base (fun _ => True) (.slice (some ⟨b, 0, none⟩) 1 1) [x] := by
  refine ⟨fun _ _ => trivial, [.int .i64 x.f0.f0, .int .i64 x.f0.f1, .string x.f1], ⟨rfl, .inr ⟨b, 1, _, rfl, hbase, hb, Nat.le_refl _, by decide, rfl, rfl⟩⟩, rfl, fun j p hj => ?_⟩
  have hj0 : j = 0 := by
    have := (List.getElem?_eq_some_iff.1 hj).1
    simpa using this
  subst hj0
  obtain rfl : x = p := by simpa using hj
  exact k90_mkM W base _ x
set_option maxHeartbeats 4000000 in
theorem caulkref36_Cache_Put.calls (k : Nat) (a0_0 : Int) (A0_1 : Option Addr) (c0_1 : Nat) (l0_1 : List (S90)) (a0_2 : Int) (a0_3 : Int) (a1_0 : Int) (a1_1 : Int) (a2 : ByteArray) (r1 : Int) (r2 : List (S90)) (r3 r4 : Int) (w : World) (hr0_1 : Kd.C k90 w A0_1 l0_1.length l0_1) (hc0_1 : l0_1.length ≤ c0_1) (h : caulkref36_Cache_Put.f k a0_0 l0_1 a0_2 a0_3 a1_0 a1_1 a2 = some (r1, r2, r3, r4)) :
    Calls Try.prog 11 #[.agg #[.int .i64 a0_0, .slice A0_1 l0_1.length c0_1, .int .i64 a0_2, .int .i64 a0_3], .agg #[.int .i64 a1_0, .int .i64 a1_1], .string a2] w fun e w' => ∃ v1_ : Value, e = .returned (.agg #[.int .i64 r1, v1_, .int .i64 r3, .int .i64 r4]) ∧ Kd.R k90 90 w' w.heap.size (fun _ => True) v1_ r2 ∧ Below w.heap.size w w' := by
  unfold caulkref36_Cache_Put.f at h
  obtain ⟨r, hr, h⟩ := Option.bind_eq_some_iff.1 h
  by_cases hb : r.length ≤ 1000000 ∧ 0 ≤ a0_0
  case neg => rw [if_neg hb] at h; cases h
  rw [if_pos hb] at h
  simp only [Option.some.injEq, Prod.mk.injEq] at h
  obtain ⟨rfl, rfl, rfl, rfl⟩ := h
  obtain ⟨hrl, h00⟩ := hb
  obtain ⟨g, hg⟩ : ∃ g, g = w.heap.size := ⟨_, rfl⟩
  obtain ⟨w1, hw1⟩ : ∃ w1, w1 = w.alloc (.cells #[.int .i64 a0_0, .slice A0_1 l0_1.length c0_1, .int .i64 a0_2, .int .i64 a0_3] 30) := ⟨_, rfl⟩
  obtain ⟨w2, hw2⟩ : ∃ w2, w2 = w1.alloc (.cells #[.int .i64 a1_0, .int .i64 a1_1] 34) := ⟨_, rfl⟩
  obtain ⟨w3, hw3⟩ : ∃ w3, w3 = w2.alloc (.cells #[.int .i64 0, .slice none 0 0, .int .i64 0, .int .i64 0] 30) := ⟨_, rfl⟩
  have z1 : w1.heap.size = g + 1 := by rw [hw1, hg]; simp
  have z2 : w2.heap.size = g + 1 + 1 := by rw [hw2]; simp [z1]
  have z3 : w3.heap.size = g + 1 + 1 + 1 := by rw [hw3]; simp [z2]
  have b1 : Below w.heap.size w w1 := by rw [hw1]; exact below_alloc (Below.refl _ _) _
  have b2 : Below w.heap.size w w2 := by rw [hw2]; exact below_alloc b1 _
  have b3 : Below w.heap.size w w3 := by rw [hw3]; exact below_alloc b2 _
  have B0 : w3.heap[g]? = some (.cells #[.int .i64 a0_0, .slice A0_1 l0_1.length c0_1, .int .i64 a0_2, .int .i64 a0_3] 30 (0, 0)) := by rw [hw3, hw2, hw1, hg]; exact blk_alloc (blk_alloc (blk_new _ _) _) _
  have B1 : w3.heap[g + 1]? = some (.cells #[.int .i64 a1_0, .int .i64 a1_1] 34 (0, 0)) := by rw [hw3, hw2, ← z1]; exact blk_alloc (blk_new _ _) _
  have B2 : w3.heap[g + 1 + 1]? = some (.cells #[.int .i64 0, .slice none 0 0, .int .i64 0, .int .i64 0] 30 (0, 0)) := by rw [hw3, ← z2]; exact blk_new _ _
  have key : ∀ W : World, Below w3.heap.size w3 W → (W.cell? ⟨g, 0, none⟩ = some (.int .i64 a0_0) ∧ W.cell? ⟨g, 1, none⟩ = some (.slice A0_1 l0_1.length c0_1) ∧ W.cell? ⟨g, 2, none⟩ = some (.int .i64 a0_2) ∧ W.cell? ⟨g, 3, none⟩ = some (.int .i64 a0_3) ∧ W.cell? ⟨g + 1, 0, none⟩ = some (.int .i64 a1_0) ∧ W.cell? ⟨g + 1, 1, none⟩ = some (.int .i64 a1_1)) := fun W hW =>
    ⟨(blk_cell (blk_below B0 hW) 0).trans rfl, (blk_cell (blk_below B0 hW) 1).trans rfl, (blk_cell (blk_below B0 hW) 2).trans rfl, (blk_cell (blk_below B0 hW) 3).trans rfl, (blk_cell (blk_below B1 hW) 0).trans rfl, (blk_cell (blk_below B1 hW) 1).trans rfl⟩
  obtain ⟨k0, k1, k2, k3, k4, k5⟩ := key w3.drew (Below.refl _ _).drew
  have HKey := Aside0.mk key
  have HG := Aside0.mk hg
  have HW1 := Aside0.mk hw1
  have HW2 := Aside0.mk hw2
  have HW3 := Aside0.mk hw3
  have HZ1 := Aside0.mk z1
  have HZ2 := Aside0.mk z2
  have HZ3 := Aside0.mk z3
  have HB3 := Aside0.mk b3
  have HB0 := Aside0.mk B0
  have HB2 := Aside0.mk B2
  have HC := Aside0.mk (Kd.C_below hr0_1 b3)
  have HCc := Aside0.mk hc0_1
  have HR := Aside0.mk hr
  have HRL := Aside0.mk hrl
  have H00 := Aside0.mk h00
  clear key hg hw1 hw2 hw3 z1 z2 z3 b1 b2 b3 B0 B1 B2 hr0_1 hc0_1 hr hrl
  go_enter Try.func11, Try.ntmps11
  go_wp2
  rw [← HW1.out, ← HW2.out, ← HW3.out, ← HG.out]
  go_region_held3 (fun w' => w'.cell? ⟨g, 0, none⟩ = some (.int .i64 a0_0) ∧ w'.cell? ⟨g, 1, none⟩ = some (.slice A0_1 l0_1.length c0_1) ∧ w'.cell? ⟨g, 2, none⟩ = some (.int .i64 a0_2) ∧ w'.cell? ⟨g, 3, none⟩ = some (.int .i64 a0_3) ∧ w'.cell? ⟨g + 1, 0, none⟩ = some (.int .i64 a1_0) ∧ w'.cell? ⟨g + 1, 1, none⟩ = some (.int .i64 a1_1))
    (first
      | (refine ⟨?_, ?_, ?_, ?_, ?_, ?_⟩ <;> assumption)
      | exact HKey.out _ HBK.out
      | exact HKey.out _ (below_drew (below_alloc (Below.refl _ _) _))
      | exact HKey.out _ (below_alloc (below_drew (Below.refl _ _)) _)
      | exact HKey.out _ (below_alloc HBK.out _))
    (first
      | (go_at_call 41; refine (caulkref36_Cache_without.calls k _ _ _ l0_1 _ _ _ _ r _ ?c1 ?c2 HR.out).mono ?_; (case c1 => exact Kd.C_below HC.out (by first | exact below_drew (Below.refl _ _) | exact below_drew (below_alloc (Below.refl _ _) _))); (case c2 => exact HCc.out); rintro e w' ⟨v0, rfl, ho, hb⟩; obtain ⟨A0, c0, rfl⟩ := Kd.R_slice ho; have HO1 := Aside0.mk ho; have HBC := Aside0.mk hb; have HBK := Aside0.mk (show Below w3.heap.size w3 w' from (by first | exact Below.trans (below_drew (Below.refl _ _)) hb | exact Below.trans (below_drew (below_alloc (Below.refl _ _) _)) (hb.mono (by simp)))); clear ho hb)
      | (refine Kd.R_append_rows_step k90 (w0 := w3) w3.heap.size rfl (.tmp 11) (.tmp 14) 28 90 (.agg #[.int .i64 0, .int .i64 0, .string ⟨#[]⟩]) 32 rfl Try.underlying28 info90 rfl (by decide) (by decide) _ [⟨⟨a1_0, a1_1⟩, a2⟩] r _ _ _ (fun _ => True) (fun _ => False) rfl rfl ?aO ?aR (fun _ _ h => h) (fun _ h => h.elim) (fun _ _ => trivial) ?aB ?aS ?aL ?_; (case aO => first | exact one_row (x := ⟨⟨a1_0, a1_1⟩, a2⟩) ((HBC.out.block _ (by simp)).trans (blk_new w3 _)) (Nat.le_refl _) | exact one_row (x := ⟨⟨a1_0, a1_1⟩, a2⟩) (blk_new _ _) HBK.out.size); (case aR => first | exact (Kd.R_reads' HO1.out).2.2 | exact Kd.C_alloc (Kd.R_reads' HO1.out).2.2 _); (case aB => first | exact HBK.out | exact below_alloc HBK.out _); (case aS => first | exact HBK.out.size | exact (below_alloc HBK.out _).size); (case aL => have := HRL.out; simp; omega); intro v1 w4 ho4 hb4 hg4 hat4; clear hg4 hat4; have HO4 := Aside0.mk ho4; have HBK := Aside0.mk hb4; clear ho4 hb4))
  all_goals
    clear k0 k1 k2 k3 k4 k5
    obtain ⟨ad, c4, rfl⟩ := Kd.R_slice1 HO4.out (by simp)
    have hl := (Kd.R_reads' HO4.out).2.1
    have hrl := HRL.out
    have B0 := blk_below HB0.out HBK.out
    have B2 := blk_below HB2.out HBK.out
    have k0 : w4.cell? ⟨g, 0, none⟩ = some (.int .i64 a0_0) := (blk_cell B0 0).trans rfl
    have k1 : w4.cell? ⟨g, 1, none⟩ = some (.slice A0_1 l0_1.length c0_1) := (blk_cell B0 1).trans rfl
    have f1 : w4.frozen? ⟨g, 1, none⟩ = false := blk_frozen B0 1
    have m0 : w4.cell? ⟨g + 1 + 1, 0, none⟩ = some (.int .i64 0) := (blk_cell B2 0).trans rfl
    have m1 : w4.cell? ⟨g + 1 + 1, 1, none⟩ = some (.slice none 0 0) := (blk_cell B2 1).trans rfl
    have m2 : w4.cell? ⟨g + 1 + 1, 2, none⟩ = some (.int .i64 0) := (blk_cell B2 2).trans rfl
    have m3 : w4.cell? ⟨g + 1 + 1, 3, none⟩ = some (.int .i64 0) := (blk_cell B2 3).trans rfl
    have n0 : w4.frozen? ⟨g + 1 + 1, 0, none⟩ = false := blk_frozen B2 0
    have n1 : w4.frozen? ⟨g + 1 + 1, 1, none⟩ = false := blk_frozen B2 1
    have n2 : w4.frozen? ⟨g + 1 + 1, 2, none⟩ = false := blk_frozen B2 2
    have n3 : w4.frozen? ⟨g + 1 + 1, 3, none⟩ = false := blk_frozen B2 3
    have ne : g ≠ g + 1 + 1 := by omega
    have ne' : g + 1 + 1 ≠ g := by omega
    have hlen : ([(⟨⟨a1_0, a1_1⟩, a2⟩ : S90)] ++ r).length = r.length + 1 := by simp
    have hO := HO4.out
    rw [hlen] at hl hO ⊢
    have HO := Aside0.mk hO
    have hgw := HG.out
    have hz3 := HZ3.out
    have hR0 : Kd.R k90 90 w4 w.heap.size (fun k => g + 1 + 1 < k) (.slice (some ad) (r.length + 1) c4) ([(⟨⟨a1_0, a1_1⟩, a2⟩ : S90)] ++ r) := Kd.R_lower (Kd.R_mono (Kd.R_bound hO) (fun k hk => by have := hk.2.1; omega)) (by omega)
    have HR0 := Aside0.mk hR0
    have hBw : Below w.heap.size w w4 := HB3.out.trans (HBK.out.mono (by omega))
    have HBw := Aside0.mk hBw
    have HNe := Aside0.mk ne
    clear hgw hz3 hR0 hBw hO
    have q0 : (0 : Int) ≤ ((r.length + 1 : Nat) : Int) := by omega
    obtain ⟨m, hm⟩ : ∃ m : Nat, m = (if ((r.length + 1 : Nat) : Int) ≤ a0_0 then r.length + 1 else a0_0.toNat) := ⟨_, rfl⟩
    have hmle : m ≤ r.length + 1 := by rw [hm]; split <;> omega
    have hfin : ∀ W : World, W = ((((w4.setCell ⟨g, 1, none⟩ (.slice (some ad) m c4)).setCell ⟨g + 1 + 1, 0, none⟩ (.int .i64 a0_0)).setCell ⟨g + 1 + 1, 1, none⟩ (.slice (some ad) m c4)).setCell ⟨g + 1 + 1, 2, none⟩ (.int .i64 a0_2)).setCell ⟨g + 1 + 1, 3, none⟩ (.int .i64 a0_3) → W.heap[g + 1 + 1]? = some (.cells #[.int .i64 a0_0, .slice (some ad) m c4, .int .i64 a0_2, .int .i64 a0_3] 30 (0, 0)) ∧ Kd.R k90 90 W w.heap.size (fun _ => True) (.slice (some ad) m c4) (caulkref36_Cache_Put.l a0_0 a1_0 a1_1 a2 r) ∧ Below w.heap.size w W := by
      rintro W rfl
      have hgw := HG.out
      refine ⟨?_, ?_, ?_⟩
      · exact blk_put (blk_put (blk_put (blk_put (blk_far B2 (show g + 1 + 1 ≠ g by omega) _) 0 _ rfl) 1 _ rfl) 2 _ rfl) 3 _ rfl
      · have h1 := Kd.R_take HR0.out (m := m) (by rw [hlen]; exact hmle)
        have h2 : ([(⟨⟨a1_0, a1_1⟩, a2⟩ : S90)] ++ r).take m = caulkref36_Cache_Put.l a0_0 a1_0 a1_1 a2 r := by rw [hm]; rfl
        rw [h2] at h1
        exact Kd.R_mono (Kd.R_far (p := ⟨g + 1 + 1, 3, none⟩) (Kd.R_far (p := ⟨g + 1 + 1, 2, none⟩) (Kd.R_far (p := ⟨g + 1 + 1, 1, none⟩) (Kd.R_far (p := ⟨g + 1 + 1, 0, none⟩) (Kd.R_far (p := ⟨g, 1, none⟩) h1 (fun k hk => by show k ≠ g; omega) _) (fun k hk => by show k ≠ g + 1 + 1; omega) _) (fun k hk => by show k ≠ g + 1 + 1; omega) _) (fun k hk => by show k ≠ g + 1 + 1; omega) _) (fun k hk => by show k ≠ g + 1 + 1; omega) _) (fun _ _ => trivial)
      · exact Below.setCell (Below.setCell (Below.setCell (Below.setCell (Below.setCell HBw.out (p := ⟨g, 1, none⟩) (by show _ ≤ g; omega) _) (p := ⟨g + 1 + 1, 0, none⟩) (by show _ ≤ g + 1 + 1; omega) _) (p := ⟨g + 1 + 1, 1, none⟩) (by show _ ≤ g + 1 + 1; omega) _) (p := ⟨g + 1 + 1, 2, none⟩) (by show _ ≤ g + 1 + 1; omega) _) (p := ⟨g + 1 + 1, 3, none⟩) (by show _ ≤ g + 1 + 1; omega) _
    have HFin := Aside0.mk hfin
    have hr0 : (0 : Int) ≤ (r.length : Int) := by omega
    by_cases hle : ((r.length + 1 : Nat) : Int) ≤ a0_0
    · have q1 : ((r.length + 1 : Nat) : Int) ≤ (c4 : Int) := by omega
      rw [if_pos hle] at hm
      subst hm
      clear hfin B0 B2 hl hrl hlen hmle
      go_wp2
      obtain ⟨F1, F2, F3⟩ := HFin.out _ rfl
      exact bodyPost_ret (results_cell_row rfl _ _ (g + 1 + 1) 30 _ (0, 0) _ rfl F1 Try.underlying30 rfl (by kernel_rfl)) rfl ⟨_, rfl, F2, F3⟩
    · rw [if_neg hle] at hm
      have hm' : (m : Int) = a0_0 := by rw [hm]; omega
      obtain rfl := hm'.symm
      have q1 : (m : Int) ≤ (c4 : Int) := by omega
      have q2 : (m : Int) < ((r.length + 1 : Nat) : Int) := by omega
      clear hfin B0 B2 hl hrl hlen hmle hm
      go_wp2
      obtain ⟨F1, F2, F3⟩ := HFin.out _ rfl
      exact bodyPost_ret (results_cell_row rfl _ _ (g + 1 + 1) 30 _ (0, 0) _ rfl F1 Try.underlying30 rfl (by kernel_rfl)) rfl ⟨_, rfl, F2, F3⟩
end Go.Proofs.Ytoglapodcejocaa.G
