/- The document's cache's Get over this seat's program. Conditions: the bounds in the statement. -/
import Derived.Test.YtoglapodcejocaaCacheRef
namespace Go.Proofs.Ytoglapodcejocaa.G
open Go.RowKit Go.Proofs.YtoglapodcejocaaW.PrintWords Go.Proofs.YtoglapodcejocaaW.PrintLast Go.Proofs.YtoglapodcejocaaW.PrintMore
set_option linter.unusedVariables false
set_option linter.unusedSimpArgs false
set_option maxRecDepth 100000
theorem cells4 {W : World} {g t : Nat} {a b c d : Value} (h : W.heap[g]? = some (.cells #[a, b, c, d] t (0, 0))) : (W.cell? ⟨g, 0, none⟩ = some a ∧ W.cell? ⟨g, 1, none⟩ = some b ∧ W.cell? ⟨g, 2, none⟩ = some c ∧ W.cell? ⟨g, 3, none⟩ = some d) ∧ (W.frozen? ⟨g, 0, none⟩ = false ∧ W.frozen? ⟨g, 1, none⟩ = false ∧ W.frozen? ⟨g, 2, none⟩ = false ∧ W.frozen? ⟨g, 3, none⟩ = false) :=
  ⟨⟨(blk_cell h 0).trans rfl, (blk_cell h 1).trans rfl, (blk_cell h 2).trans rfl, (blk_cell h 3).trans rfl⟩, blk_frozen h 0, blk_frozen h 1, blk_frozen h 2, blk_frozen h 3⟩
theorem cells3 {W : World} {g t : Nat} {a b c : Value} (h : W.heap[g]? = some (.cells #[a, b, c] t (0, 0))) : (W.cell? ⟨g, 0, none⟩ = some a ∧ W.cell? ⟨g, 1, none⟩ = some b ∧ W.cell? ⟨g, 2, none⟩ = some c) ∧ (W.frozen? ⟨g, 0, none⟩ = false ∧ W.frozen? ⟨g, 1, none⟩ = false ∧ W.frozen? ⟨g, 2, none⟩ = false) :=
  ⟨⟨(blk_cell h 0).trans rfl, (blk_cell h 1).trans rfl, (blk_cell h 2).trans rfl⟩, blk_frozen h 0, blk_frozen h 1, blk_frozen h 2⟩
theorem cells2 {W : World} {g t : Nat} {a b : Value} (h : W.heap[g]? = some (.cells #[a, b] t (0, 0))) : (W.cell? ⟨g, 0, none⟩ = some a ∧ W.cell? ⟨g, 1, none⟩ = some b) ∧ (W.frozen? ⟨g, 0, none⟩ = false ∧ W.frozen? ⟨g, 1, none⟩ = false) :=
  ⟨⟨(blk_cell h 0).trans rfl, (blk_cell h 1).trans rfl⟩, blk_frozen h 0, blk_frozen h 1⟩
theorem getE_room {room : Int} {E : List (Pl × ByteArray)} {p : Pl} {x : Pl × ByteArray} (h : (E.length : Int) ≤ room) (hx : findE E p = some x) : putE room E p x.2 = (p, x.2) :: withoutE E p := by
  have hm := List.mem_of_find?_eq_some hx
  have hp := List.find?_some hx
  have : (withoutE E p).length < E.length := by
    rcases Nat.lt_or_ge (withoutE E p).length E.length with h2 | h2
    · exact h2
    · exfalso
      have e := List.filter_eq_self.1 ((List.filter_sublist (p := fun x : Pl × ByteArray => decide (x.1 ≠ p)) (l := E)).eq_of_length_le h2)
      have h3 := e x hm
      simp at hp h3
      exact h3 hp
  unfold putE
  rw [if_neg (by omega)]
theorem findE_at {E : List (Pl × ByteArray)} {p : Pl} {i : Nat} (hi : i < E.length) (hn : ∀ j (hj : j < i), (E[j]'(by omega)).1 ≠ p) (he : E[i].1 = p) : findE E p = some E[i] := by
  unfold findE
  rw [List.find?_eq_some_iff_getElem]
  exact ⟨by simpa using he, i, hi, rfl, fun j hj => by simpa using hn j hj⟩
theorem findE_no {E : List (Pl × ByteArray)} {p : Pl} (hn : ∀ j (hj : j < E.length), E[j].1 ≠ p) : findE E p = none := by
  unfold findE
  rw [List.find?_eq_none]
  intro x hx
  obtain ⟨j, hj, rfl⟩ := List.mem_iff_getElem.1 hx
  simpa using hn j hj
set_option maxHeartbeats 4000000 in
theorem rget_calls {ok : Nat → Prop} {w : World} {A : Option Addr} {c : Nat} {E : List (Pl × ByteArray)} (hF : Kd.F k90 w ok A E.length (E.map toS)) (hc : E.length ≤ c) {room hit miss : Int} (h1 : 1 ≤ room) (h2 : room ≤ 4096) (hE : (E.length : Int) ≤ room) (hh : 0 ≤ hit ∧ hit ≤ 1000000) (hi : 0 ≤ miss ∧ miss ≤ 1000000) (p : Pl) :
    Calls Try.prog 13 #[.agg #[.int .i64 room, .slice A E.length c, .int .i64 hit, .int .i64 miss], .agg #[.int .i64 p.1, .int .i64 p.2]] w fun e w' => ∃ v E' s is hit' miss', e = .returned (.tuple #[.agg #[.int .i64 room, v, .int .i64 hit', .int .i64 miss'], .string s, .bool is]) ∧ getE E p hit miss = (E', s, is, hit', miss') ∧ Kd.V k90 90 w' w.heap.size (fun k => ok k ∨ w.heap.size ≤ k) v (E'.map toS) ∧ Below w.heap.size w w' := by
  obtain ⟨g, hg⟩ : ∃ g, g = w.heap.size := ⟨_, rfl⟩
  obtain ⟨w1, hw1⟩ : ∃ w1, w1 = w.alloc (.cells #[.int .i64 room, .slice A E.length c, .int .i64 hit, .int .i64 miss] 30) := ⟨_, rfl⟩
  obtain ⟨w2, hw2⟩ : ∃ w2, w2 = w1.alloc (.cells #[.int .i64 p.1, .int .i64 p.2] 34) := ⟨_, rfl⟩
  obtain ⟨w3, hw3⟩ : ∃ w3, w3 = w2.alloc (.cells #[.int .i64 0, .slice none 0 0, .int .i64 0, .int .i64 0] 30) := ⟨_, rfl⟩
  have z1 : w1.heap.size = g + 1 := by rw [hw1, hg]; simp
  have z2 : w2.heap.size = g + 1 + 1 := by rw [hw2]; simp [z1]
  have z3 : w3.heap.size = g + 1 + 1 + 1 := by rw [hw3]; simp [z2]
  have b1 : Below w.heap.size w w1 := by rw [hw1]; exact below_alloc (Below.refl _ _) _
  have b2 : Below w.heap.size w w2 := by rw [hw2]; exact below_alloc b1 _
  have b3 : Below w.heap.size w w3 := by rw [hw3]; exact below_alloc b2 _
  have B0 : w3.heap[g]? = some (.cells #[.int .i64 room, .slice A E.length c, .int .i64 hit, .int .i64 miss] 30 (0, 0)) := by rw [hw3, hw2, hw1, hg]; exact blk_alloc (blk_alloc (blk_new _ _) _) _
  have B1 : w3.heap[g + 1]? = some (.cells #[.int .i64 p.1, .int .i64 p.2] 34 (0, 0)) := by rw [hw3, hw2, ← z1]; exact blk_alloc (blk_new _ _) _
  have B2 : w3.heap[g + 1 + 1]? = some (.cells #[.int .i64 0, .slice none 0 0, .int .i64 0, .int .i64 0] 30 (0, 0)) := by rw [hw3, ← z2]; exact blk_new _ _
  have k1 : w3.cell? ⟨g, 1, none⟩ = some (.slice A E.length c) := (blk_cell B0 1).trans rfl
  have HG := Aside0.mk hg
  have HW1 := Aside0.mk hw1
  have HW2 := Aside0.mk hw2
  have HW3 := Aside0.mk hw3
  have HZ3 := Aside0.mk z3
  have HB3 := Aside0.mk b3
  have HB0 := Aside0.mk B0
  have HB1 := Aside0.mk B1
  have HB2 := Aside0.mk B2
  have HF := Aside0.mk (Kd.F_below hF b3)
  have HF0 := Aside0.mk hF
  have HC := Aside0.mk hc
  have HE := Aside0.mk (show E.length ≤ 4096 by omega)
  have HER := Aside0.mk hE
  have HI := Aside0.mk (wrap_i64_small hi)
  have HH := Aside0.mk (wrap_i64_small hh)
  have HR1 := Aside0.mk h1
  have HR2 := Aside0.mk h2
  clear hg hw1 hw2 hw3 z1 z2 z3 b1 b2 b3 B0 B1 B2 hF hc hE hi hh h1 h2
  go_enter Try.func13, Try.ntmps13
  go_wp2
  rw [← HW1.out, ← HW2.out, ← HW3.out, ← HG.out]
  go_loopw [12] (fun v wr => ∃ i : Nat, v = .int .i64 i ∧ Aside0 (i ≤ E.length) ∧ Aside0 (∀ j (hj : j < i) (hl : j < E.length), E[j].1 ≠ p) ∧ Aside0 (Below w3.heap.size w3 wr)) (fun v _ => E.length - (intOf v).toNat)
  case atStart => exact ⟨0, rfl, ⟨Nat.zero_le _⟩, ⟨fun j hj => by omega⟩, ⟨Below.refl _ _⟩⟩
  case round =>
    obtain ⟨i, rfl, HIle, HN, HB⟩ := hrel
    have hle := HIle.out
    have hE := HE.out
    clear k1
    by_cases hlt : i < E.length
    · have d1 : decide ((i : Int) < (E.length : Int)) = true := decide_eq_true (by omega)
      have d2 : (0 : Int) ≤ (i : Int) := by omega
      have d3 : (i : Int) < (E.length : Int) := by omega
      obtain ⟨ad, eA, x0, x1, x2⟩ := at_T90 (Kd.C_below (Kd.F_now HF.out) HB.out) (i : Int) d2 d3
      rw [rd_toS hlt] at x0 x1 x2
      cases eA
      have BB1 := blk_below HB1.out HB.out
      obtain ⟨⟨p0, p1⟩, _⟩ := cells2 BB1
      have HL := Aside0.mk hlt
      have HD3 := Aside0.mk d3
      rw [Int.toNat_natCast] at x0 x1 x2
      obtain ⟨q, hq⟩ : ∃ q, q = E[i] := ⟨_, rfl⟩
      rw [← hq] at x0 x1 x2
      have y0 : wr.cell? (ad.add (i * 3)) = some (.int .i64 q.1.1) := x0
      have y1 : wr.cell? ⟨(ad.add (i * 3)).block, (ad.add (i * 3)).off + 1, none⟩ = some (.int .i64 q.1.2) := x1
      have y2 : wr.cell? ⟨(ad.add (i * 3)).block, (ad.add (i * 3)).off + 2, none⟩ = some (.string q.2) := x2
      clear hle x0 x1 x2
      have HQ := Aside0.mk hq
      clear hq
      have hszr := HB.out.size
      have HSz := Aside0.mk hszr
      clear hszr
      go_upto_region 4 with (first | ((with_reducible refine gate_dst (N := 8) rfl ?_); refine box_event ?hg (N := 8) ?hd (cs := #[.int .i64 0, .int .i64 0, .string (⟨#[]⟩ : ByteArray)]) (t := 90) ?hr ?_; (case hd => rfl); (case hg => rfl); (case hr => first | (go_simp; done) | (go_simp; rfl)); intro gb hgb w4 hbox hb4; have HB4 := Aside0.mk (HB.out.trans (hb4.mono HSz.out)); have HBX := Aside0.mk hbox; have HGB := Aside0.mk hgb; obtain ⟨⟨m0, m1, m2⟩, n0, n1, n2⟩ := cells3 hbox; clear hbox hb4 hgb))
      obtain ⟨w5, hw5⟩ : ∃ w5, w5 = ((w4.setCell ⟨gb, 0, none⟩ (.int .i64 q.1.1)).setCell ⟨gb, 1, none⟩ (.int .i64 q.1.2)).setCell ⟨gb, 2, none⟩ (.string q.2) := ⟨_, rfl⟩
      have hgb := HGB.out
      have hsz := HSz.out
      have G5 : w5.heap[gb]? = some (.cells #[.int .i64 q.1.1, .int .i64 q.1.2, .string q.2] 90 (0, 0)) := by rw [hw5]; exact blk_put (blk_put (blk_put HBX.out 0 _ rfl) 1 _ rfl) 2 _ rfl
      have hb5 : Below w3.heap.size w3 w5 := by
        rw [hw5]
        exact Below.setCell (Below.setCell (Below.setCell HB4.out (p := ⟨gb, 0, none⟩) (by show _ ≤ gb; omega) _) (p := ⟨gb, 1, none⟩) (by show _ ≤ gb; omega) _) (p := ⟨gb, 2, none⟩) (by show _ ≤ gb; omega) _
      rw [← hw5]
      have HB5 := Aside0.mk hb5
      have HG5 := Aside0.mk G5
      clear hw5 m0 m1 m2 n0 n1 n2 y0 y1 y2 p0 p1
      obtain ⟨⟨m0, m1, m2⟩, _⟩ := cells3 G5
      obtain ⟨⟨p0, p1⟩, _⟩ := cells2 (blk_below HB1.out hb5)
      obtain ⟨⟨a0, a1, a2, a3⟩, _⟩ := cells4 (blk_below HB0.out hb5)
      have hfz := HZ3.out
      have HGg := Aside0.mk (show gb ≠ g ∧ gb ≠ g + 1 + 1 by omega)
      clear hgb hsz G5 hb5 hfz hE d1 d2 d3 BB1
      by_cases hqp : q.1 = p
      · subst hqp
        have hp5 := caulkref36_Cache_Put.calls 1000001 room (some ad) c (E.map toS) hit miss q.1.1 q.1.2 q.2 room _ hit miss w5 (by rw [List.length_map]; exact Kd.C_below (Kd.F_now HF.out) HB5.out) (by rw [List.length_map]; exact HC.out) (put_f E q.1 q.2 room hit miss HR1.out HR2.out HER.out)
        rw [List.length_map] at hp5
        have HP5 := Aside0.mk hp5
        have hfe := findE_at hlt (fun j hj => HN.out j hj (by omega)) (by rw [← HQ.out])
        rw [← HQ.out] at hfe
        have HFE := Aside0.mk hfe
        have HPE := Aside0.mk (getE_room HER.out hfe)
        clear hp5 hfe
        go_upto_region 7 with (first | (go_at_call 11; (with_reducible refine HP5.out.mono ?_); rintro e w6 ⟨v0, rfl, hR, hb6⟩; obtain ⟨A0, c0, rfl⟩ := Kd.R_slice hR; have HR6 := Aside0.mk hR; have HB6 := Aside0.mk hb6; have C0 := blk_below (blk_below HB0.out HB5.out) hb6; obtain ⟨⟨e0, e1, e2, e3⟩, f0, f1, f2, f3⟩ := cells4 C0; clear hR hb6 C0))
        rw [HH.out]
        obtain ⟨w7, hw7⟩ : ∃ w7, w7 = ((((w6.setCell ⟨g, 0, none⟩ (.int .i64 room)).setCell ⟨g, 1, none⟩ (.slice A0 (putE room E q.1 q.2).length c0)).setCell ⟨g, 2, none⟩ (.int .i64 hit)).setCell ⟨g, 3, none⟩ (.int .i64 miss)).setCell ⟨g, 2, none⟩ (.int .i64 (hit + 1)) := ⟨_, rfl⟩
        have hBk : ∀ b, b ≠ g → w7.heap[b]? = w6.heap[b]? := fun b hb => by
          rw [hw7]
          rw [Below.heap_setCell _ ⟨g, 2, none⟩ _ _ hb, Below.heap_setCell _ ⟨g, 3, none⟩ _ _ hb, Below.heap_setCell _ ⟨g, 2, none⟩ _ _ hb, Below.heap_setCell _ ⟨g, 1, none⟩ _ _ hb, Below.heap_setCell _ ⟨g, 0, none⟩ _ _ hb]
        have C0 : w7.heap[g]? = some (.cells #[.int .i64 room, .slice A0 (putE room E q.1 q.2).length c0, .int .i64 (hit + 1), .int .i64 miss] 30 (0, 0)) := by rw [hw7]; exact blk_put (blk_put (blk_put (blk_put (blk_put (blk_below (blk_below HB0.out HB5.out) HB6.out) 0 _ rfl) 1 _ rfl) 2 _ rfl) 3 _ rfl) 2 _ rfl
        have C2 : w7.heap[g + 1 + 1]? = some (.cells #[.int .i64 0, .slice none 0 0, .int .i64 0, .int .i64 0] 30 (0, 0)) := (hBk _ (by omega)).trans (blk_below (blk_below HB2.out HB5.out) HB6.out)
        have C3 : w7.heap[gb]? = some (.cells #[.int .i64 q.1.1, .int .i64 q.1.2, .string q.2] 90 (0, 0)) := (hBk _ HGg.out.1).trans (blk_below HG5.out HB6.out)
        have hgw := HG.out
        have hz3 := HZ3.out
        have hb5 := HB5.out.size
        have HV7 := Aside0.mk (show Kd.V k90 90 w7 w.heap.size (fun k => g + 1 + 1 < k) (.slice A0 (putE room E q.1 q.2).length c0) ((putE room E q.1 q.2).map toS) from by
          have h := Kd.R_mono (Kd.R_bound HR6.out) (fun k (hk : True ∧ w5.heap.size ≤ k ∧ _) => (show g + 1 + 1 < k by have := hk.2.1; omega))
          rw [hw7]
          have h2 := Kd.R_V (base' := w.heap.size) (Kd.R_far (p := ⟨g, 2, none⟩) (Kd.R_far (p := ⟨g, 3, none⟩) (Kd.R_far (p := ⟨g, 2, none⟩) (Kd.R_far (p := ⟨g, 1, none⟩) (Kd.R_far (p := ⟨g, 0, none⟩) h (fun k hk => by show k ≠ g; omega) (.int .i64 room)) (fun k hk => by show k ≠ g; omega) (.slice A0 (putE room E q.1 q.2).length c0)) (fun k hk => by show k ≠ g; omega) (.int .i64 hit)) (fun k hk => by show k ≠ g; omega) (.int .i64 miss)) (fun k hk => by show k ≠ g; omega) (.int .i64 (hit + 1)))
          rw [List.length_map] at h2
          exact h2)
        have HB7 := Aside0.mk (show Below w.heap.size w w7 from by
          rw [hw7]
          have h6 : Below w.heap.size w w6 := (HB3.out.trans (HB5.out.mono (by omega))).trans (HB6.out.mono (by omega))
          exact Below.setCell (Below.setCell (Below.setCell (Below.setCell (Below.setCell h6 (p := ⟨g, 0, none⟩) (by show _ ≤ g; omega) _) (p := ⟨g, 1, none⟩) (by show _ ≤ g; omega) _) (p := ⟨g, 2, none⟩) (by show _ ≤ g; omega) _) (p := ⟨g, 3, none⟩) (by show _ ≤ g; omega) _) (p := ⟨g, 2, none⟩) (by show _ ≤ g; omega) _)
        rw [← hw7]
        have hV7 := HV7.out
        obtain ⟨w8, hw8⟩ : ∃ w8, w8 = (((w7.setCell ⟨g + 1 + 1, 0, none⟩ (.int .i64 room)).setCell ⟨g + 1 + 1, 1, none⟩ (.slice A0 (putE room E q.1 q.2).length c0)).setCell ⟨g + 1 + 1, 2, none⟩ (.int .i64 (hit + 1))).setCell ⟨g + 1 + 1, 3, none⟩ (.int .i64 miss) := ⟨_, rfl⟩
        have HFin := Aside0.mk (show w8.heap[g + 1 + 1]? = some (.cells #[.int .i64 room, .slice A0 (putE room E q.1 q.2).length c0, .int .i64 (hit + 1), .int .i64 miss] 30 (0, 0)) ∧ Kd.V k90 90 w8 w.heap.size (fun k => ok k ∨ w.heap.size ≤ k) (.slice A0 (putE room E q.1 q.2).length c0) ((putE room E q.1 q.2).map toS) ∧ Below w.heap.size w w8 from by
          refine ⟨?_, ?_, ?_⟩
          · rw [hw8]; exact blk_put (blk_put (blk_put (blk_put C2 0 _ rfl) 1 _ rfl) 2 _ rfl) 3 _ rfl
          · rw [hw8]
            exact Kd.V_mono (Kd.V_far (p := ⟨g + 1 + 1, 3, none⟩) (Kd.V_far (p := ⟨g + 1 + 1, 2, none⟩) (Kd.V_far (p := ⟨g + 1 + 1, 1, none⟩) (Kd.V_far (p := ⟨g + 1 + 1, 0, none⟩) hV7 (fun k hk => by show k ≠ g + 1 + 1; omega) _) (fun k hk => by show k ≠ g + 1 + 1; omega) _) (fun k hk => by show k ≠ g + 1 + 1; omega) _) (fun k hk => by show k ≠ g + 1 + 1; omega) _) (fun k hk => .inr (by omega))
          · rw [hw8]
            exact Below.setCell (Below.setCell (Below.setCell (Below.setCell HB7.out (p := ⟨g + 1 + 1, 0, none⟩) (by show _ ≤ g + 1 + 1; omega) _) (p := ⟨g + 1 + 1, 1, none⟩) (by show _ ≤ g + 1 + 1; omega) _) (p := ⟨g + 1 + 1, 2, none⟩) (by show _ ≤ g + 1 + 1; omega) _) (p := ⟨g + 1 + 1, 3, none⟩) (by show _ ≤ g + 1 + 1; omega) _)
        have HW8 := Aside0.mk hw8
        clear hV7 hw8
        clear hw7 hBk hgw hz3 hb5 m0 m1 m2 p0 p1 a0 a1 a2 a3 e0 e1 e2 e3 f0 f1 f2 f3
        obtain ⟨⟨a0, a1, a2, a3⟩, _⟩ := cells4 (W := w7.drew) C0
        obtain ⟨⟨m0, m1, m2⟩, _⟩ := cells3 (W := w7.drew) C3
        obtain ⟨⟨e0, e1, e2, e3⟩, f0, f1, f2, f3⟩ := cells4 (W := w7.drew) C2
        obtain ⟨⟨i0, i1, i2, i3⟩, j0, j1, j2, j3⟩ := cells4 (W := w7) C2
        have m2' : w7.cell? ⟨gb, 2, none⟩ = some (.string q.2) := m2
        have hne := HGg.out.2
        have hne' : g + 1 + 1 ≠ gb := fun e => hne e.symm
        clear C0 C2 C3
        go_region_with (fail)
        all_goals
          go_wp2
          obtain ⟨F1, F2, F3⟩ := HFin.out
          rw [HW8.out] at F1 F2 F3
          exact bodyPost_ret (results_ctt rfl _ _ (g + 1 + 1) 30 _ (0, 0) _ rfl F1 Try.underlying30 rfl (by kernel_rfl)) rfl ⟨_, putE room E q.1 q.2, _, _, _, _, rfl, by unfold getE; rw [HFE.out, HPE.out], F2, by first | exact F3 | exact below_drew F3⟩
      · have hor : ¬ q.1.1 = p.1 ∨ (q.1.1 = p.1 ∧ ¬ q.1.2 = p.2) := by
          by_cases e1 : q.1.1 = p.1
          · exact .inr ⟨e1, fun e2 => hqp (Prod.ext e1 e2)⟩
          · exact .inl e1
        rcases hor with h1 | ⟨h1, h2⟩
        all_goals
          go_wp2
          go_roundw
          case rel => exact ⟨i + 1, by rw [wrap_nat (by have := HE.out; omega)], ⟨hlt⟩, ⟨fun j hj hl => by
            by_cases e : j = i
            · subst e; rw [← HQ.out]; exact hqp
            · exact HN.out j (by omega) hl⟩, HB5⟩
          case measure => rw [wrap_nat (by have := HE.out; omega)]; simp [intOf]; omega
    · have hi : i = E.length := by omega
      subst hi
      have d1 : decide (((E.length : Nat) : Int) < (E.length : Int)) = false := decide_eq_false (by omega)
      have B0 := blk_below HB0.out HB.out
      have B2 := blk_below HB2.out HB.out
      obtain ⟨⟨a0, a1, a2, a3⟩, b0, b1, b2, b3⟩ := cells4 B0
      obtain ⟨⟨e0, e1, e2, e3⟩, f0, f1, f2, f3⟩ := cells4 B2
      have hne : g ≠ g + 1 + 1 := by omega
      have hne' : g + 1 + 1 ≠ g := by omega
      have hgw := HG.out
      have hz3 := HZ3.out
      have hfe := findE_no (p := p) (E := E) (fun j hj => HN.out j hj hj)
      have HFE := Aside0.mk hfe
      obtain ⟨w8, hw8⟩ : ∃ w8, w8 = ((((wr.setCell ⟨g, 3, none⟩ (.int .i64 (miss + 1))).setCell ⟨g + 1 + 1, 0, none⟩ (.int .i64 room)).setCell ⟨g + 1 + 1, 1, none⟩ (.slice A E.length c)).setCell ⟨g + 1 + 1, 2, none⟩ (.int .i64 hit)).setCell ⟨g + 1 + 1, 3, none⟩ (.int .i64 (miss + 1)) := ⟨_, rfl⟩
      have HFin := Aside0.mk (show w8.heap[g + 1 + 1]? = some (.cells #[.int .i64 room, .slice A E.length c, .int .i64 hit, .int .i64 (miss + 1)] 30 (0, 0)) ∧ Kd.V k90 90 w8 w.heap.size (fun k => ok k ∨ w.heap.size ≤ k) (.slice A E.length c) (E.map toS) ∧ Below w.heap.size w w8 from by
        have hB : Below w.heap.size w w8 := by
          rw [hw8]
          have h6 : Below w.heap.size w wr := HB3.out.trans (HB.out.mono (by omega))
          exact Below.setCell (Below.setCell (Below.setCell (Below.setCell (Below.setCell h6 (p := ⟨g, 3, none⟩) (by show _ ≤ g; omega) _) (p := ⟨g + 1 + 1, 0, none⟩) (by show _ ≤ g + 1 + 1; omega) _) (p := ⟨g + 1 + 1, 1, none⟩) (by show _ ≤ g + 1 + 1; omega) _) (p := ⟨g + 1 + 1, 2, none⟩) (by show _ ≤ g + 1 + 1; omega) _) (p := ⟨g + 1 + 1, 3, none⟩) (by show _ ≤ g + 1 + 1; omega) _
        refine ⟨?_, ?_, hB⟩
        · rw [hw8]; exact blk_put (blk_put (blk_put (blk_put (blk_far B2 (show g + 1 + 1 ≠ g by omega) _) 0 _ rfl) 1 _ rfl) 2 _ rfl) 3 _ rfl
        · have h := Kd.V_mk (d := k90) (e := 90) (base := w.heap.size) (ok := fun k => ok k ∨ w.heap.size ≤ k) (W := w8) (A := A) (xs := E.map toS) (c := c) (by rw [List.length_map]; exact HC.out) (by rw [List.length_map]; exact Kd.F_mono (Kd.F_below HF0.out hB) (fun k hk => .inl hk))
          rw [List.length_map] at h
          exact h)
      have HW8 := Aside0.mk hw8
      clear hw8 hgw hz3 hfe B0 B2 hle hE hlt
      go_wp2
      rw [HI.out]
      obtain ⟨F1, F2, F3⟩ := HFin.out
      rw [HW8.out] at F1 F2 F3
      exact bodyPost_ret (results_ctt rfl _ _ (g + 1 + 1) 30 _ (0, 0) _ rfl F1 Try.underlying30 rfl (by kernel_rfl)) rfl ⟨_, E, _, _, _, _, rfl, by unfold getE; rw [HFE.out], F2, F3⟩
end Go.Proofs.Ytoglapodcejocaa.G
