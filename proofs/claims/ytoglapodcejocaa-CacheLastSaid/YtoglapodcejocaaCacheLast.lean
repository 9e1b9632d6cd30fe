/- The walk of caulklaw36.CacheLast over this seat's program: it answers true. Conditions: the places are of whole numbers of 64 bits. -/
import Derived.Test.YtoglapodcejocaaCacheLastMath
namespace Go.Proofs.Ytoglapodcejocaa.G
open Go.RowKit Go.Proofs.YtoglapodcejocaaW.PrintWords Go.Proofs.YtoglapodcejocaaW.PrintLast Go.Proofs.YtoglapodcejocaaW.PrintMore
set_option linter.unusedVariables false
set_option linter.unusedSimpArgs false
set_option maxRecDepth 100000
open Classical in
noncomputable def caulklaw36_CacheLast.f (k : Nat) (a0 : Int) (l1 : List S36) : Option Bool := if actsOk l1 then some true else none
def caulklaw36_CacheLast.Pure : Prop := ∀ (a0 : Int) (l1 : List S36), (Lit.int .i64 a0).wf = true → (l1.length * 48 ≤ 140737488351232 ∧ ∀ x ∈ l1, ((Lit.int .i64 x.f0).wf = true ∧ ((Lit.int .i64 x.f1.f0).wf = true ∧ (Lit.int .i64 x.f1.f1).wf = true) ∧ x.f2.size ≤ 140737488351232 ∧ (Lit.int .i64 x.f3).wf = true)) → ∃ k, caulklaw36_CacheLast.f k a0 l1 = some true
theorem caulklaw36_CacheLast.pure : caulklaw36_CacheLast.Pure := fun a0 l1 _ h => ⟨0, by unfold caulklaw36_CacheLast.f; exact if_pos (fun x hx => (h.2 x hx).2.1)⟩
/-- A row beside the cache is written on. -/
theorem CInv.grown {w Wk W W1 : World} {keep : Nat → Prop} {g : Nat} {room hit miss : Int} {E : List (Pl × ByteArray)} {row : Option Nat} (h : CInv w Wk keep g room hit miss E) (hb : Below Wk.heap.size Wk W) (hg : W.grownBy W1 row) (hr : ∀ k, row = some k → keep k ∨ Wk.heap.size ≤ k) (hB : Below w.heap.size w W1) :
    CInv w W1 (fun k => keep k ∨ (Wk.heap.size ≤ k ∧ k < W1.heap.size)) g room hit miss E := by
  obtain ⟨⟨P, h1, h2, h3⟩, h4⟩ := h
  have hz := hg.size
  have hz2 := hb.size
  refine ⟨⟨P, ?_, h2, fun k hk => ?_⟩, hB⟩
  · obtain ⟨m, bs, K, V, A, N, F, c1, he⟩ := h1.below hb
    refine ⟨m, bs, K, V, A, N, F, c1.same (fun k hp => hg.block k (c1.lt k hp) (fun e => ?_)) hz, he⟩
    rcases hr k e.symm with h' | h'
    · exact (h3 k h').2 hp
    · have := h1.lt k hp; omega
  · rcases hk with h' | h'
    · exact ⟨by have := (h3 k h').1; omega, (h3 k h').2⟩
    · exact ⟨h'.2, fun hp => by have := h1.lt k hp; omega⟩
/-- The cache, and the rows of what was used and put. -/
structure LastS (w : World) (g : Nat) (room : Int) (r i : Nat) (v7 v8 : Value) (U : List Pl) (Q : List S36) (keep : Nat → Prop) (hit miss : Int) (E : List (Pl × ByteArray)) (wr : World) : Prop where
  inv : CInv w wr keep g room hit miss E
  row7 : Kd.R k34 34 wr w.heap.size keep v7 (U.map toP)
  row8 : Kd.R k36 36 wr w.heap.size keep v8 Q
  lenU : U.length ≤ i
  lenQ : Q.length ≤ i
  lenE : E.length ≤ r
  hits : 0 ≤ hit ∧ hit ≤ i
  miss : 0 ≤ miss ∧ miss ≤ i
theorem LastS.mono {w g room r i j v7 v8 U Q keep hit miss E wr} (h : LastS w g room r i v7 v8 U Q keep hit miss E wr) (hij : i ≤ j) : LastS w g room r j v7 v8 U Q keep hit miss E wr :=
  ⟨h.inv, h.row7, h.row8, Nat.le_trans h.lenU hij, Nat.le_trans h.lenQ hij, h.lenE, by have := h.hits; omega, by have := h.miss; omega⟩
theorem LastS.step {w g room r i v7 v8 U Q keep hit miss E wr wr'} (h : LastS w g room r i v7 v8 U Q keep hit miss E wr) (hb : Below wr.heap.size wr wr') : LastS w g room r i v7 v8 U Q (fun k => keep k ∨ (wr.heap.size ≤ k ∧ k < wr'.heap.size)) hit miss E wr' :=
  ⟨h.inv.step hb (fun k hk => hk), Kd.R_mono (Kd.R_below h.row7 hb) (fun k hk => .inl hk), Kd.R_mono (Kd.R_below h.row8 hb) (fun k hk => .inl hk), h.lenU, h.lenQ, h.lenE, h.hits, h.miss⟩
def LastR (w : World) (g : Nat) (room : Int) (r i : Nat) (v7 v8 : Value) (wr : World) : Prop := ∃ U Q keep hit miss E, LastS w g room r i v7 v8 U Q keep hit miss E wr ∧ LastI r E U Q
/-- A place is laid behind those that were used. -/
theorem LastS.used {w g room r i v7 v8 U Q keep hit miss E Wk W W1 v1} {p : Pl} (h : LastS w g room r i v7 v8 U Q keep hit miss E Wk) (hb : Below Wk.heap.size Wk W) (hR : Kd.R k34 34 W1 w.heap.size (fun k => keep k ∨ Wk.heap.size ≤ k) v1 (U.map toP ++ [toP p])) (hB : Below w.heap.size w W1) (hg : W.grownBy W1 v7.ownBlock) (hu : U.length < i) :
    LastS w g room r i v1 v8 (U ++ [p]) Q (fun k => keep k ∨ (Wk.heap.size ≤ k ∧ k < W1.heap.size)) hit miss E W1 := by
  have hU := Kd.R_below h.row7 hb
  have hQ := Kd.R_below h.row8 hb
  refine ⟨h.inv.grown hb hg (fun k hk => .inl (h.row7.1 k hk)) hB, ?_, ?_, by rw [List.length_append]; simp; omega, h.lenQ, h.lenE, h.hits, h.miss⟩
  · rw [List.map_append]
    exact Kd.R_mono (Kd.R_bound hR) (fun k hk => hk.1.imp id (fun h' => ⟨h', hk.2.2.1⟩))
  · exact Kd.R_mono (Kd.R_over' hQ (Kd.R_typed hU) (by decide) hg) (fun k hk => .inl hk)
/-- A call is laid behind those that put. -/
theorem LastS.puts {w g room r i v7 v8 U Q keep hit miss E Wk W W1 v1} {x : S36} (h : LastS w g room r i v7 v8 U Q keep hit miss E Wk) (hb : Below Wk.heap.size Wk W) (hR : Kd.R k36 36 W1 w.heap.size (fun k => keep k ∨ Wk.heap.size ≤ k) v1 (Q ++ [x])) (hB : Below w.heap.size w W1) (hg : W.grownBy W1 v8.ownBlock) (hq : Q.length < i) :
    LastS w g room r i v7 v1 U (Q ++ [x]) (fun k => keep k ∨ (Wk.heap.size ≤ k ∧ k < W1.heap.size)) hit miss E W1 := by
  have hU := Kd.R_below h.row7 hb
  have hQ := Kd.R_below h.row8 hb
  refine ⟨h.inv.grown hb hg (fun k hk => .inl (h.row8.1 k hk)) hB, ?_, ?_, h.lenU, by rw [List.length_append]; simp; omega, h.lenE, h.hits, h.miss⟩
  · exact Kd.R_mono (Kd.R_over' hU (Kd.R_typed hQ) (by decide) hg) (fun k hk => .inl hk)
  · exact Kd.R_mono (Kd.R_bound hR) (fun k hk => hk.1.imp id (fun h' => ⟨h', hk.2.2.1⟩))
theorem LastS.leaves {w g room r i v7 v8 U Q keep hit miss E wr wr' hit' miss' E'} (h : LastS w g room r i v7 v8 U Q keep hit miss E wr) (hi : CInv w wr' keep g room hit' miss' E') (hl : Leaves keep wr wr') (hE : E'.length ≤ r) (hh : 0 ≤ hit' ∧ hit' ≤ i) (hm : 0 ≤ miss' ∧ miss' ≤ i) : LastS w g room r i v7 v8 U Q keep hit' miss' E' wr' :=
  ⟨hi, Kd.R_move h.row7 (fun k hk => hl.block k hk), Kd.R_move h.row8 (fun k hk => hl.block k hk), h.lenU, h.lenQ, hE, hh, hm⟩
theorem LastS.lt {w g room r i v7 v8 U Q keep hit miss E wr} (h : LastS w g room r i v7 v8 U Q keep hit miss E wr) {k : Nat} (hk : keep k) : k < wr.heap.size := by
  obtain ⟨P, _, _, h3⟩ := h.inv.ex
  exact (h3 k hk).1
theorem infoAct : (Try.prog.info? 36).map (fun i => (i.zero, i.size, i.bytes)) = some (some (.agg #[.int .i64 0, .int .i64 0, .int .i64 0, .string ⟨#[]⟩, .int .i64 0]), 5, 48) := by kernel_rfl
theorem lit_act {W : World} {base b : Nat} {x : S36} {a : Int} (hb : W.heap[b]? = some (.cells #[.int .i64 a, .int .i64 x.f1.f0, .int .i64 x.f1.f1, .string x.f2, .int .i64 x.f3] 36 (0, 0))) (ha : a = x.f0) (hbase : base ≤ b) : Kd.R k36 36 W base (fun _ => True) (.slice (some ⟨b, 0, none⟩) 1 1) [x] := by
  subst ha
  refine ⟨fun _ _ => trivial, [.int .i64 x.f0, .int .i64 x.f1.f0, .int .i64 x.f1.f1, .string x.f2, .int .i64 x.f3], ⟨rfl, .inr ⟨b, 1, _, rfl, hbase, hb, Nat.le_refl _, by decide, rfl, rfl⟩⟩, rfl, fun j p hj => ?_⟩
  have hj0 : j = 0 := by
    have := (List.getElem?_eq_some_iff.1 hj).1
    simpa using this
  subst hj0
  obtain rfl : x = p := by simpa using hj
  exact k36_mkM W base _ x
set_option maxHeartbeats 8000000 in
theorem lasts_none (room : Int) (A1 : Option Addr) (c1 n1 : Nat) (w : World) (h : room < 1 ∨ 4096 < room) :
    Calls Try.prog 4 #[.int .i64 room, .slice A1 n1 c1] w fun e w' => e = .returned (.bool true) ∧ Below w.heap.size w w' := by
  have HLv := Aside0.mk (lives_calls w)
  have HNo := fun W : World => Aside0.mk (new_none (w := W) h)
  clear h
  go_enter Try.func4, Try.ntmps4
  go_wp2_with (first
    | (go_at_call 7; refine HLv.out.mono ?_; rintro e w1 ⟨rfl, hb⟩; have HB1 := Aside0.mk hb; clear hb)
    | (go_at_call 8; refine (HNo _).out.mono ?_; rintro e w1n ⟨rfl, hw⟩; subst hw))
  go_ret
  exact ⟨rfl, HB1.out⟩
set_option maxHeartbeats 8000000 in
theorem lasts_many (room : Int) (A1 : Option Addr) (c1 n1 : Nat) (w : World) (h1 : 1 ≤ room) (h2 : room ≤ 4096) (hn : 100 < n1) :
    Calls Try.prog 4 #[.int .i64 room, .slice A1 n1 c1] w fun e w' => e = .returned (.bool true) ∧ Below w.heap.size w w' := by
  have HLv := Aside0.mk (lives_calls w)
  have HR1 := Aside0.mk h1
  have HR2 := Aside0.mk h2
  have d1 : decide ((n1 : Int) > 100) = true := decide_eq_true (by omega)
  have d2 : (100 : Int) < (n1 : Int) := by omega
  clear h1 h2 hn
  go_enter Try.func4, Try.ntmps4
  go_wp2_with (first
    | (go_at_call 7; refine HLv.out.mono ?_; rintro e w1 ⟨rfl, hb⟩; have HB1 := Aside0.mk hb; clear hb)
    | (go_at_call 8; refine (new_calls HR1.out HR2.out).mono ?_; rintro e w2 ⟨rfl, hw, hb⟩; have HB2 := Aside0.mk (HB1.out.trans (hb.mono HB1.out.size)); clear hw hb))
  go_ret
  exact ⟨rfl, HB2.out⟩
set_option maxHeartbeats 16000000 in
theorem lasts_ok (r : Nat) (A1 : Option Addr) (c1 : Nat) (l1 : List S36) (w : World) (h1 : 1 ≤ r) (h2 : r ≤ 4096) (hr1 : Kd.C k36 w A1 l1.length l1) (hok : actsOk l1) (hn : l1.length ≤ 100) :
    Calls Try.prog 4 #[.int .i64 (r : Int), .slice A1 l1.length c1] w fun e w' => e = .returned (.bool true) ∧ Below w.heap.size w w' := by
  obtain ⟨n1, hn1⟩ : ∃ n1, n1 = l1.length := ⟨_, rfl⟩
  have HN1 := Aside0.mk hn1
  have HN := Aside0.mk (show n1 ≤ 100 by omega)
  have HRow := Aside0.mk hr1
  have HOk := Aside0.mk hok
  have HLv := Aside0.mk (lives_calls w)
  have HR1 := Aside0.mk h1
  have HR2 := Aside0.mk h2
  have d1 : decide ((n1 : Int) > 100) = false := decide_eq_false (by omega)
  have d2 : (n1 : Int) ≤ 100 := by omega
  rw [← hn1]
  clear h1 h2 hn hn1 hr1 hok
  go_enter Try.func4, Try.ntmps4
  go_wp2_with (first
    | (go_at_call 7; refine HLv.out.mono ?_; rintro e w1 ⟨rfl, hb⟩; have HB1 := Aside0.mk hb; clear hb)
    | (go_at_call 8; refine (cinv_new HB1.out (room := (r : Int)) (by have := HR1.out; omega) (by have := HR2.out; omega) (fun _ => False) (fun _ h => h.elim)).mono ?_; rintro e w2 ⟨g, rfl, hi, hb⟩; have HI2 := Aside0.mk hi; clear hi hb))
  have HS0 := Aside0.mk (show LastR w g r r 0 (.slice none 0 0) (.slice none 0 0) w2 from ⟨[], [], _, 0, 0, [], ⟨HI2.out, Kd.R_nil _ _ _ _ _, Kd.R_nil _ _ _ _ _, Nat.zero_le _, Nat.zero_le _, Nat.zero_le _, by omega, by omega⟩, LastI.nil r⟩)
  have HB2 := Aside0.mk HI2.out.below
  go_loopw [7, 8, 45] (fun v7 v8 v45 wr => ∃ i : Nat, v45 = .int .i64 i ∧ Aside0 (i ≤ n1) ∧ Aside0 (LastR w g r r i v7 v8 wr) ∧ Aside0 (Below w.heap.size w wr)) (fun _ _ v45 _ => n1 - (intOf v45).toNat)
  case atStart => exact ⟨0, rfl, ⟨Nat.zero_le _⟩, HS0, HB2⟩
  case round =>
    obtain ⟨i, rfl, HIle, HPI, HBr⟩ := hrel
    by_cases hlt : i < n1
    · have hr1 := HRow.out
      rw [← HN1.out] at hr1
      have hC := Kd.C_below hr1 HBr.out
      obtain ⟨ad, eA, x0, x1, x2, x3, x4⟩ := at_T36 hC (i : Int) (by omega) (by omega)
      obtain ⟨x, hx⟩ : ∃ x, x = rd_T36 l1 (i : Int) := ⟨_, rfl⟩
      rw [← hx] at x0 x1 x2 x3 x4
      have hlt' := hlt
      rw [HN1.out] at hlt'
      have hxm : x ∈ l1 := by
        rw [hx]; unfold rd_T36
        rw [Int.toNat_natCast, List.getD_eq_getElem?_getD, List.getElem?_eq_getElem hlt']
        exact List.getElem_mem hlt'
      have HXok := Aside0.mk (HOk.out x hxm)
      cases eA
      rw [Int.toNat_natCast] at x0 x1 x2 x3 x4
      have d3 : decide ((i : Int) < (n1 : Int)) = true := decide_eq_true (by omega)
      have d4 : (0 : Int) ≤ (i : Int) := by omega
      have d5 : (i : Int) < (n1 : Int) := by omega
      clear hr1 hC hx hlt' hxm
      go_upto_block 2 with ((with_reducible refine gate_dst (N := 10) rfl ?_); refine box_event ?hg (N := 10) ?hd (cs := #[.int .i64 0, .int .i64 0, .int .i64 0, .string (⟨#[]⟩ : ByteArray), .int .i64 0]) (t := 36) ?hr ?_; (case hd => rfl); (case hg => rfl); (case hr => first | (go_simp; done) | (go_simp; rfl)); intro gb hgb w6 hx6 hb6; have HGB := Aside0.mk hgb; have HB6 := Aside0.mk hb6; have HX6 := Aside0.mk hx6; obtain ⟨⟨e0, e1, e2, e3, e4⟩, f0, f1, f2, f3, f4⟩ := cells5 hx6; clear hx6 hgb hb6)
      obtain ⟨w7, hw7⟩ : ∃ w7, w7 = ((((w6.setCell ⟨gb, 0, none⟩ (.int .i64 x.f0)).setCell ⟨gb, 1, none⟩ (.int .i64 x.f1.f0)).setCell ⟨gb, 2, none⟩ (.int .i64 x.f1.f1)).setCell ⟨gb, 3, none⟩ (.string x.f2)).setCell ⟨gb, 4, none⟩ (.int .i64 x.f3) := ⟨_, rfl⟩
      have hgb := HGB.out
      have G7 : w7.heap[gb]? = some (.cells #[.int .i64 x.f0, .int .i64 x.f1.f0, .int .i64 x.f1.f1, .string x.f2, .int .i64 x.f3] 36 (0, 0)) := by rw [hw7]; exact blk_put (blk_put (blk_put (blk_put (blk_put HX6.out 0 _ rfl) 1 _ rfl) 2 _ rfl) 3 _ rfl) 4 _ rfl
      have hb7 : Below wr.heap.size wr w7 := by
        rw [hw7]
        exact Below.setCell (Below.setCell (Below.setCell (Below.setCell (Below.setCell HB6.out (p := ⟨gb, 0, none⟩) (by show _ ≤ gb; omega) _) (p := ⟨gb, 1, none⟩) (by show _ ≤ gb; omega) _) (p := ⟨gb, 2, none⟩) (by show _ ≤ gb; omega) _) (p := ⟨gb, 3, none⟩) (by show _ ≤ gb; omega) _) (p := ⟨gb, 4, none⟩) (by show _ ≤ gb; omega) _
      rw [← hw7]
      obtain ⟨U, Q, keep, hit, miss, E, hS, hL⟩ := HPI.out
      obtain ⟨keepX, hkx⟩ : ∃ K : Nat → Prop, K = fun k => keep k ∨ (wr.heap.size ≤ k ∧ k < w7.heap.size) := ⟨_, rfl⟩
      have hS7 : LastS w g r r i u7 u8 U Q keepX hit miss E w7 := by rw [hkx]; exact hS.step hb7
      have HS7 := Aside0.mk hS7
      have HL7 := Aside0.mk hL
      have HKB := Aside0.mk (show keepX gb by rw [hkx]; exact .inr ⟨by omega, blk_lt G7⟩)
      have HN7 := Aside0.mk (show ∀ k, wr.heap.size ≤ k → some k ≠ u7.ownBlock from fun k hk e => by have := hS.lt (hS.row7.1 k e.symm); omega)
      have HN8 := Aside0.mk (show ∀ k, wr.heap.size ≤ k → some k ≠ u8.ownBlock from fun k hk e => by have := hS.lt (hS.row8.1 k e.symm); omega)
      have HZ7 := Aside0.mk hb7.size
      have HG7 := Aside0.mk G7
      clear hw7 hgb hb7 hS hL hkx hS7 G7 e0 e1 e2 e3 e4 f0 f1 f2 f3 f4 x0 x1 x2 x3 x4
      obtain ⟨⟨y0, y1, y2, y3, y4⟩, _⟩ := cells5 HG7.out
      by_cases k0 : x.f0 = 0
      · go_upto_region 14 with (go_at_call 10; refine (HS7.out.inv.put (by have h1 := HS7.out.lenE; have h2 := HR2.out; omega) (x.f1.f0, x.f1.f1) (pl_ok _ _ HXok.out) x.f2).mono ?_; rintro e w8 ⟨rfl, hi, hl⟩; have HI8 := Aside0.mk hi; have HL8 := Aside0.mk hl; clear hi hl)
        have hG8 := (HL8.out.block gb HKB.out).trans HG7.out
        have HG8 := Aside0.mk hG8
        have HS8 := Aside0.mk (HS7.out.leaves HI8.out HL8.out (by have := putE_le (room := (r : Int)) (E := E) (x.f1.f0, x.f1.f1) x.f2 (by have := HR1.out; omega) (by have := HS7.out.lenE; omega); omega) HS7.out.hits HS7.out.miss)
        have HZ8 := Aside0.mk (show wr.heap.size ≤ w8.heap.size from Nat.le_trans HZ7.out HL8.out.size)
        have HKey := Aside0.mk (fun (W : World) (hW : W.heap[gb]? = some (.cells #[.int .i64 x.f0, .int .i64 x.f1.f0, .int .i64 x.f1.f1, .string x.f2, .int .i64 x.f3] 36 (0, 0))) => (cells5 hW).1)
        clear y0 y1 y2 y3 y4 hG8
        obtain ⟨y0, y1, y2, y3, y4⟩ := HKey.out w8.drew HG8.out
        go_region_held3 (fun w' => w'.cell? ⟨gb, 0, none⟩ = some (.int .i64 x.f0) ∧ w'.cell? ⟨gb, 1, none⟩ = some (.int .i64 x.f1.f0) ∧ w'.cell? ⟨gb, 2, none⟩ = some (.int .i64 x.f1.f1) ∧ w'.cell? ⟨gb, 3, none⟩ = some (.string x.f2) ∧ w'.cell? ⟨gb, 4, none⟩ = some (.int .i64 x.f3))
          (first
            | (refine ⟨?_, ?_, ?_, ?_, ?_⟩ <;> assumption)
            | exact HKey.out _ (by first | exact HGX.out | exact blk_alloc HGX.out _)
            | exact HKey.out _ (by repeat (first | exact HG8.out | apply blk_alloc | apply blk_drew)))
          (first
            | (refine Kd.R_append_rows_step k34 (w0 := w) w.heap.size rfl (.tmp 59) (.tmp 62) 49 34 (.agg #[.int .i64 0, .int .i64 0]) 16 rfl Try.underlying49 info34 rfl (by decide) (by decide) u7 (U.map toP) [toP (x.f1.f0, x.f1.f1)] _ _ _ (fun k => keepX k ∨ w8.heap.size ≤ k) (fun _ => False) rfl rfl ?aO ?aR (fun _ _ h => h) (fun _ h => h.elim) ?aF ?aB ?aS ?aL ?_; (case aO => exact Kd.R_mono (Kd.R_below HS8.out.row7 (by repeat (first | exact Below.refl _ _ | apply below_alloc | apply below_drew))) (fun k hk => .inl hk)); (case aR => first | exact (Kd.R_reads' (lit_places (base := 0) [(x.f1.f0, x.f1.f1)] (cs := #[.int .i64 x.f1.f0, .int .i64 x.f1.f1]) rfl (blk_drew (blk_new w8 _)) (Nat.zero_le _) (by simp))).2.2 | exact (Kd.R_reads' (lit_places (base := 0) [(x.f1.f0, x.f1.f1)] (cs := #[.int .i64 x.f1.f0, .int .i64 x.f1.f1]) rfl (blk_drew (blk_alloc (blk_new w8 _) _)) (Nat.zero_le _) (by simp))).2.2 | exact (Kd.R_reads' (lit_places (base := 0) [(x.f1.f0, x.f1.f1)] (cs := #[.int .i64 x.f1.f0, .int .i64 x.f1.f1]) rfl (show (World.drew _).heap[w8.heap.size + 1]? = _ from by rw [show w8.heap.size + 1 = (w8.alloc (.cells #[.int .i64 0, .int .i64 x.f1.f0, .int .i64 x.f1.f1, .string x.f2, .int .i64 x.f3] 36)).heap.size from by simp]; exact blk_drew (blk_new _ _)) (Nat.zero_le _) (by simp))).2.2); (case aF => exact fun k hk => .inr (Nat.le_trans (Below.size (show Below w8.heap.size w8 _ from (by repeat (first | exact Below.refl _ _ | apply below_alloc | apply below_drew)))) hk)); (case aB => exact HS8.out.inv.below.trans (Below.mono (by repeat (first | exact Below.refl _ _ | apply below_alloc | apply below_drew)) HS8.out.inv.below.size)); (case aS => exact Nat.le_trans HS8.out.inv.below.size (Below.size (show Below w8.heap.size w8 _ from (by repeat (first | exact Below.refl _ _ | apply below_alloc | apply below_drew))))); (case aL => have h1 := HS8.out.lenU; have h2 := HIle.out; have h3 := HN.out; rw [List.length_map]; omega); intro v1 W1 ho hb1 hg hat; have HGX := Aside0.mk ((hg.block gb (Nat.lt_of_lt_of_le (blk_lt HG8.out) (Below.size (show Below w8.heap.size w8 _ from (by repeat (first | exact Below.refl _ _ | apply below_alloc | apply below_drew))))) (HN7.out gb (by have := HGB.out; omega))).trans (by repeat (first | exact HG8.out | apply blk_alloc | apply blk_drew))); have HS9 := Aside0.mk ((HS8.out.mono (Nat.le_succ i)).used (by repeat (first | exact Below.refl _ _ | apply below_alloc | apply below_drew)) ho hb1 hg (by have := HS8.out.lenU; omega)); have HGR := Aside0.mk hg; clear hat ho hb1 hg)
            | (refine Kd.R_append_rows_step k36 (w0 := w) w.heap.size rfl (.tmp 64) (.tmp 66) 22 36 (.agg #[.int .i64 0, .int .i64 0, .int .i64 0, .string ⟨#[]⟩, .int .i64 0]) 48 rfl Try.underlying22 infoAct rfl (by decide) (by decide) u8 Q [x] _ _ _ (fun k => (keepX k ∨ (w8.heap.size ≤ k ∧ k < W1.heap.size)) ∨ W1.heap.size ≤ k) (fun _ => False) rfl rfl ?aO ?aR (fun _ _ h => h) (fun _ h => h.elim) ?aF ?aB ?aS ?aL ?_; (case aO => exact Kd.R_mono (Kd.R_below HS9.out.row8 (by repeat (first | exact Below.refl _ _ | apply below_alloc | apply below_drew))) (fun k hk => .inl hk)); (case aR => first | exact (Kd.R_reads' (lit_act (base := 0) (x := x) (a := 0) (blk_new W1 _) k0.symm (Nat.zero_le _))).2.2 | exact (Kd.R_reads' (lit_act (base := 0) (x := x) (a := 0) ((HGR.out.block (w8.heap.size + 1) (by simp) (HN7.out (w8.heap.size + 1) (by have h := HZ8.out; omega))).trans (show (World.drew _).heap[w8.heap.size + 1]? = _ from by rw [show w8.heap.size + 1 = (w8.alloc (.cells #[.int .i64 x.f1.f0, .int .i64 x.f1.f1] 34)).heap.size from by simp]; exact blk_drew (blk_new _ _))) k0.symm (Nat.zero_le _))).2.2 | exact (Kd.R_reads' (lit_act (base := 0) (x := x) (a := 0) ((HGR.out.block w8.heap.size (by simp; omega) (HN7.out w8.heap.size HZ8.out)).trans (blk_drew (blk_alloc (blk_new w8 _) _))) k0.symm (Nat.zero_le _))).2.2); (case aF => exact fun k hk => .inr (Nat.le_trans (Below.size (show Below W1.heap.size W1 _ from (by repeat (first | exact Below.refl _ _ | apply below_alloc | apply below_drew)))) hk)); (case aB => exact HS9.out.inv.below.trans (Below.mono (by repeat (first | exact Below.refl _ _ | apply below_alloc | apply below_drew)) HS9.out.inv.below.size)); (case aS => exact Nat.le_trans HS9.out.inv.below.size (Below.size (show Below W1.heap.size W1 _ from (by repeat (first | exact Below.refl _ _ | apply below_alloc | apply below_drew))))); (case aL => have h1 := HS8.out.lenQ; have h2 := HIle.out; have h3 := HN.out; omega); intro v2 W2 ho hb1 hg hat; have HGY := Aside0.mk ((hg.block gb (Nat.lt_of_lt_of_le (blk_lt HGX.out) (Below.size (show Below W1.heap.size W1 _ from (by repeat (first | exact Below.refl _ _ | apply below_alloc | apply below_drew))))) (HN8.out gb (by have := HGB.out; omega))).trans (by repeat (first | exact HGX.out | apply blk_alloc | apply blk_drew))); have HGX := HGY; have HS10 := Aside0.mk (HS9.out.puts (by repeat (first | exact Below.refl _ _ | apply below_alloc | apply below_drew)) ho hb1 hg (by have := HS8.out.lenQ; omega)); clear hat ho hb1 hg))
        all_goals
          go_wp2
          go_roundw
          case rel => exact ⟨i + 1, by go_num, ⟨by omega⟩, ⟨_, _, _, _, _, _, HS10.out, HL7.out.put rfl HR1.out HS7.out.lenE x⟩, ⟨HS10.out.inv.below⟩⟩
          case measure => simp [intOf]; omega
      · by_cases k1 : x.f0 = 1
        · clear k0
          have hbd : (0 ≤ hit ∧ hit ≤ 1000000) ∧ (0 ≤ miss ∧ miss ≤ 1000000) := by have h1 := HS7.out.hits; have h2 := HS7.out.miss; have h3 := HIle.out; have h4 := HN.out; omega
          have HBD := Aside0.mk hbd
          clear hbd
          go_upto_region 17 with (go_at_call 12; refine (HS7.out.inv.get HBD.out.1 HBD.out.2 (x.f1.f0, x.f1.f1) (pl_ok _ _ HXok.out)).mono ?_; rintro e w8 ⟨E8, s8, is8, hit8, miss8, rfl, hg8, hi, hl⟩; have HI8 := Aside0.mk hi; have HL8 := Aside0.mk hl; have HGE := Aside0.mk hg8; clear hi hl hg8)
          have hG8 := (HL8.out.block gb HKB.out).trans HG7.out
          have HG8 := Aside0.mk hG8
          obtain ⟨hle, hor⟩ := getE_le E _ hit miss HGE.out
          have hS8 : LastS w g r r (i + 1) u7 u8 U Q keepX hit8 miss8 E8 w8 := (HS7.out.mono (Nat.le_succ i)).leaves HI8.out HL8.out (by have := HS7.out.lenE; omega) (by have := HS7.out.hits; have := HS7.out.miss; omega) (by have := HS7.out.hits; have := HS7.out.miss; omega)
          have hS8i : LastS w g r r i u7 u8 U Q keepX hit8 miss8 E8 w8 ∨ True := .inr trivial
          have HS8 := Aside0.mk hS8
          have HZ8 := Aside0.mk (show wr.heap.size ≤ w8.heap.size from Nat.le_trans HZ7.out HL8.out.size)
          have hcase := HL7.out.get HR1.out HS7.out.lenE HGE.out
          clear hle hor hS8 hS8i y0 y1 y2 y3 y4
          rcases hcase with ⟨his, hE8⟩ | ⟨his, hL8, htx⟩
          · subst his
            have HE8 := Aside0.mk hE8
            clear hE8 hG8
            go_wp2
            go_roundw
            case rel => exact ⟨i + 1, by go_num, ⟨by omega⟩, ⟨U, Q, keepX, hit8, miss8, E8, HS8.out, by rw [HE8.out]; exact HL7.out⟩, ⟨HS8.out.inv.below⟩⟩
            case measure => simp [intOf]; omega
          · subst his
            have HL8' := Aside0.mk hL8
            have HTX := Aside0.mk htx
            obtain ⟨A8, c8, e8⟩ := Kd.R_slice HS8.out.row8
            clear hL8 htx
            obtain ⟨⟨y0, y1, y2, y3, y4⟩, _⟩ := cells5 hG8
            clear hG8
            go_upto_region 19 with ((with_reducible refine gate_builtin (b := .append) (xs := #[.tmp 79, .tmp 82]) rfl ?_); at_builtin; refine Kd.R_append_rows k34 (w0 := w) w.heap.size rfl (.tmp 79) (.tmp 82) 49 34 (.agg #[.int .i64 0, .int .i64 0]) 16 rfl Try.underlying49 info34 rfl (by decide) (by decide) u7 (U.map toP) [toP (x.f1.f0, x.f1.f1)] _ _ _ (fun k => keepX k ∨ w8.heap.size ≤ k) (fun _ => False) rfl rfl ?aO ?aR (fun _ _ h => h) (fun _ h => h.elim) ?aF ?aB ?aS ?aL ?_; (case aO => exact Kd.R_mono (Kd.R_alloc HS8.out.row7 _) (fun k hk => .inl hk)); (case aR => exact (Kd.R_reads' (lit_places (base := 0) [(x.f1.f0, x.f1.f1)] (cs := #[.int .i64 x.f1.f0, .int .i64 x.f1.f1]) rfl (blk_new w8 _) (Nat.zero_le _) (by simp))).2.2); (case aF => exact fun k hk => .inr (Nat.le_trans (by simp) hk)); (case aB => exact below_alloc HS8.out.inv.below _); (case aS => exact (below_alloc HS8.out.inv.below _).size); (case aL => have h1 := HS8.out.lenU; have h2 := HIle.out; have h3 := HN.out; rw [List.length_map]; omega); intro v1 W1 ho hb1 hg hat; have HGX := Aside0.mk ((hg.block gb (Nat.lt_of_lt_of_le (blk_lt HG8.out) (by simp)) (HN7.out gb (by have := HGB.out; omega))).trans (blk_alloc HG8.out _)); have HUR := Aside0.mk ho; have HUB := Aside0.mk hb1; have HUG := Aside0.mk hg; clear hat ho hb1 hg)
            subst e8
            have HS9 := Aside0.mk (HS8.out.used (below_alloc (Below.refl _ _) _) HUR.out HUB.out HUG.out (by have := HS7.out.lenU; omega))
            clear HUR HUB HUG y0 y1 y2 y3 y4
            have hQ9 : Q.length ≤ 100 := by have h1 := HS7.out.lenQ; have h2 := HIle.out; have h3 := HN.out; omega
            have HQ9 := Aside0.mk hQ9
            have q1 : (0 : Int) ≤ (Q.length : Int) := by omega
            have q2 : (Q.length : Int) ≤ 100 := by omega
            clear hQ9
            go_wp2
            go_loopw [13] (fun v13 wz => ∃ z : Nat, v13 = .int .i64 ((z : Int) - 1) ∧ Aside0 (z ≤ Q.length) ∧ Aside0 (∀ m (hm : m < Q.length), z ≤ m → (Q[m].f1.f0, Q[m].f1.f1) ≠ (x.f1.f0, x.f1.f1)) ∧ Aside0 (Below W1.heap.size W1 wz)) (fun v13 _ => (intOf v13 + 1).toNat)
            case atStart => exact ⟨Q.length, rfl, ⟨Nat.le_refl _⟩, ⟨fun m hm h => by omega⟩, ⟨Below.refl _ _⟩⟩
            case round =>
              obtain ⟨z, rfl, HZ, HNo, HBz⟩ := hrel
              rcases Nat.eq_zero_or_pos z with rfl | hz
              · have e1 : ((0 : Nat) : Int) - 1 = -1 := by omega
                rw [e1]
                clear e1
                go_wp2
                go_roundw
                case rel => exact ⟨i + 1, by go_num, ⟨by omega⟩, ⟨U ++ [(x.f1.f0, x.f1.f1)], Q, _, hit8, miss8, E8, HS9.out.step HBz.out, HL8'.out⟩, ⟨HS9.out.inv.below.trans (HBz.out.mono HS9.out.inv.below.size)⟩⟩
                case measure => simp [intOf]; omega
              · obtain ⟨j, rfl⟩ : ∃ j, z = j + 1 := ⟨z - 1, by omega⟩
                have e1 : ((j + 1 : Nat) : Int) - 1 = (j : Int) := by omega
                have hj : j < Q.length := HZ.out
                have t1 : (0 : Int) ≤ (j : Int) := by omega
                have t2 : (j : Int) < (Q.length : Int) := by omega
                have hrow := (Kd.R_reads' (Kd.R_below HS9.out.row8 HBz.out)).2.2
                obtain ⟨a8, eA8, y0, y1, y2, y3, y4⟩ := at_T36 hrow (j : Int) t1 t2
                obtain ⟨y, hy⟩ : ∃ y, y = rd_T36 Q (j : Int) := ⟨_, rfl⟩
                rw [← hy] at y0 y1 y2 y3 y4
                have hyQ : y = Q[j] := by rw [hy]; unfold rd_T36; simp [List.getD_eq_getElem?_getD, List.getElem?_eq_getElem hj]
                have HYQ := Aside0.mk hyQ
                cases eA8
                rw [Int.toNat_natCast] at y0 y1 y2 y3 y4
                have hgx := blk_below HGX.out HBz.out
                obtain ⟨⟨g0, g1, g2, g3, g4⟩, _⟩ := cells5 hgx
                have HJ := Aside0.mk hj
                clear hrow hy hyQ hgx hz
                rw [e1]
                clear e1
                have o0 : wr.drew.cell? (a8.add (j * 5)) = some (.int .i64 y.f0) := y0
                have o1 : wr.drew.cell? ⟨(a8.add (j * 5)).block, (a8.add (j * 5)).off + 1, none⟩ = some (.int .i64 y.f1.f0) := y1
                have o2 : wr.drew.cell? ⟨(a8.add (j * 5)).block, (a8.add (j * 5)).off + 2, none⟩ = some (.int .i64 y.f1.f1) := y2
                have o3 : wr.drew.cell? ⟨(a8.add (j * 5)).block, (a8.add (j * 5)).off + 3, none⟩ = some (.string y.f2) := y3
                have p1 : wr.drew.cell? ⟨gb, 1, none⟩ = some (.int .i64 x.f1.f0) := g1
                have p2 : wr.drew.cell? ⟨gb, 2, none⟩ = some (.int .i64 x.f1.f1) := g2
                go_upto_region 22 with (fail)
                by_cases hq : (y.f1.f0, y.f1.f1) = (x.f1.f0, x.f1.f1)
                · obtain ⟨h1, h2⟩ := Prod.mk.inj hq
                  have htxt : y.f2 = s8 := HTX.out y (by rw [HYQ.out]; exact find_rev HJ.out (fun m hm hlt2 => HNo.out m hm hlt2) (by rw [← HYQ.out]; exact hq))
                  clear hq
                  go_region_held3 (fun w' => w'.cell? ⟨(a8.add (j * 5)).block, (a8.add (j * 5)).off + 1, none⟩ = some (.int .i64 y.f1.f0) ∧ w'.cell? ⟨(a8.add (j * 5)).block, (a8.add (j * 5)).off + 2, none⟩ = some (.int .i64 y.f1.f1) ∧ w'.cell? ⟨gb, 1, none⟩ = some (.int .i64 x.f1.f0) ∧ w'.cell? ⟨gb, 2, none⟩ = some (.int .i64 x.f1.f1)) ((refine ⟨?_, ?_, ?_, ?_⟩ <;> assumption)) (fail)
                  go_wp2
                  go_roundw
                  case rel => exact ⟨i + 1, by go_num, ⟨by omega⟩, ⟨U ++ [(x.f1.f0, x.f1.f1)], Q, _, hit8, miss8, E8, HS9.out.step (HBz.out.drew), HL8'.out⟩, ⟨HS9.out.inv.below.trans (HBz.out.drew.mono HS9.out.inv.below.size)⟩⟩
                  case measure => simp [intOf]; omega
                · have hor : ¬ y.f1.f0 = x.f1.f0 ∨ (y.f1.f0 = x.f1.f0 ∧ ¬ y.f1.f1 = x.f1.f1) := by
                    by_cases e1 : y.f1.f0 = x.f1.f0
                    · exact .inr ⟨e1, fun e2 => hq (by rw [e1, e2])⟩
                    · exact .inl e1
                  have HNq := Aside0.mk hq
                  clear hq
                  rcases hor with h1 | ⟨h1, h2⟩
                  all_goals
                    go_region_held3 (fun w' => w'.cell? ⟨(a8.add (j * 5)).block, (a8.add (j * 5)).off + 1, none⟩ = some (.int .i64 y.f1.f0) ∧ w'.cell? ⟨(a8.add (j * 5)).block, (a8.add (j * 5)).off + 2, none⟩ = some (.int .i64 y.f1.f1) ∧ w'.cell? ⟨gb, 1, none⟩ = some (.int .i64 x.f1.f0) ∧ w'.cell? ⟨gb, 2, none⟩ = some (.int .i64 x.f1.f1)) ((refine ⟨?_, ?_, ?_, ?_⟩ <;> assumption)) (fail)
                    go_wp2
                    go_roundw
                    case rel => exact ⟨j, rfl, ⟨by omega⟩, ⟨fun m hm hle => by
                      by_cases e : m = j
                      · subst e; rw [← HYQ.out]; exact HNq.out
                      · exact HNo.out m hm (by omega)⟩, ⟨HBz.out.drew⟩⟩
                    case measure => first | (simp [intOf]; done) | (simp [intOf]; omega)
        · go_wp2
          go_roundw
          case rel => exact ⟨i + 1, by go_num, ⟨by omega⟩, ⟨U, Q, keepX, hit, miss, E, HS7.out.mono (Nat.le_succ i), HL7.out⟩, ⟨HS7.out.inv.below⟩⟩
          case measure => simp [intOf]; omega
    · have d3 : decide (((i : Nat) : Int) < (n1 : Int)) = false := decide_eq_false (by omega)
      obtain ⟨U, Q, keep, hit, miss, E, hS, hL⟩ := HPI.out
      have HS9 := Aside0.mk hS
      have HL9 := Aside0.mk hL
      have hU : U.length ≤ 100 := by have h1 := hS.lenU; have h2 := HIle.out; have h3 := HN.out; omega
      obtain ⟨A7, c7, e7⟩ := Kd.R_slice hS.row7
      rw [List.length_map] at e7
      subst e7
      have HU := Aside0.mk hU
      have q1 : (0 : Int) ≤ (U.length : Int) := by omega
      have q2 : (U.length : Int) ≤ 100 := by omega
      clear hS hL hU
      rename World => w9
      go_wp2
      go_loopw [14, 15] (fun v14 v15 wz => ∃ (j : Nat) (A : Option Addr) (c : Nat) (W : List Pl), v14 = .slice A W.length c ∧ v15 = .int .i64 ((U.length : Int) - 1 - j) ∧ Aside0 (W = wantU r U j) ∧ Aside0 (j ≤ U.length) ∧ Aside0 (Kd.R k34 34 wz w9.heap.size (fun _ => True) (.slice A W.length c) (W.map toP)) ∧ Aside0 (Below w9.heap.size w9 wz)) (fun _ v15 _ => (intOf v15 + 1).toNat)
      case atStart => exact ⟨0, none, 0, [], rfl, by simp, ⟨(wantU_zero r U).symm⟩, ⟨Nat.zero_le _⟩, ⟨Kd.R_nil _ _ _ _ _⟩, ⟨Below.refl _ _⟩⟩
      case round =>
        obtain ⟨j, A, c, W, rfl, rfl, HW, HJ, HWR, HBz⟩ := hrel
        have hwl : W.length ≤ r := by rw [HW.out]; unfold wantU; rw [List.length_take]; omega
        have HWC0 := (Kd.R_reads' HWR.out)
        rw [List.length_map] at HWC0
        have HWC := Aside0.mk HWC0.2.2
        have HWc := Aside0.mk HWC0.2.1
        clear HWC0
        by_cases hj : j < U.length
        · by_cases hw : W.length < r
          · rename World => wa
            obtain ⟨q, hq⟩ : ∃ q, q = U.length - 1 - j := ⟨_, rfl⟩
            have e1 : (U.length : Int) - 1 - j = (q : Int) := by omega
            have hqU : q < U.length := by omega
            have HQU := Aside0.mk hqU
            have HQ := Aside0.mk hq
            have HJL := Aside0.mk hj
            have HWL := Aside0.mk hw
            have t1 : (0 : Int) ≤ (q : Int) := by omega
            have t2 : (q : Int) ≤ 100 := by omega
            have t3 : (q : Int) < (U.length : Int) := by omega
            have t4 : (0 : Int) ≤ (W.length : Int) := by omega
            have t5 : (W.length : Int) < (r : Int) := by omega
            have t6 : (W.length : Int) ≤ 4096 := by have := HR2.out; omega
            have HUC := Aside0.mk (show Kd.C k34 wa A7 U.length (U.map toP) by
              have h := (Kd.R_reads' (Kd.R_below HS9.out.row7 HBz.out)).2.2
              rw [List.length_map] at h; exact h)
            obtain ⟨a7, eA7, u0, u1⟩ := at_T34 HUC.out (q : Int) t1 t3
            rw [rd_toP hqU] at u0 u1
            cases eA7
            rw [Int.toNat_natCast] at u0 u1
            obtain ⟨y, hy⟩ : ∃ y, y = U[q] := ⟨_, rfl⟩
            rw [← hy] at u0 u1
            have U0 : wa.cell? (a7.add (q * 2)) = some (.int .i64 y.1) := u0
            have U1 : wa.cell? ⟨(a7.add (q * 2)).block, (a7.add (q * 2)).off + 1, none⟩ = some (.int .i64 y.2) := u1
            have HU0 := Aside0.mk U0
            have HU1 := Aside0.mk U1
            have HY := Aside0.mk hy
            rw [e1]
            clear e1 hq hj hw hwl u0 u1 U0 U1 hy
            go_wp2
            go_loopw [16, 122] (fun v16 v122 wz => ∃ m : Nat, v122 = .int .i64 m ∧ v16 = .bool (decide (y ∈ W.take m)) ∧ Aside0 (m ≤ W.length) ∧ Aside0 (Below wa.heap.size wa wz)) (fun _ v122 _ => W.length - (intOf v122).toNat)
            case atStart => exact ⟨0, rfl, by simp, ⟨Nat.zero_le _⟩, ⟨Below.refl _ _⟩⟩
            case round =>
              obtain ⟨m, rfl, rfl, HM, HBm⟩ := hrel
              by_cases hm : m < W.length
              · have HMl := Aside0.mk hm
                have hrow := (Kd.R_reads' (Kd.R_below HWR.out HBm.out)).2.2
                rw [List.length_map] at hrow
                have m1 : (0 : Int) ≤ (m : Int) := by omega
                have m2 : (m : Int) < (W.length : Int) := by omega
                obtain ⟨a14, eA14, z0, z1⟩ := at_T34 hrow (m : Int) m1 m2
                rw [rd_toP hm] at z0 z1
                cases eA14
                rw [Int.toNat_natCast] at z0 z1
                obtain ⟨z, hz⟩ : ∃ z, z = W[m] := ⟨_, rfl⟩
                rw [← hz] at z0 z1
                have Z0 : wr.cell? (a14.add (m * 2)) = some (.int .i64 z.1) := z0
                have Z1 : wr.cell? ⟨(a14.add (m * 2)).block, (a14.add (m * 2)).off + 1, none⟩ = some (.int .i64 z.2) := z1
                have htk : W.take (m + 1) = W.take m ++ [z] := by rw [hz]; exact List.take_succ_eq_append_getElem hm
                have HTK := Aside0.mk htk
                clear z0 z1 hz htk hrow
                go_upto_region 34 with ((with_reducible refine gate_dst (N := 18) rfl ?_); refine box_event ?hg (N := 18) ?hd (cs := #[.int .i64 0, .int .i64 0]) (t := 34) ?hr ?_; (case hd => rfl); (case hg => rfl); (case hr => first | (go_simp; done) | (go_simp; rfl)); intro gx hgx wx hxx hbx; have HGX := Aside0.mk hgx; have HBX := Aside0.mk hbx; have HXX := Aside0.mk hxx; obtain ⟨⟨s0, s1⟩, s2, s3⟩ := cells2 hxx; clear hxx hgx hbx)
                obtain ⟨w18, hw18⟩ : ∃ w18, w18 = (wx.setCell ⟨gx, 0, none⟩ (.int .i64 z.1)).setCell ⟨gx, 1, none⟩ (.int .i64 z.2) := ⟨_, rfl⟩
                have hgx := HGX.out
                have X18 : w18.heap[gx]? = some (.cells #[.int .i64 z.1, .int .i64 z.2] 34 (0, 0)) := by rw [hw18]; exact blk_put (blk_put HXX.out 0 _ rfl) 1 _ rfl
                have hb18 : Below wr.heap.size wr w18 := by rw [hw18]; exact Below.setCell (Below.setCell HBX.out (p := ⟨gx, 0, none⟩) (by show _ ≤ gx; omega) _) (p := ⟨gx, 1, none⟩) (by show _ ≤ gx; omega) _
                have hB18 : Below wa.heap.size wa w18 := HBm.out.trans (hb18.mono HBm.out.size)
                have HB18 := Aside0.mk hB18
                rw [← hw18]
                have U0 : w18.drew.cell? (a7.add (q * 2)) = some (.int .i64 y.1) := (hB18.cell (World.block_lt_of_cell? wa _ HU0.out)).trans HU0.out
                have U1 : w18.drew.cell? ⟨(a7.add (q * 2)).block, (a7.add (q * 2)).off + 1, none⟩ = some (.int .i64 y.2) := (hB18.cell (World.block_lt_of_cell? wa _ HU1.out)).trans HU1.out
                obtain ⟨⟨V0, V1⟩, _⟩ := cells2 (W := w18.drew) X18
                clear hgx hw18 X18 hb18 hB18 s0 s1 s2 s3 Z0 Z1 hm
                by_cases hin : y ∈ W.take m
                · rw [decide_eq_true hin]
                  have HIN := Aside0.mk hin
                  clear hin
                  go_quiet ((fail))
                  all_goals
                   go_wp2
                   go_roundw
                   case rel => exact ⟨m + 1, by go_num, by rw [HTK.out, decide_eq_true (List.mem_append_left _ HIN.out)], ⟨HMl.out⟩, ⟨by first | exact pw_below_drewN HB18.out _ | exact HB18.out.drew⟩⟩
                   case measure => have hm := HMl.out; simp [intOf]; omega
                · rw [decide_eq_false hin]
                  have HIN := Aside0.mk hin
                  clear hin
                  by_cases hzy : z = y
                  · have HZY := Aside0.mk hzy
                    have h1 : z.1 = y.1 := by rw [hzy]
                    have h2 : z.2 = y.2 := by rw [hzy]
                    clear hzy
                    go_region_held3 (fun w' => w'.cell? ⟨gx, 0, none⟩ = some (.int .i64 z.1) ∧ w'.cell? ⟨gx, 1, none⟩ = some (.int .i64 z.2) ∧ w'.cell? (a7.add (q * 2)) = some (.int .i64 y.1) ∧ w'.cell? ⟨(a7.add (q * 2)).block, (a7.add (q * 2)).off + 1, none⟩ = some (.int .i64 y.2)) ((refine ⟨?_, ?_, ?_, ?_⟩ <;> assumption)) (fail)
                    go_wp2
                    go_roundw
                    case rel => exact ⟨m + 1, by go_num, by rw [HTK.out, decide_eq_true (List.mem_append_right _ (by rw [HZY.out]; simp))], ⟨HMl.out⟩, ⟨HB18.out.drew⟩⟩
                    case measure => have hm := HMl.out; simp [intOf]; omega
                  · have HZY := Aside0.mk hzy
                    have hor : ¬ z.1 = y.1 ∨ (z.1 = y.1 ∧ ¬ z.2 = y.2) := by
                      by_cases e1 : z.1 = y.1
                      · exact .inr ⟨e1, fun e2 => hzy (Prod.ext e1 e2)⟩
                      · exact .inl e1
                    clear hzy
                    rcases hor with h1 | ⟨h1, h2⟩
                    all_goals
                      go_region_held3 (fun w' => w'.cell? ⟨gx, 0, none⟩ = some (.int .i64 z.1) ∧ w'.cell? ⟨gx, 1, none⟩ = some (.int .i64 z.2) ∧ w'.cell? (a7.add (q * 2)) = some (.int .i64 y.1) ∧ w'.cell? ⟨(a7.add (q * 2)).block, (a7.add (q * 2)).off + 1, none⟩ = some (.int .i64 y.2)) ((refine ⟨?_, ?_, ?_, ?_⟩ <;> assumption)) (fail)
                      go_wp2
                      go_roundw
                      case rel => exact ⟨m + 1, by go_num, by rw [HTK.out, decide_eq_false (fun hm => by
                        rcases List.mem_append.1 hm with h' | h'
                        · exact HIN.out h'
                        · exact HZY.out (List.mem_singleton.1 h').symm)], ⟨HMl.out⟩, ⟨HB18.out.drew⟩⟩
                      case measure => have hm := HMl.out; simp [intOf]; omega
              · have hmW : m = W.length := by have := HM.out; omega
                subst hmW
                rw [List.take_length]
                have U0 : wr.cell? (a7.add (q * 2)) = some (.int .i64 y.1) := (HBm.out.cell (World.block_lt_of_cell? wa _ HU0.out)).trans HU0.out
                have U1 : wr.cell? ⟨(a7.add (q * 2)).block, (a7.add (q * 2)).off + 1, none⟩ = some (.int .i64 y.2) := (HBm.out.cell (World.block_lt_of_cell? wa _ HU1.out)).trans HU1.out
                have hsucc := wantU_succ (r := r) (U := U) (j := j) HJL.out (by rw [← HW.out]; exact HWL.out)
                rw [← HW.out] at hsucc
                have e3 : U[U.length - 1 - j]'(by have := HJL.out; omega) = y := by rw [HY.out]; congr 1; exact HQ.out.symm
                rw [e3] at hsucc
                by_cases hin : y ∈ W
                · have hd : decide (y ∈ W) = true := decide_eq_true hin
                  rw [if_pos hin] at hsucc
                  rw [hd]
                  have HSU := Aside0.mk hsucc
                  clear hd hin hsucc e3
                  go_wp2
                  go_roundw
                  case rel => exact ⟨j + 1, A, c, W, rfl, by have h1 := HQ.out; have h2 := HJL.out; congr 1; omega, ⟨HSU.out.symm⟩, ⟨HJL.out⟩, ⟨Kd.R_below HWR.out HBm.out⟩, ⟨HBz.out.trans (HBm.out.mono HBz.out.size)⟩⟩
                  case measure => first | (simp [intOf]; done) | (simp [intOf]; omega)
                · have hd : decide (y ∈ W) = false := decide_eq_false hin
                  rw [if_neg hin] at hsucc
                  rw [hd]
                  have HSU := Aside0.mk hsucc
                  clear hd hin hsucc e3
                  go_wp2_with ((with_reducible refine gate_builtin (b := .append) (xs := #[.tmp 138, .tmp 143]) rfl ?_); at_builtin; refine Kd.R_append_rows k34 (w0 := w9) w9.heap.size rfl (.tmp 138) (.tmp 143) 49 34 (.agg #[.int .i64 0, .int .i64 0]) 16 rfl Try.underlying49 info34 rfl (by decide) (by decide) (.slice A W.length c) (W.map toP) [toP y] _ _ _ (fun _ => True) (fun _ => False) rfl rfl ?aO ?aR (fun _ _ h => h) (fun _ h => h.elim) ?aF ?aB ?aS ?aL ?_; (case aO => exact Kd.R_alloc (Kd.R_below HWR.out HBm.out) _); (case aR => exact (Kd.R_reads' (lit_places (base := 0) [y] (cs := #[.int .i64 y.1, .int .i64 y.2]) rfl (blk_new wr _) (Nat.zero_le _) (by simp))).2.2); (case aF => exact fun _ _ => trivial); (case aB => exact below_alloc (HBz.out.trans (HBm.out.mono HBz.out.size)) _); (case aS => exact (below_alloc (HBz.out.trans (HBm.out.mono HBz.out.size)) _).size); (case aL => have h1 := HWL.out; have h2 := HR2.out; rw [List.length_map]; omega); intro v1 W1 ho hb1 hg hat; have HRN := Aside0.mk ho; have HBN := Aside0.mk hb1; clear hat ho hb1 hg)
                  go_roundw
                  case rel =>
                    have hR := HRN.out
                    rw [show W.map toP ++ [toP y] = (W ++ [y]).map toP from by rw [List.map_append]; rfl] at hR
                    obtain ⟨A2, c2, e2⟩ := Kd.R_slice hR
                    rw [List.length_map] at e2
                    rw [e2] at hR
                    exact ⟨j + 1, A2, c2, W ++ [y], e2, by have h1 := HQ.out; have h2 := HJL.out; congr 1; omega, ⟨HSU.out.symm⟩, ⟨HJL.out⟩, ⟨hR⟩, HBN⟩
                  case measure => first | (simp [intOf]; done) | (simp [intOf]; omega)
          · have hfull : W = E.map (·.1) := by rw [HL9.out.fst, HW.out]; exact wantU_full (by rw [← HW.out]; omega)
            have HEL := Aside0.mk (show W.length = E.length by rw [hfull, List.length_map])
            have HWC2 := Aside0.mk (show Kd.C k34 wr A E.length ((E.map (·.1)).map toP) by have h := HWC.out; rw [HEL.out, hfull] at h; exact h)
            have HWc2 := Aside0.mk (show E.length ≤ c by have h := HWc.out; rw [HEL.out] at h; exact h)
            clear hfull
            have e1 : (0 : Int) ≤ (U.length : Int) - 1 - j := by omega
            have e2 : (U.length : Int) - 1 - j ≤ 100 := by omega
            have hw2 : ¬ (W.length : Int) < (r : Int) := by omega
            clear hwl
            go_wp2_with (first
              | (go_at_call 18; refine ((HS9.out.inv.step (keep' := fun _ => False) HBz.out (fun k hk => hk.elim)).order (by have h1 := HS9.out.lenE; have h2 := HR2.out; omega)).mono ?_; rintro e w15 ⟨A15, c15, rfl, hc, hC, hb⟩; have HC15 := Aside0.mk hC; have HL15 := Aside0.mk hc; have HB15 := Aside0.mk hb; clear hc hC hb)
              | (go_at_call 17; rw [HEL.out]; refine (same_places (L := E.map (·.1)) (by rw [List.length_map]; have h1 := HS9.out.lenE; have h2 := HR2.out; omega) (by rw [List.length_map]) (Kd.F_now HC15.out) HL15.out (Kd.C_below HWC2.out HB15.out) HWc2.out).mono ?_; rintro e w16 ⟨rfl, hb⟩; have HB16 := Aside0.mk hb.below; clear hb))
            go_ret
            exact ⟨rfl, (HS9.out.inv.below.trans (HBz.out.mono HS9.out.inv.below.size)).trans ((HB15.out.trans (HB16.out.mono HB15.out.size)).mono (HS9.out.inv.below.trans (HBz.out.mono HS9.out.inv.below.size)).size)⟩
        · have hfull : W = E.map (·.1) := by
            rw [HL9.out.fst, HW.out]
            have : j = U.length := by have := HJ.out; omega
            rw [this]; exact wantU_all r U
          have HEL := Aside0.mk (show W.length = E.length by rw [hfull, List.length_map])
          have HWC2 := Aside0.mk (show Kd.C k34 wr A E.length ((E.map (·.1)).map toP) by have h := HWC.out; rw [HEL.out, hfull] at h; exact h)
          have HWc2 := Aside0.mk (show E.length ≤ c by have h := HWc.out; rw [HEL.out] at h; exact h)
          clear hfull
          have e1 : (U.length : Int) - 1 - j = -1 := by have := HJ.out; omega
          rw [e1]
          clear e1 hwl hj
          go_wp2_with (first
            | (go_at_call 18; refine ((HS9.out.inv.step (keep' := fun _ => False) HBz.out (fun k hk => hk.elim)).order (by have h1 := HS9.out.lenE; have h2 := HR2.out; omega)).mono ?_; rintro e w15 ⟨A15, c15, rfl, hc, hC, hb⟩; have HC15 := Aside0.mk hC; have HL15 := Aside0.mk hc; have HB15 := Aside0.mk hb; clear hc hC hb)
            | (go_at_call 17; rw [HEL.out]; refine (same_places (L := E.map (·.1)) (by rw [List.length_map]; have h1 := HS9.out.lenE; have h2 := HR2.out; omega) (by rw [List.length_map]) (Kd.F_now HC15.out) HL15.out (Kd.C_below HWC2.out HB15.out) HWc2.out).mono ?_; rintro e w16 ⟨rfl, hb⟩; have HB16 := Aside0.mk hb.below; clear hb))
          go_ret
          exact ⟨rfl, (HS9.out.inv.below.trans (HBz.out.mono HS9.out.inv.below.size)).trans ((HB15.out.trans (HB16.out.mono HB15.out.size)).mono (HS9.out.inv.below.trans (HBz.out.mono HS9.out.inv.below.size)).size)⟩
theorem caulklaw36_CacheLast.calls (k : Nat) (a0 : Int) (A1 : Option Addr) (c1 : Nat) (l1 : List S36) (r : Bool) (w : World) (hr1 : Kd.C k36 w A1 l1.length l1) (hc1 : l1.length ≤ c1) (h : caulklaw36_CacheLast.f k a0 l1 = some r) :
    Calls Try.prog 4 #[.int .i64 a0, .slice A1 l1.length c1] w fun e w' => e = .returned (.bool r) ∧ Below w.heap.size w w' := by
  unfold caulklaw36_CacheLast.f at h
  by_cases hok : actsOk l1
  · rw [if_pos hok] at h
    obtain rfl := Option.some.inj h
    by_cases h1 : a0 < 1 ∨ 4096 < a0
    · exact lasts_none a0 A1 c1 l1.length w h1
    · by_cases hn : l1.length ≤ 100
      · have e : a0 = ((a0.toNat : Nat) : Int) := by omega
        rw [e]
        exact lasts_ok a0.toNat A1 c1 l1 w (by omega) (by omega) hr1 hok hn
      · exact lasts_many a0 A1 c1 l1.length w (by omega) (by omega) (by omega)
  · rw [if_neg hok] at h; cases h
end Go.Proofs.Ytoglapodcejocaa.G
