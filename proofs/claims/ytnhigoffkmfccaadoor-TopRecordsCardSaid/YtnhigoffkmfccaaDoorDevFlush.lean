/- A device's land, Flush over this seat's program. Conditions: each lemma's own. -/
import Derived.Test.YtnhigoffkmfccaaDoorCluWrite
import Derived.Maps.RangeWalk
import Derived.StillTailTactics
namespace Go.Proofs.YtnhigoffkmfccaaDoor.G
open Go.RowKit Go.Shelf Go.ChangeMaps Go.MapKept Go.Proofs.YtnhigoffkmfccaaDoorW.PrintWords Go.Proofs.YtnhigoffkmfccaaDoorW.PrintLast Go.Proofs.YtnhigoffkmfccaaDoorW.PrintMore
set_option linter.unusedVariables false
set_option linter.unusedSimpArgs false
/-- clear, where its run is known. -/
theorem clear_known {P : Program} {ops : Array Oper} {rest : List Oper} {o : Oper} {a : Act} {Q : Exit → Act → World → Prop} {W : World} (hg : o.guard = none) (m : Operand) (t : TypeId) (ho : o.op = .call { callee := .builtin .clear, args := #[m], argTypes := #[t] }) (v : Value) (hm : a.eval m = v) {v' : Value} {w' : World} (hr : (Builtin.clear_ #[t] o.type #[v]).run P W = .ok v' w')
    (h : wpList P ops Q rest (a.put o.dst v') w') : wpList P ops Q (o :: rest) a W := by
  refine wpList_plain hg fun K hK => ?_
  unfold Oper.wp
  simp [execOp, ho, resolve, invoke, builtin, hm, hr, Result.andThen]
  exact hK _ _ h
theorem run_clear {P : Program} {W : World} {b clock : Nat} {es : Array MapEntry} (hb : W.heap[b]? = some (.map es clock)) (t ty k e : TypeId) (ht : P.underlying t = some (.map k e)) : (Builtin.clear_ #[t] ty #[.map (some b)]).run P W = .ok (.tuple #[]) (setBlock W b (.map #[] clock)) := by
  simp [Builtin.clear_, run_underlying ht, Go.MapKept.run_getObj_map hb, Go.MapKept.run_setObj_map _ hb, Result.andThen, setBlock]
set_option maxRecDepth 100000 in
set_option maxHeartbeats 4000000 in
/-- What was written to a sector becomes sure. -/
theorem land_calls {w : World} {g gs n cap gm gb i : Nat} {s v0 : ByteArray} (c0 : w.cell? ⟨g, 0, none⟩ = some (.slice (some ⟨gs, 0, none⟩) n cap)) (c1 : w.cell? ⟨g, 1, none⟩ = some (.map (some gm))) (c2 : w.cell? ⟨g, 2, none⟩ = some (.map (some gb))) (hi : i < n) (hn : n ≤ 32768)
    (hL : (Instr.lookup 73 (.map (some gm)) (.int .i64 i) false).run Tryd.prog w.drew = .ok (.string s) w.drew) (hc : w.cell? ⟨gs, i, none⟩ = some (.string v0)) (hz : w.frozen? ⟨gs, i, none⟩ = false) (hgb : MapB w gb) (hne : g ≠ gs) (hne2 : gb ≠ gs) :
    Calls Tryd.prog 38 #[.pointer (some ⟨g, 0, none⟩), .int .i64 i] w fun e w' => e = .returned (.tuple #[]) ∧ MapB w' gb ∧ (w.setCell ⟨gs, i, none⟩ (.string s)).drew.mapTurned w' gb := by
  have hb1 : MapB (w.setCell ⟨gs, i, none⟩ (.string s)).drew gb := hgb.same (Below.heap_setCell _ _ _ _ hne2)
  obtain ⟨w2, hrun, ho, ht⟩ := World.ownsMap.drop (H := Unit) hb1 keyed3 Tryd.underlying74 (key3 (show i < 1099511627776 by omega)) 0
  have e0 : (DataW.map [] : DataW Unit).del (.int .i64 (i : Int)) = .map [] := Go.Maps.del_of_not_has rfl
  rw [e0] at ho
  have HO := Aside0.mk ho
  have HT := Aside0.mk ht
  have d0 : w.drew.cell? ⟨g, 0, none⟩ = some (.slice (some ⟨gs, 0, none⟩) n cap) := c0
  have d1 : w.drew.cell? ⟨g, 1, none⟩ = some (.map (some gm)) := c1
  have dc : w.drew.cell? ⟨gs, i, none⟩ = some (.string v0) := hc
  have dz : w.drew.frozen? ⟨gs, i, none⟩ = false := hz
  have d2 : (w.setCell ⟨gs, i, none⟩ (.string s)).drew.cell? ⟨g, 2, none⟩ = some (.map (some gb)) := (World.cell?_of_block (w := w) (a := ⟨g, 2, none⟩) (Below.heap_setCell w ⟨gs, i, none⟩ _ _ hne)).trans c2
  have b1 : (i : Int) < (n : Int) := by omega
  have b2 : ¬ ((i : Int) < 0) := by omega
  have b3 : (0 : Int) ≤ (i : Int) := by omega
  clear ho ht hb1 hgb hne hne2 c0 c1 c2 hc hz hn e0 hi
  go_enter Tryd.func38, Tryd.ntmps38
  go_wp2
  go_still_tail 12, (by kernel_rfl)
  go_wp2
  go_end0
  exact ⟨rfl, HO.out, HT.out⟩
theorem some_nat {x : Int} {i : Nat} (h : (Lit.int .i64 x) = .int .i64 (i : Int)) : x = (i : Int) := by injection h
theorem ranges_same {H : Type} {P : Program} {k : TypeId} {R : Value → Option (DataW H × List MemPlace)} {w w' : World} {b r n : Nat} {D : DataW H} {left : Lit → Bool} {cnt : Nat} (h : w.ranges P k R b r n D left cnt) (h1 : w'.heap[b]? = w.heap[b]?) (h2 : w'.heap[r]? = w.heap[r]?) : w'.ranges P k R b r n D left cnt := by
  obtain ⟨es, clock, since, seen, c0, hb, F, hs, hD, hr, rest⟩ := h
  exact ⟨es, clock, since, seen, c0, h1.trans hb, F, hs, hD, h2.trans hr, rest⟩
/-- Between two rounds of Flush's loop: what is left is still to come. -/
structure FlushI (P : Nat → Prop) (g n c gs cap gm gb : Nat) (S : Nat → ByteArray) (F : Nat → Option ByteArray) (wv : Int) (w : World) (D : DataW Unit) (left : Lit → Bool) (cnt : Nat) (W : World) : Prop where
  g : W.heap[g]? = some (.cells #[.slice (some ⟨gs, 0, none⟩) n cap, .map (some gm), .map (some gb), .bool false, .int .i64 (-1), .int .i64 wv] 76 (0, 0))
  s : ∃ cur, W.heap[gs]? = some (.cells cur 9 (0, 0)) ∧ ∀ i, i < n → cur[i]? = some (.string (if left (.int .i64 (i : Int)) then S i else (F i).getD (S i)))
  m : W.ranges Tryd.prog 3 (plainElem Tryd.prog 9) gm w.heap.size c D left cnt
  b : MapB W gb
  l : ∀ kl, left kl = true → Go.Maps.has D kl = true
  k : KeptBut P w W
set_option maxRecDepth 100000 in
set_option maxHeartbeats 4000000 in
/-- What was written becomes sure. -/
theorem flush_calls {P : Nat → Prop} {w : World} {g n c : Nat} {f : Nat → ByteArray} (h : Dev P w g n c f) :
    Calls Tryd.prog 18 #[.pointer (some ⟨g, 0, none⟩)] w fun e w' => e = .returned (.int .i64 0) ∧ DevF P w' g n c f (fun _ => none) ∧ KeptBut P w w' := by
  have HBn := Aside0.mk (burn_calls h)
  obtain ⟨gs, cap, gm, gb, cur, S, F, wr, hX, hq⟩ := h
  obtain ⟨c0, c1, c2, c3, c4, c5, z5, cS⟩ := hX.cells
  obtain ⟨h1, h2, h3, h4, h5, h6, h7, h8, h9, h10⟩ := hX
  obtain ⟨D, hown, hmap, hD, hkeys⟩ := h4
  have HOwn := Aside0.mk hown
  clear c0 c2 c4 c5 z5 cS
  go_enter Tryd.func18, Tryd.ntmps18
  go_wp2_with (first
    | (go_at_call 37; (with_reducible refine HBn.out.mono ?_); rintro e w1 ⟨rfl, hww⟩; obtain rfl := hww)
    | (at_range; refine wpList_range_own _ rfl _ 73 rfl 3 9 keyed3 Tryd.underlying73 _ gm c D rfl HOwn.out ?_; intro w0 hrg0 hg0 hs0))
  go_frame
  have hgw := blk_lt h1
  have hgsw := blk_lt h2
  have hgmw := hown.lt
  have hgbw := World.ownsMap.lt h5
  have hg_gm : g ≠ gm := fun e => by obtain ⟨es, cl, q, -⟩ := id hown; rw [← e, h1] at q; cases q
  have hg_gs : g ≠ gs := fun e => by rw [e, h2] at h1; cases h1
  have hg_gb : g ≠ gb := fun e => by obtain ⟨es, cl, q, -⟩ := id h5; rw [← e, h1] at q; cases q
  have hgs_gm : gs ≠ gm := fun e => by obtain ⟨es, cl, q, -⟩ := id hown; rw [← e, h2] at q; cases q
  have hgs_gb : gs ≠ gb := fun e => by obtain ⟨es, cl, q, -⟩ := id h5; rw [← e, h2] at q; cases q
  have old : ∀ k, k < w1.heap.size → w0.heap[k]? = w1.heap[k]? := fun k hk => hg0.block k hk (by simp)
  have hI0 : FlushI P g n c gs cap gm gb S F wr w1 D (Go.Maps.has D) (Go.Maps.size D) w0 := ⟨(old g hgw).trans h1, ⟨cur, (old gs hgsw).trans h2, fun i hi => by
    rw [h3 i hi]
    have := (hD i (by omega)).1
    rw [this]
    cases hF : F i <;> simp⟩, hrg0, h5.same (old gb hgbw), fun kl h => h, ⟨hg0.os, hg0.tape, hg0.output, hg0.size, fun k hk _ => old k hk⟩⟩
  have HI0 := Aside0.mk hI0
  have H6 := Aside0.mk h6
  have H10 := Aside0.mk h10
  have HD := Aside0.mk hD
  have HKeys := Aside0.mk hkeys
  have H9 := Aside0.mk h9
  have H78 := Aside0.mk (show gm ≠ gb ∧ n ≤ cap from ⟨h7, h8⟩)
  have HNE := Aside0.mk (show (g ≠ gm ∧ g ≠ gs ∧ g ≠ gb) ∧ gs ≠ gm ∧ gs ≠ gb from ⟨⟨hg_gm, hg_gs, hg_gb⟩, hgs_gm, hgs_gb⟩)
  have HLT := Aside0.mk (show (g < w1.heap.size ∧ gs < w1.heap.size) ∧ gm < w1.heap.size ∧ gb < w1.heap.size from ⟨⟨hgw, hgsw⟩, hgmw, hgbw⟩)
  have HQ := Aside0.mk hq
  clear h1 h2 h3 h5 h6 h7 h8 h9 h10 hown hmap hD hkeys c1 c3 hrg0 hg0 hs0 old hI0 hgw hgsw hgmw hgbw hg_gm hg_gs hg_gb hgs_gm hgs_gb hq HBn HOwn
  go_loopw [4] (fun _ W => ∃ (left : Lit → Bool) (cnt : Nat), Aside0 (FlushI P g n c gs cap gm gb S F wr w1 D left cnt W)) (fun _ W => W.rangeLeft gm w1.heap.size)
  case atStart => exact ⟨_, _, HI0⟩
  case round =>
    obtain ⟨left, cnt, HI⟩ := hrel
    have hI := HI.out
    have hm := HI.out.m
    have HM := Aside0.mk hm
    clear hI hm
    go_wp2_with (at_next; refine wpList_next_ranges (α := Int) (β := ByteArray) _ rfl _ rfl 3 keyed3 (plainElem Tryd.prog 9) (Value.int .i64) Value.string (fun key kl hk => by obtain ⟨x, e, -⟩ := Go.Maps.keyOf_int_inv Tryd.underlying3 hk; exact ⟨x, e⟩) (fun v y hv => by obtain ⟨s, e, -⟩ := plain_string_inv hv; exact ⟨s, e⟩) gm w1.heap.size c D left cnt rfl HM.out ?_ ?_)
    · intro hc0 hl0
      obtain ⟨es, clk, -, -, -, hgmB, -⟩ := id HM.out
      have c1 : wr.cell? ⟨g, 1, none⟩ = some (.map (some gm)) := by rw [blk_cell HI.out.g]; rfl
      have hrc := run_clear (P := Tryd.prog) hgmB 73 0 3 9 Tryd.underlying73
      have HGM := Aside0.mk hgmB
      have HL0 := Aside0.mk hl0
      clear hgmB hl0 hc0
      go_wp2
      go_ret
      have hI := HI.out
      have hgm := HGM.out
      obtain ⟨⟨ng_m, ng_s, ng_b⟩, ns_m, ns_b⟩ := HNE.out
      have keep : ∀ k, k ≠ gm → (setBlock wr gm (.map #[] clk)).heap[k]? = wr.heap[k]? := fun k hk => heap_setBlock_other hgm _ hk
      obtain ⟨cur2, hs1, hs2⟩ := hI.s
      refine ⟨rfl, ⟨gs, cap, gm, gb, cur2, _, ⟨(keep g ng_m).trans hI.g, (keep gs ns_m).trans hs1, fun i hi => ?_, ?_, hI.b.same (keep gb (fun e => H78.out.1 e.symm)), fun i hi => rfl, H78.out.1, H78.out.2, H9.out, fun i hi => by cases hi⟩, HQ.out⟩, hI.k.trans ⟨rfl, rfl, rfl, by simp [setBlock], fun k hk hn => keep k (fun e => hn (e ▸ HQ.out.2.1))⟩⟩
      · rw [hs2 i hi, HL0.out, H6.out i hi]
        rfl
      · refine ⟨.map [], ⟨#[], clk, heap_setBlock_same hgm _, ?_, Nat.zero_le _, rfl⟩, Go.Maps.isMap_empty, fun i hi => ⟨rfl, fun s h => by cases h⟩, fun kl hk => by cases hk⟩
        exact ⟨Nat.zero_le _, (stamped_iff _ _).2 ⟨by simp, by simp, by simp⟩, by simp⟩
    · intro x s kl y1 y2 W2 cnt2 hkey hlk hR hat hrg2 hlt hg2 hs2 hen
      have hI := HI.out
      obtain ⟨i, hi40, rfl⟩ := HKeys.out kl (hI.l kl hlk)
      obtain rfl : x = (i : Int) := by
        obtain ⟨x', h1, h2, -⟩ := Go.Maps.keyOf_int_inv Tryd.underlying3 hkey
        injection h1 with _ h1
        injection h2 with _ h2
        omega
      obtain ⟨hd1, hd2⟩ := HD.out i hi40
      have hFs : (F i).isSome = true := by rw [← hd1]; exact hI.l _ hlk
      obtain ⟨s', hFi⟩ := Option.isSome_iff_exists.1 hFs
      have hin := H10.out i hFs
      have hy1 : y1 = .lit (.string s.data.toList) := by
        obtain ⟨s2, e1, e2⟩ := plain_string_inv hR
        injection e1 with e1
        rw [← e1] at e2
        exact congrArg Prod.fst e2
      have hss : s' = s := by
        have h1 := hd2 s' hFi (.lit (.string []))
        rw [hat, hy1] at h1
        injection h1 with h1
        injection h1 with h1
        exact (ba_toList_inj h1).symm
      subst hss
      have keep2 : ∀ k, k < w1.heap.size → W2.heap[k]? = wr.heap[k]? := fun k hk => hg2.block k (Nat.lt_of_lt_of_le hk hI.k.size) (fun e => by injection e with e; omega)
      obtain ⟨⟨lg, lgs⟩, lgm, lgb⟩ := HLT.out
      obtain ⟨⟨ng_m, ng_s, ng_b⟩, ns_m, ns_b⟩ := HNE.out
      obtain ⟨cur2, hs1, hs2'⟩ := hI.s
      have g2 := (keep2 g lg).trans hI.g
      have s2 := (keep2 gs lgs).trans hs1
      obtain ⟨v, ps, hrun, hv⟩ := World.ownsMap.lookup (w := W2.drew) hrg2.owns keyed3 Tryd.underlying73 (z := .string ⟨#[]⟩) (by rfl) (zd := .lit (.string [])) (zp := []) (plainElem_string Tryd.underlying9 (by decide)) (key3 hi40)
      have hvs : v = .string s' := by
        obtain ⟨s3, rfl, e2⟩ := plain_string_inv hv
        have e3 := congrArg Prod.fst e2
        have e4 : D.atKey (.int .i64 (i : Int)) (.lit (.string [])) = .lit (.string s3.data.toList) := e3
        rw [hat, hy1] at e4
        injection e4 with e4
        injection e4 with e4
        rw [ba_toList_inj e4]
      rw [hvs] at hrun
      have hland := land_calls (w := W2) (g := g) (gs := gs) (n := n) (cap := cap) (gm := gm) (gb := gb) (i := i) (s := s') (v0 := if left (.int .i64 (i : Int)) then S i else (F i).getD (S i)) (by rw [blk_cell g2]; rfl) (by rw [blk_cell g2]; rfl) (by rw [blk_cell g2]; rfl) hin H9.out hrun (by rw [blk_cell s2]; exact hs2' i hin) (blk_frozen s2 _) (hI.b.same (keep2 gb lgb)) ng_s (fun e => ns_b e.symm)
      have HLand := Aside0.mk hland
      have HG2 := Aside0.mk g2
      have HS2 := Aside0.mk s2
      have HS2' := Aside0.mk hs2'
      have HRG := Aside0.mk hrg2
      have HCnt := Aside0.mk hlt
      have HGr := Aside0.mk hg2
      have HSz := Aside0.mk hs2
      have HFi := Aside0.mk hFi
      have HIN := Aside0.mk hin
      clear hI hkey hlk hR hat hrg2 hlt hg2 hs2 hd1 hd2 hFs hFi hin hy1 keep2 hs1 hs2' g2 s2 hrun hv hvs hland lg lgs lgm lgb ng_m ng_s ng_b ns_m ns_b
      go_wp2_with (go_at_call 38; (with_reducible refine HLand.out.mono ?_); rintro e W3 ⟨rfl, hb3, ht3⟩; have HB3 := Aside0.mk hb3; have HT3 := Aside0.mk ht3; clear hb3 ht3)
      obtain ⟨⟨lg, lgs⟩, lgm, lgb⟩ := HLT.out
      obtain ⟨⟨ng_m, ng_s, ng_b⟩, ns_m, ns_b⟩ := HNE.out
      have hI := HI.out
      have hsz := hI.k.size
      obtain ⟨es, cl, es', cl', t1, rfl⟩ := HT3.out
      have keep2 : ∀ k, k < wr.heap.size → k ≠ w1.heap.size → W2.heap[k]? = wr.heap[k]? := fun k hk hne => HGr.out.block k hk (fun e => by injection e with e; exact hne e)
      have keep3 : ∀ k, k ≠ gb → k ≠ gs → (setBlock (W2.setCell ⟨gs, i, none⟩ (.string s')).drew gb (.map es' cl')).heap[k]? = W2.heap[k]? := fun k h1 h2 =>
        (heap_setBlock_other t1 _ h1).trans (Below.heap_setCell W2 ⟨gs, i, none⟩ _ _ h2)
      have hm3 : (setBlock (W2.setCell ⟨gs, i, none⟩ (.string s')).drew gb (.map es' cl')).ranges Tryd.prog 3 (plainElem Tryd.prog 9) gm w1.heap.size c D (fun z => left z && !z.sameKey (.int .i64 (i : Int))) cnt2 :=
        ranges_same HRG.out (keep3 gm H78.out.1 (fun e => ns_m e.symm)) (keep3 w1.heap.size (by omega) (by omega))
      have hgs3 : (setBlock (W2.setCell ⟨gs, i, none⟩ (.string s')).drew gb (.map es' cl')).heap[gs]? = some (.cells _ 9 (0, 0)) := (heap_setBlock_other t1 _ ns_b).trans (blk_set HS2.out i (.string s'))
      go_roundw
      case rel =>
        refine ⟨fun z => left z && !z.sameKey (.int .i64 (i : Int)), cnt2, ⟨?_⟩⟩
        refine ⟨(keep3 g ng_b ng_s).trans HG2.out, ⟨_, hgs3, fun j hj => ?_⟩, hm3, HB3.out, fun kl h => ?_, ?_⟩
        · by_cases e : j = i
          · rw [e, Array.getElem?_setIfInBounds_self_of_lt (by have := HS2'.out i HIN.out; exact (Array.getElem?_eq_some_iff.1 this).1)]
            rw [show (Lit.int .i64 (i : Int)).sameKey (.int .i64 (i : Int)) = true from Go.WideAt.sameKey_self (keyLit _), HFi.out]
            simp
          · rw [Array.getElem?_setIfInBounds_ne (fun e' => e e'.symm), HS2'.out j hj]
            rw [show (Lit.int .i64 (j : Int)).sameKey (.int .i64 (i : Int)) = false from Go.Maps.sameKey_ne (fun h => e (by injection h with _ h; omega))]
            simp
        · exact hI.l kl (by simp at h; exact h.1)
        · refine ⟨HGr.out.os.trans hI.k.os, HGr.out.tape.trans hI.k.tape, HGr.out.output.trans hI.k.output, ?_, fun k hk hn => ?_⟩
          · have := HSz.out
            simp [setBlock, World.setCell, World.drew]
            omega
          · rw [keep3 k (fun e => hn (e ▸ HQ.out.2.2.2)) (fun e => hn (e ▸ HQ.out.2.2.1)), keep2 k (by omega) (by omega)]
            exact hI.k.block k hk hn
      case measure =>
        rw [hm3.left_eq, HM.out.left_eq]
        exact HCnt.out
end Go.Proofs.YtnhigoffkmfccaaDoor.G
