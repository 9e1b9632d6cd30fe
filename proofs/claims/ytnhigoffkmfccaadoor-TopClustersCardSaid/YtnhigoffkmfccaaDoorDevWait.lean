/- Which sectors of a device wait, over this seat's program: at one. Conditions: each lemma's own. -/
import Derived.Test.YtnhigoffkmfccaaDoorDevFlush
import Derived.Shelf.SlIterI.Nil
import Derived.Shelf.SortM.Plain
import Derived.Shelf.SortM.SortNone
namespace Go.Proofs.YtnhigoffkmfccaaDoor.G
open Go.RowKit Go.Shelf Go.ChangeMaps Go.MapKept Go.Sort Go.Proofs.YtnhigoffkmfccaaDoorW.PrintWords Go.Proofs.YtnhigoffkmfccaaDoorW.PrintLast Go.Proofs.YtnhigoffkmfccaaDoorW.PrintMore
set_option linter.unusedVariables false
set_option linter.unusedSimpArgs false
def keysA_ren : Go.Shelf.Ren := ⟨fun | 7 => 49 | 10 => 57 | n => n, fun | 23 => 73 | 26 => 3 | 3 => 9 | 28 => 93 | 0 => 0 | 27 => 92 | 33 => 82 | 4 => 4 | n => n, fun | n => n⟩
theorem keysA : Go.Proofs.SlLaysZI.n7 Tryd.prog keysA_ren := {
  mixed := by kernel_rfl
  f7 := ⟨ "maps.Keys[map[int]string,int,string]", by decide, Tryd.func49.trans (congrArg some (by kernel_rfl))⟩
  f10 := ⟨ "maps.Keys[map[int]string,int,string]$1", by decide, Tryd.func57.trans (congrArg some (by kernel_rfl))⟩
  t0 := Tryd.underlying0
  a0 := Tryd.isAgg0
  z0 := Tryd.sizeOf0
  v0 := Tryd.zeroValue0
  t4 := Tryd.underlying4
  a4 := Tryd.isAgg4
  z4 := Tryd.sizeOf4
  v4 := Tryd.zeroValue4
  t23 := Tryd.underlying73
  a23 := Tryd.isAgg73
  z23 := Tryd.sizeOf73
  v23 := Tryd.zeroValue73
  t26 := Tryd.underlying3
  a26 := Tryd.isAgg3
  z26 := Tryd.sizeOf3
  v26 := Tryd.zeroValue3
  t27 := Tryd.underlying92
  a27 := Tryd.isAgg92
  z27 := Tryd.sizeOf92
  v27 := Tryd.zeroValue92
  t28 := Tryd.underlying93
  a28 := Tryd.isAgg93
  z28 := Tryd.sizeOf93
  v28 := Tryd.zeroValue93
  t33 := Tryd.underlying82
  a33 := Tryd.isAgg82
  z33 := Tryd.sizeOf82
  v33 := Tryd.zeroValue82 }
def sortedA_ren : Go.Shelf.Ren := ⟨fun | 6 => 48 | 8 => 55 | 9 => 56 | 11 => 58 | 13 => 60 | 12 => 59 | 23 => 70 | 24 => 71 | 14 => 61 | 15 => 62 | 16 => 63 | 17 => 64 | 18 => 65 | 19 => 66 | 20 => 67 | 21 => 68 | 22 => 69 | 25 => 72 | 26 => 73 | 27 => 74 | 28 => 75 | 29 => 76 | 30 => 77 | 31 => 78 | n => n, fun | 26 => 3 | 28 => 93 | 24 => 43 | 0 => 0 | 3 => 3 | 37 => 85 | 48 => 34 | 50 => 78 | 4 => 4 | 40 => 108 | 39 => 107 | 45 => 112 | 5 => 5 | 9 => 9 | 51 => 116 | 55 => 120 | 57 => 122 | 58 => 123 | 33 => 82 | n => n, fun | n => n⟩
theorem sortedA : Go.Proofs.SlLaysZI.n6 Tryd.prog sortedA_ren := {
  mixed := by kernel_rfl
  f6 := ⟨ "slices.Sorted[int]", by decide, Tryd.func48.trans (congrArg some (by kernel_rfl))⟩
  f8 := ⟨ "slices.Collect[int]", by decide, Tryd.func55.trans (congrArg some (by kernel_rfl))⟩
  f11 := ⟨ "slices.AppendSeq[[]int,int]", by decide, Tryd.func58.trans (congrArg some (by kernel_rfl))⟩
  t0 := Tryd.underlying0
  a0 := Tryd.isAgg0
  z0 := Tryd.sizeOf0
  v0 := Tryd.zeroValue0
  t24 := Tryd.underlying43
  a24 := Tryd.isAgg43
  z24 := Tryd.sizeOf43
  v24 := Tryd.zeroValue43
  t26 := Tryd.underlying3
  a26 := Tryd.isAgg3
  z26 := Tryd.sizeOf3
  v26 := Tryd.zeroValue3
  t28 := Tryd.underlying93
  a28 := Tryd.isAgg93
  z28 := Tryd.sizeOf93
  v28 := Tryd.zeroValue93
  i26 := by kernel_rfl }
def sortA_ren : Go.Shelf.Ren := ⟨fun | 5 => 56 | 8 => 60 | 7 => 59 | 19 => 70 | 20 => 71 | 10 => 61 | 11 => 62 | 12 => 63 | 13 => 64 | 14 => 65 | 15 => 66 | 16 => 67 | 17 => 68 | 18 => 69 | 30 => 72 | 31 => 73 | 32 => 74 | 33 => 75 | 34 => 76 | 35 => 77 | 40 => 78 | n => n, fun | 23 => 43 | 25 => 3 | 3 => 3 | 32 => 85 | 22 => 43 | 0 => 0 | 44 => 34 | 46 => 78 | 4 => 4 | 36 => 108 | 35 => 107 | 41 => 112 | 5 => 5 | 9 => 9 | 53 => 116 | 57 => 120 | 63 => 122 | 64 => 123 | n => n, fun | n => n⟩
theorem sortA : Go.Proofs.SlLaysM.n5 Tryd.prog sortA_ren := {
  mixed := by kernel_rfl
  f5 := ⟨ "slices.Sort[[]int,int]", by decide, Tryd.func56.trans (congrArg some (by kernel_rfl))⟩
  f7 := ⟨ "slices.pdqsortOrdered[int]", by decide, Tryd.func59.trans (congrArg some (by kernel_rfl))⟩
  f8 := Tryd.func60.trans (congrArg some (by kernel_rfl))
  f10 := ⟨ "slices.insertionSortOrdered[int]", by decide, Tryd.func61.trans (congrArg some (by kernel_rfl))⟩
  f11 := ⟨ "slices.heapSortOrdered[int]", by decide, Tryd.func62.trans (congrArg some (by kernel_rfl))⟩
  f12 := ⟨ "slices.breakPatternsOrdered[int]", by decide, Tryd.func63.trans (congrArg some (by kernel_rfl))⟩
  f13 := ⟨ "slices.choosePivotOrdered[int]", by decide, Tryd.func64.trans (congrArg some (by kernel_rfl))⟩
  f14 := ⟨ "slices.reverseRangeOrdered[int]", by decide, Tryd.func65.trans (congrArg some (by kernel_rfl))⟩
  f15 := ⟨ "slices.partialInsertionSortOrdered[int]", by decide, Tryd.func66.trans (congrArg some (by kernel_rfl))⟩
  f16 := ⟨ "cmp.Less[int]", by decide, Tryd.func67.trans (congrArg some (by kernel_rfl))⟩
  f17 := ⟨ "slices.partitionEqualOrdered[int]", by decide, Tryd.func68.trans (congrArg some (by kernel_rfl))⟩
  f18 := ⟨ "slices.partitionOrdered[int]", by decide, Tryd.func69.trans (congrArg some (by kernel_rfl))⟩
  f19 := Tryd.func70.trans (congrArg some (by kernel_rfl))
  f20 := Tryd.func71.trans (congrArg some (by kernel_rfl))
  f30 := ⟨ "slices.siftDownOrdered[int]", by decide, Tryd.func72.trans (congrArg some (by kernel_rfl))⟩
  f31 := Tryd.func73.trans (congrArg some (by kernel_rfl))
  f32 := Tryd.func74.trans (congrArg some (by kernel_rfl))
  f33 := ⟨ "slices.medianAdjacentOrdered[int]", by decide, Tryd.func75.trans (congrArg some (by kernel_rfl))⟩
  f34 := ⟨ "slices.medianOrdered[int]", by decide, Tryd.func76.trans (congrArg some (by kernel_rfl))⟩
  f35 := ⟨ "cmp.isNaN[int]", by decide, Tryd.func77.trans (congrArg some (by kernel_rfl))⟩
  f40 := ⟨ "slices.order2Ordered[int]", by decide, Tryd.func78.trans (congrArg some (by kernel_rfl))⟩
  t0 := Tryd.underlying0
  a0 := Tryd.isAgg0
  z0 := Tryd.sizeOf0
  v0 := Tryd.zeroValue0
  t3 := Tryd.underlying3
  a3 := Tryd.isAgg3
  z3 := Tryd.sizeOf3
  v3 := Tryd.zeroValue3
  t4 := Tryd.underlying4
  a4 := Tryd.isAgg4
  z4 := Tryd.sizeOf4
  v4 := Tryd.zeroValue4
  t5 := Tryd.underlying5
  a5 := Tryd.isAgg5
  z5 := Tryd.sizeOf5
  v5 := Tryd.zeroValue5
  t9 := Tryd.underlying9
  a9 := Tryd.isAgg9
  z9 := Tryd.sizeOf9
  v9 := Tryd.zeroValue9
  t22 := Tryd.underlying43
  a22 := Tryd.isAgg43
  z22 := Tryd.sizeOf43
  v22 := Tryd.zeroValue43
  t23 := Tryd.underlying43
  a23 := Tryd.isAgg43
  z23 := Tryd.sizeOf43
  v23 := Tryd.zeroValue43
  t25 := Tryd.underlying3
  a25 := Tryd.isAgg3
  z25 := Tryd.sizeOf3
  v25 := Tryd.zeroValue3
  t32 := Tryd.underlying85
  a32 := Tryd.isAgg85
  z32 := Tryd.sizeOf85
  v32 := Tryd.zeroValue85
  t35 := Tryd.underlying107
  a35 := Tryd.isAgg107
  z35 := Tryd.sizeOf107
  v35 := Tryd.zeroValue107
  t36 := Tryd.underlying108
  a36 := Tryd.isAgg108
  z36 := Tryd.sizeOf108
  v36 := Tryd.zeroValue108
  t41 := Tryd.underlying112
  a41 := Tryd.isAgg112
  z41 := Tryd.sizeOf112
  v41 := Tryd.zeroValue112
  t44 := Tryd.underlying34
  a44 := Tryd.isAgg34
  z44 := Tryd.sizeOf34
  v44 := Tryd.zeroValue34
  t46 := Tryd.underlying78
  a46 := Tryd.isAgg78
  z46 := Tryd.sizeOf78
  v46 := Tryd.zeroValue78
  t53 := Tryd.underlying116
  a53 := Tryd.isAgg116
  z53 := Tryd.sizeOf116
  v53 := Tryd.zeroValue116
  t57 := Tryd.underlying120
  a57 := Tryd.isAgg120
  z57 := Tryd.sizeOf120
  v57 := Tryd.zeroValue120
  t63 := Tryd.underlying122
  a63 := Tryd.isAgg122
  z63 := Tryd.sizeOf122
  v63 := Tryd.zeroValue122
  t64 := Tryd.underlying123
  a64 := Tryd.isAgg123
  z64 := Tryd.sizeOf123
  v64 := Tryd.zeroValue123 }
theorem sortsA (m : Nat) : AnyZI.SortsIn Tryd.prog sortedA_ren Fence.wide m :=
  ⟨fun blk off cap ss W hH hblk hsz => callsIn_wide.2 (AnyM.slices_Sort_int sortA blk off cap ss W hH hblk hsz),
   fun p cap W => callsIn_wide.2 (AnyM.slices_Sort_int_none sortA p cap W)⟩
theorem one_key {D : DataW Unit} {w : World} {b n i : Nat} (hown : w.ownsMap Tryd.prog 3 (plainElem Tryd.prog 9) b n D) (hi : i < 1099511627776) (h1 : Go.Maps.has D (.int .i64 (i : Int)) = true) (h2 : ∀ kl, Go.Maps.has D kl = true → kl = .int .i64 (i : Int)) : intKeys D = [(i : Int)] ∧ Go.Maps.size D = 1 := by
  obtain ⟨es, rfl, hap, hkeys⟩ := hown.entries keyed3
  have hall : ∀ p ∈ es, p.1 = .int .i64 (i : Int) := fun p hp => h2 p.1 (List.any_eq_true.2 ⟨p, hp, Go.WideAt.sameKey_self (hkeys p hp)⟩)
  match es, hap, hall, h1 with
  | [], _, _, h1 => cases h1
  | [p], _, hall, _ =>
    have e := hall p (by simp)
    obtain ⟨p1, p2⟩ := p
    simp only at e
    subst e
    exact ⟨rfl, rfl⟩
  | p :: q :: l, hap, hall, _ =>
    have e := (List.pairwise_cons.1 hap).1 q (by simp)
    exact absurd ((hall p (by simp)).trans (hall q (by simp)).symm) e
set_option maxHeartbeats 4000000 in
set_option maxRecDepth 100000 in
theorem waiting_calls {P : Nat → Prop} {w : World} {g n c i : Nat} {S : Nat → ByteArray} {s : ByteArray} (h : DevF P w g n c S (fput (fun _ => none) i (some s))) (hi : i < n) :
    Calls Tryd.prog 41 #[.pointer (some ⟨g, 0, none⟩)] w fun e w' => ∃ gw cw, e = .returned (.slice (some ⟨gw, 0, none⟩) 1 cw) ∧ w'.cell? ⟨gw, 0, none⟩ = some (.int .i64 i) ∧ Below w.heap.size w w' := by
  have hn := h.dev.n_le
  obtain ⟨gs, cap, gm, gb, cur, wr, hX, hq⟩ := h
  obtain ⟨c0, c1, c2, c3, c4, c5, z5, cS⟩ := hX.cells
  obtain ⟨D, hown, hmap, hD, hkeys⟩ := hX.2.2.2.1
  obtain ⟨hk1, hk2⟩ := one_key (i := i) hown (by omega) (by rw [(hD i (by omega)).1]; unfold fput; rw [if_pos rfl]; rfl) (fun kl hk => by
    obtain ⟨j, hj, rfl⟩ := hkeys kl hk
    rw [(hD j hj).1] at hk
    unfold fput at hk
    by_cases e : j = i
    · rw [e]
    · rw [if_neg e] at hk; cases hk)
  have hbl := hown.lt
  refine (callsIn_wide (n := 6)).1 ?_
  have hseq : SeqGives Fence.wide 2 Tryd.prog 57 #[.pointer (some ⟨w.heap.size, 0, none⟩)] encZ (fun ss => ss.Perm (intKeys D)) (Go.Maps.size D) (w.alloc (.cells #[.map (some gm)] 73)) :=
    AnyZI.keys_gives (ρ := keysA_ren) { keysA with } Fence.wide _ trivial rfl (by omega) w.heap.size gm c D _ (by simp) (by simp) (by
      obtain ⟨es, clock, hb, Ft, hs, hD⟩ := hown
      exact ⟨es, clock, (Below.heap_alloc _ _ gm hbl).trans hb, Ft, hs, hD⟩)
  have cK : ∀ mb W, CallsIn Fence.wide 5 Tryd.prog 49 #[.map mb] W fun e w' => e = .returned (.func (.func 57) #[] #[.pointer (some ⟨W.heap.size, 0, none⟩)]) ∧ w' = W.alloc (.cells #[.map mb] 73) := fun mb W => AnyZI.keys_in keysA Fence.wide 5 trivial rfl mb W
  have cS := AnyZI.sorted_in sortedA Fence.wide 5 trivial trivial trivial trivial rfl (by omega) (sortsA _) (enters_of Tryd.func56 (by kernel_rfl) rfl) 57 #[.pointer (some ⟨w.heap.size, 0, none⟩)] trivial (enters_of Tryd.func57 (by kernel_rfl) rfl) _ _ (by rw [hk2]; unfold maxLen; omega) (by rw [hk2]; omega) _ hseq
  change CallsIn _ _ Tryd.prog 48 _ _ _ at cS
  have HK1 := Aside0.mk hk1
  have HB0 := Aside0.mk (below_alloc (Below.refl w.heap.size w) (.cells #[.map (some gm)] 73))
  have CS := Aside0.mk cS
  have CK := Aside0.mk cK
  clear c0 c2 c3 c4 c5 z5 cS hX hown hmap hD hkeys hk1 hk2 hseq hq cK
  refine callsIn_of_wp Tryd.func41 rfl trivial ?_ rfl
  simp only [Tryd.ntmps41, List.size_toArray, List.length_cons, List.length_nil, Nat.reduceAdd, Nat.reduceSub, Array.replicate_succ, Array.replicate_zero, List.push_toArray, List.append_toArray, List.nil_append, List.cons_append]
  gi_wp2_with (first
    | (refine ⟨trivial, ?_⟩; gi_at_call 49; refine (CK.out _ _).mono ?_; rintro e w' ⟨rfl, rfl⟩)
    | (refine ⟨trivial, ?_⟩; gi_at_call 48; refine CS.out.mono ?_; rintro e w' ⟨v, ss, rfl, hS, hrow, hnil, hb⟩; have HS := Aside0.mk hS; have HRow := Aside0.mk hrow; have HB := Aside0.mk hb; clear hS hrow hnil hb))
  go_ret
  have hss : ss = [(i : Int)] := by
    have h1 := HS.out
    rw [HK1.out] at h1
    exact List.perm_singleton.1 h1
  have hrow := HRow.out
  rw [hss] at hrow
  obtain ⟨hl, ⟨-, hz⟩ | ⟨gv, cv, cur', e1, hb, hg, h2, h3, h4, h5⟩⟩ := hrow
  · simp at hz
  · refine ⟨gv, cv, by rw [e1]; rfl, ?_, HB0.out.trans (HB.out.mono (by simp))⟩
    rw [blk_cell hg]
    have e2 : cur'.toList.take 1 = [encZ (i : Int)] := by simpa using h5
    have e3 : (cur'.toList.take 1)[0]? = some (encZ (i : Int)) := by rw [e2]; rfl
    rw [List.getElem?_take, if_pos (by omega)] at e3
    simpa using e3
end Go.Proofs.YtnhigoffkmfccaaDoor.G
