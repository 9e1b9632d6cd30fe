/- A cache's nodes of one stripe are dropped, over this seat's program. Conditions: each lemma's own. -/
import Derived.Test.YtoglapodcejocaaCacheAll
import Derived.Test.YtoglapodcejocaaStillInR
namespace Go.Proofs.Ytoglapodcejocaa.G
open Go.RowKit Go.Shelf Go.Proofs.YtoglapodcejocaaW.PrintWords Go.Proofs.YtoglapodcejocaaW.PrintLast Go.Proofs.YtoglapodcejocaaW.PrintMore
set_option linter.unusedVariables false
set_option linter.unusedSimpArgs false
attribute [local go_sem] Oper.semAt_some
set_option maxRecDepth 100000
theorem lenIn_known {F : Fence} {n : Nat} {P : Program} {ops : Array Oper} {rest : List Oper} {o : Oper} {a : Act} {Q : Exit → Act → World → Prop} {W : World} (hg : o.guard = none) (m : Operand) (t : TypeId) (ho : o.op = .call { callee := .builtin .len, args := #[m], argTypes := #[t] }) (v : Value) (hm : a.eval m = v) {u : Value} (hr : (Builtin.len_ #[t] o.type #[v]).run P W = .ok u W)
    (h : wpListIn F n P ops Q rest (a.put o.dst u) W) : wpListIn F n P ops Q (o :: rest) a W := by
  refine wpListIn_plain hg fun K hK => ?_
  unfold Oper.wpIn
  refine ⟨by simp [Oper.about, ho, resolve, Target.leads], ?_⟩
  rw [Oper.semAt_plain F _ _ (by rw [ho]; intro c hc'; cases hc')]
  simp [execOp, ho, resolve, invoke, builtin, hm, hr, Result.andThen]
  exact hK _ _ h
def dropE (E : List (Pl × ByteArray)) (st : Int) : List (Pl × ByteArray) := E.filter fun x => decide (x.1.1 ≠ st)
/-- The nodes that are left when q were looked at. -/
def dropN (bs : List Nat) (K : Nat → Pl) (st : Int) (q : Nat) : List Nat := (bs.take q).filter (fun b => decide ((K b).1 ≠ st)) ++ bs.drop q
theorem dropN_at {bs : List Nat} {K : Nat → Pl} {st : Int} {q : Nat} (h : q < bs.length) : dropN bs K st q = (bs.take q).filter (fun b => decide ((K b).1 ≠ st)) ++ bs[q] :: bs.drop (q + 1) := by
  unfold dropN
  rw [List.drop_eq_getElem_cons h]
theorem dropN_yes {bs : List Nat} {K : Nat → Pl} {st : Int} {q : Nat} (h : q < bs.length) (hk : (K bs[q]).1 = st) : dropN bs K st (q + 1) = (bs.take q).filter (fun b => decide ((K b).1 ≠ st)) ++ bs.drop (q + 1) := by
  unfold dropN
  rw [List.take_succ_eq_append_getElem h, List.filter_append]
  simp [hk]
theorem dropN_no {bs : List Nat} {K : Nat → Pl} {st : Int} {q : Nat} (h : q < bs.length) (hk : (K bs[q]).1 ≠ st) : dropN bs K st (q + 1) = dropN bs K st q := by
  rw [dropN_at h]
  unfold dropN
  rw [List.take_succ_eq_append_getElem h, List.filter_append]
  simp [hk]
theorem Lk.next_eq {A N : Nat → Nat} {x e : Nat} : ∀ {l : List Nat}, Lk A N x l e → N x = (l ++ [e]).getD 0 0
  | [], ⟨h, _⟩ => h
  | y :: l, ⟨h, _⟩ => h
theorem sq_next {bs : List Nat} {g q : Nat} (h : q ≤ bs.length) : (bs.drop q ++ [g]).getD 0 0 = sq bs g q := by
  unfold sq
  rw [List.getD_eq_getElem?_getD, List.getD_eq_getElem?_getD, ← List.drop_append_of_le_length h, List.getElem?_drop, Nat.add_zero]
theorem heap_old2 (w : World) (o0 o1 : Obj) : ((w.alloc o0).alloc o1).heap[w.heap.size]? = some o0 ∧ ((w.alloc o0).alloc o1).heap[w.heap.size + 1]? = some o1 ∧ Below w.heap.size w ((w.alloc o0).alloc o1) ∧ ((w.alloc o0).alloc o1).heap.size = w.heap.size + 2 :=
  ⟨blk_alloc (blk_new w o0) o1, by have := blk_new (w.alloc o0) o1; simpa using this, below_alloc (below_alloc (Below.refl _ _) _) _, by simp⟩
/-- Between two rounds of Drop's loop. -/
structure DropI (P : Nat → Prop) (w : World) (g m Bi : Nat) (room hit miss st : Int) (bs : List Nat) (K : Nat → Pl) (V : Nat → ByteArray) (pre : List (Fin bs.length)) (W : World) : Prop where
  at_ : pre = (List.finRange bs.length).take pre.length
  c : ∃ A N F, Cch P W g m room hit miss (dropN bs K st pre.length) K V A N F
  b2 : Boxed W w.heap.size 24 (ptr g)
  b3 : Boxed W (w.heap.size + 1) 3 (.int .i64 st)
  bi : Boxed W Bi 114 (ptr g)
  kb : KeptBut P w W
  lt : ∀ k, P k → k < w.heap.size
theorem take_len {m q : Nat} (h : q ≤ m) {pre : List (Fin m)} (e : pre = (List.finRange m).take q) : pre.length = q := by rw [e]; exact fin_take_len h
theorem dropI_all {P w g m Bi room hit miss st bs K V} {pre : List (Fin bs.length)} {W : World} (h : DropI P w g m Bi room hit miss st bs K V pre W) : AllR bs g Bi pre W := by
  obtain ⟨A, N, F, hc⟩ := h.c
  refine ⟨h.bi.cell, ⟨_, _, hc.rm.root⟩, fun q hq => ⟨fun e => ?_, fun hlt => ?_⟩⟩
  · subst e
    have hl : pre.length = 0 := take_len (Nat.zero_le _) hq
    rw [hl] at hc
    have h1 := hc.lk.next_eq
    have e0 : dropN bs K st 0 = bs.drop 0 := by unfold dropN; simp
    rw [e0, sq_next (Nat.zero_le _)] at h1
    rw [← h1]
    exact (hc.rm.next (.inl rfl)).1
  · have hl : pre.length = q := take_len (Nat.le_of_lt hlt) hq
    rw [hl, dropN_at hlt] at hc
    have h1 := (Lk.append.1 hc.lk).2.next_eq
    rw [sq_next hlt] at h1
    have hm : bs[q] ∈ (bs.take q).filter (fun b => decide ((K b).1 ≠ st)) ++ bs[q] :: bs.drop (q + 1) := List.mem_append_right _ (List.mem_cons_self ..)
    rw [show sq bs g (q + 1) = N bs[q] from h1.symm]
    exact ⟨(hc.rm.next (.inr hm)).1, _, _, hc.rm.node _ hm⟩
theorem dropI_own {P w g m Bi room hit miss st bs K V} {B : Nat} (hB : w.heap.size ≤ B) : OwnFrom B (DropI P w g m Bi room hit miss st bs K V) := fun pre X Y row h hg hr => by
  have hr' : ∀ r, row = some r → ∃ o : Obj, X.heap[r]? = some o ∧ o.isCells = false := fun r e => (hr r e).2
  have hbox : ∀ {b t v}, Boxed X b t v → Boxed Y b t v := fun {b t v} hb => hb.kept hg (fun e' => by obtain ⟨o, ho, hc⟩ := hr' b e'.symm; rw [show X.heap[b]? = _ from hb] at ho; cases ho; cases hc)
  obtain ⟨A, N, F, hc⟩ := h.c
  refine ⟨h.at_, ⟨A, N, F, hc.same (fun k hk => hg.block k (hc.lt k hk) (fun e => ?_)) hg.size⟩, hbox h.b2, hbox h.b3, hbox h.bi, ?_, h.lt⟩
  · have h1 := (hr k e.symm).1
    have h2 := h.lt k hk
    omega
  · exact ⟨hg.os.trans h.kb.os, hg.tape.trans h.kb.tape, hg.output.trans h.kb.output, Nat.le_trans h.kb.size hg.size, fun k hk hn => (hg.block k (Nat.lt_of_lt_of_le hk h.kb.size) (fun e => by have := (hr k e.symm).1; omega)).trans (h.kb.block k hk hn)⟩
set_option maxHeartbeats 8000000 in
theorem drop_calls {P : Nat → Prop} {w : World} {g : Nat} {room hit miss : Int} {E : List (Pl × ByteArray)} (h : CchE P w g room hit miss E) (hl : E.length ≤ 1000000) (st : Int) :
    Calls Try.prog 15 #[ptr g, .int .i64 st] w fun e w' => e = .returned (.int .i64 ((E.length : Int) - ((dropE E st).length : Int))) ∧ CchE P w' g room hit miss (dropE E st) ∧ KeptBut P w w' := by
  obtain ⟨m, bs, K, V, A, N, F, h, rfl⟩ := h
  refine (callsIn_wide (n := 3)).1 ?_
  have hro : Fence.wide.round = none := rfl
  have h1 : 1 ≤ 3 := by decide
  have hfol : Try.prog.follows Departure.mixedOrders = true := by kernel_rfl
  have hlen : bs.length ≤ 1000000 := by simpa [entsOf] using hl
  have f0 := heap_old2 w (.cells #[ptr g] 24) (.cells #[.int .i64 st] 3)
  obtain ⟨W1, hW1⟩ : ∃ W1, W1 = (w.alloc (.cells #[ptr g] 24)).alloc (.cells #[.int .i64 st] 3) := ⟨_, rfl⟩
  rw [← hW1] at f0
  obtain ⟨b2, b3, hb1, hz1⟩ := f0
  have hc1 := h.below hb1
  have k5 : W1.cell? ⟨g, 5, none⟩ = some (.map (some m)) := (blk_cell hc1.rm.root 5).trans rfl
  have k2 : W1.cell? ⟨w.heap.size, 0, none⟩ = some (ptr g) := (blk_cell b2 0).trans rfl
  have hln := fun ty => hc1.mp.len ty
  rw [hW1] at k5 k2 hln
  have HW1 := Aside0.mk hW1
  have HLn := Aside0.mk hln
  have HC1 := Aside0.mk hc1
  have HB2 := Aside0.mk b2
  have HB3 := Aside0.mk b3
  have HB1 := Aside0.mk hb1
  have HZ1 := Aside0.mk hz1
  have HLt := Aside0.mk h.lt
  have HC0 := Aside0.mk h
  have HLen := Aside0.mk hlen
  clear h hW1 hln hc1 b2 b3 hb1 hz1 hl hlen
  refine callsIn_of_wp_marks Try.func15 rfl trivial ?_ hro
  simp only [Try.ntmps15, List.size_toArray, List.length_cons, List.length_nil, Nat.reduceAdd, Nat.reduceSub, Array.replicate_succ, Array.replicate_zero, List.push_toArray, List.append_toArray, List.nil_append, List.cons_append]
  gi_wp2_with (first
    | (refine lenIn_known rfl (.tmp 11) 82 rfl (.map (some m)) rfl (HLn.out _) ?_)
    | (refine ⟨trivial, ?_⟩; gi_at_call 43; refine (all_in _ _ _).mono ?_; rintro e w' ⟨rfl, rfl⟩))
  rw [← HW1.out]
  clear k2 k5
  have hd : (bs ++ [g]).Nodup := (List.perm_append_singleton g bs).nodup_iff.2 HC0.out.nd
  obtain ⟨W2, hW2⟩ : ∃ W2, W2 = W1.alloc (.cells #[ptr g] 114) := ⟨_, rfl⟩
  have hb2 : Below W1.heap.size W1 W2 := by rw [hW2]; exact below_alloc (Below.refl _ _) _
  have hbi : Boxed W2 (w.heap.size + 1 + 1) 114 (ptr g) := by
    have := blk_new W1 (.cells #[ptr g] 114)
    rw [HZ1.out, ← hW2] at this
    exact this
  have hz2 : w.heap.size ≤ W2.heap.size := by have := hb2.size; have := HZ1.out; omega
  rw [← hW2]
  have HW2 := Aside0.mk hW2
  clear hW2
  have hI0 : DropI P w g m (w.heap.size + 1 + 1) room hit miss st bs K V [] W2 := by
    refine ⟨rfl, ⟨A, N, F, ?_⟩, (hb2.block _ (by rw [HZ1.out]; omega)).trans HB2.out, (hb2.block _ (by rw [HZ1.out]; omega)).trans HB3.out, hbi, (KeptBut.of_below HB1.out).trans (KeptBut.of_below hb2), HLt.out⟩
    rw [show dropN bs K st ([] : List (Fin bs.length)).length = bs from by unfold dropN; simp]
    exact HC1.out.below hb2
  refine rangeFunc_R hro h1 (gf := 58) (lb := #[ptr (w.heap.size + 1 + 1)]) rfl trivial (enters_of Try.func58 (by kernel_rfl) rfl)
    (all_seq (3 - 1) (by decide) (w.heap.size + 1 + 1) g bs hd W2) (Below.refl _ _) (fun _ => rfl)
    (DropI P w g m (w.heap.size + 1 + 1) room hit miss st bs K V) (dropI_own hz2) (fun _ _ h => dropI_all h) hI0
    (fun x => { tmps := #[ptr g, .int .i64 st, ptr w.heap.size, ptr (w.heap.size + 1), .int .i64 0, .int .i64 (bs.length : Int), ptr bs[x.val], ptr g, ptr g, ptr g, .pointer (some ⟨g, 5, none⟩), .map (some m), .int .i64 (bs.length : Int), ptr g, ptr g, ptr g, .func (.func 58) #[] #[ptr (w.heap.size + 1 + 1)], ptr bs[x.val], undef, undef, undef, undef, undef, undef, undef, undef, undef, undef, undef, undef, undef, undef, undef, undef, undef, undef, undef, undef], defers := [] }) ?assign ?body ?done
  case assign =>
    intro l x W K' hK
    dsimp only [nencs]
    gi_wp2
    exact hK
  case body =>
    rintro l pre x W hI hX -
    dsimp only
    have hx := x.isLt
    have hpl : pre.length = x.val := take_len (Nat.le_of_lt hx) hX
    obtain ⟨A1, N1, F1, hc⟩ := hI.c
    rw [hpl, dropN_at hx] at hc
    have k2 : W.drew.cell? ⟨w.heap.size, 0, none⟩ = some (ptr g) := hI.b2.cell
    have k3 : W.drew.cell? ⟨w.heap.size + 1, 0, none⟩ = some (.int .i64 st) := hI.b3.cell
    have hmem : bs[x.val] ∈ (bs.take x.val).filter (fun b => decide ((K b).1 ≠ st)) ++ bs[x.val] :: bs.drop (x.val + 1) := List.mem_append_right _ (List.mem_cons_self ..)
    have k4 : W.drew.cell? ⟨bs[x.val], 0, none⟩ = some (.int .i64 (K bs[x.val]).1) := (blk_cell (w := W.drew) (hc.rm.node _ hmem) 0).trans rfl
    have HD := Aside0.mk (rdrop_calls (hc.below (w' := W.drew) (Below.refl _ _).drew))
    have HI := Aside0.mk hI
    have HX := Aside0.mk hX
    have HPL := Aside0.mk hpl
    have HCc := Aside0.mk hc
    have hnext : pre ++ [x] = (List.finRange bs.length).take (pre ++ [x]).length := by
      rw [List.length_append, hpl, List.length_singleton, fin_take hx, ← hX]
    have HNx := Aside0.mk hnext
    have keep : ∀ W3 : World, KeptBut P W W3 → KeepsFrom W2.heap.size W W3 := fun W3 hk => ⟨hk.size, fun k o hB hk' _ => (hk.block k (Array.getElem?_eq_some_iff.1 hk').1 (fun hp => by have := HLt.out k hp; omega)).trans hk'⟩
    have keepB : ∀ (W3 : World) (b : Nat) (t : TypeId) (v : Value), KeptBut P W W3 → w.heap.size ≤ b → Boxed W b t v → Boxed W3 b t v := fun W3 b t v hk hb hbx => (hk.block b hbx.lt (fun hp => by have := HLt.out b hp; omega)).trans hbx
    have HKp := Aside0.mk keep
    have HKb := Aside0.mk keepB
    have hlen2 : (pre ++ [x]).length = x.val + 1 := by rw [List.length_append, hpl]; rfl
    have HL2 := Aside0.mk hlen2
    have HXl := Aside0.mk hx
    clear hI hX hpl hc hmem hnext keep keepB hlen2
    by_cases hk : (K bs[x.val]).1 = st
    · have b1 : decide ((K bs[x.val]).1 = st) = true := decide_eq_true hk
      have HK := Aside0.mk hk
      gi_wp2
      refine StillInR.wpIn_region_still_tail 6 (by kernel_rfl) hfol (by kernel_rfl) ?_
      simp only [List.take_succ_cons, List.take_zero, List.drop_succ_cons, List.drop_zero]
      repeat still_step
      try refine wpStill_nil ?_
      change wpListIn (Fence.wide.inRound l) 1 Try.prog _ _ _ _ W.drew
      gi_wp2_with (refine ⟨trivial, ?_⟩; gi_at_call 39; (with_reducible refine ((callsIn_wide.2 HD.out).inRound _).mono ?_); rintro e W3 ⟨rfl, hc3, hk3⟩; have HC3 := Aside0.mk hc3; have HK3 := Aside0.mk hk3; clear hc3 hk3)
      have hkk : KeptBut P W W3 := (KeptBut.drew _ _).trans HK3.out
      have hcc : ∃ A N F, Cch P W3 g m room hit miss (dropN bs K st (pre ++ [x]).length) K V A N F := by
        rw [HL2.out, dropN_yes HXl.out HK.out]; exact ⟨_, _, _, HC3.out⟩
      refine ⟨HKp.out _ hkk, ?_, fun k q1 q2 => by omega⟩
      exact ⟨HNx.out, hcc, HKb.out _ _ _ _ hkk (Nat.le_refl _) HI.out.b2, HKb.out _ _ _ _ hkk (by omega) HI.out.b3, HKb.out _ _ _ _ hkk (by omega) HI.out.bi, HI.out.kb.trans hkk, HLt.out⟩
    · have b1 : decide ((K bs[x.val]).1 = st) = false := decide_eq_false hk
      have HK := Aside0.mk hk
      gi_wp2
      refine StillInR.wpIn_region_still_tail 6 (by kernel_rfl) hfol (by kernel_rfl) ?_
      simp only [List.take_succ_cons, List.take_zero, List.drop_succ_cons, List.drop_zero]
      repeat still_step
      try refine wpStill_nil ?_
      change wpListIn (Fence.wide.inRound l) 1 Try.prog _ _ _ _ W.drew
      gi_wp2
      have hkk : KeptBut P W W.drew := KeptBut.drew _ _
      have hcc : ∃ A N F, Cch P W.drew g m room hit miss (dropN bs K st (pre ++ [x]).length) K V A N F := by
        rw [HL2.out, dropN_no HXl.out HK.out, dropN_at HXl.out]; exact ⟨_, _, _, HCc.out.below (Below.refl _ _).drew⟩
      refine ⟨HKp.out _ hkk, ?_, fun k q1 q2 => by omega⟩
      exact ⟨HNx.out, hcc, HKb.out _ _ _ _ hkk (Nat.le_refl _) HI.out.b2, HKb.out _ _ _ _ hkk (by omega) HI.out.b3, HKb.out _ _ _ _ hkk (by omega) HI.out.bi, HI.out.kb.trans hkk, HLt.out⟩
  case done =>
    rintro D xs W hD rfl hI hK
    have hl : (List.finRange bs.length).length = bs.length := List.length_finRange
    obtain ⟨A1, N1, F1, hc⟩ := hI.c
    have e0 : dropN bs K st bs.length = bs.filter (fun b => decide ((K b).1 ≠ st)) := by unfold dropN; simp
    rw [hl, e0] at hc
    have k2 : W.cell? ⟨w.heap.size, 0, none⟩ = some (ptr g) := hI.b2.cell
    have k5 : W.cell? ⟨g, 5, none⟩ = some (.map (some m)) := (blk_cell hc.rm.root 5).trans rfl
    have HLn2 := Aside0.mk (fun ty => hc.mp.len ty)
    have HC := Aside0.mk hc
    have HKb := Aside0.mk hI.kb
    have HDf := Aside0.mk hK
    have HDl := Aside0.mk hD
    clear hI hK hc hD
    gi_wp2_with (refine lenIn_known rfl (.tmp 35) 82 rfl (.map (some m)) rfl (HLn2.out _) ?_)
    refine ⟨by simp, .inl ⟨_, _, rfl, run_takeDeferred HDf.out, ?_⟩⟩
    have hents : entsOf (bs.filter (fun b => decide ((K b).1 ≠ st))) K V = dropE (entsOf bs K V) st := by
      unfold dropE entsOf
      rw [List.filter_map]
      rfl
    have hle := List.length_filter_le (fun b => decide ((K b).1 ≠ st)) bs
    have hl2 : (dropE (entsOf bs K V) st).length = (bs.filter (fun b => decide ((K b).1 ≠ st))).length := by rw [← hents]; simp [entsOf]
    have hsame : ∀ k, k < w.heap.size → (W.putObj D (.deferred none)).heap[k]? = W.heap[k]? := fun k hk => World.putObj_heap_other (by have := HDl.out; omega)
    refine ⟨.int .i64 ((bs.length : Int) - ((bs.filter (fun b => decide ((K b).1 ≠ st))).length : Int)), ?_, ?_, ?_, ?_⟩
    · have hw : wrap64 ((bs.length : Int) - ((bs.filter (fun b => decide ((K b).1 ≠ st))).length : Int)) = (bs.length : Int) - ((bs.filter (fun b => decide ((K b).1 ≠ st))).length : Int) := by have := HLen.out; unfold wrap64; omega
      simp [results, Try.results15, go_sem]
      simpa using hw
    · rw [hl2]; simp [entsOf]
    · refine ⟨m, _, K, V, A1, N1, F1, HC.out.same (fun k hk => hsame k (HLt.out k hk)) (by simp [World.putObj]), hents.symm⟩
    · exact ⟨HKb.out.os, HKb.out.tape, HKb.out.output, Nat.le_trans HKb.out.size (by simp [World.putObj]), fun k hk hn => (hsame k hk).trans (HKb.out.block k hk hn)⟩
end Go.Proofs.Ytoglapodcejocaa.G
