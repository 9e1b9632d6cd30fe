/- A cache's nodes of one stripe are dropped, over this seat's program. Conditions: each lemma's own. -/
import Derived.Test.YtoglapodcejocaaDoorCacheAll
import Derived.Test.YtoglapodcejocaaDoorStillInR
namespace Go.Proofs.YtoglapodcejocaaDoor.G
open Go.RowKit Go.Shelf Go.Proofs.YtoglapodcejocaaDoorW.PrintWords Go.Proofs.YtoglapodcejocaaDoorW.PrintLast Go.Proofs.YtoglapodcejocaaDoorW.PrintMore
set_option linter.unusedVariables false
set_option linter.unusedSimpArgs false
attribute [local go_sem] Oper.semAt_some
set_option maxRecDepth 100000
theorem lenIn_known {F : Fence} {n : Nat} {P : Program} {ops : Array Oper} {rest : List Oper} {o : Oper} {a : Act} {Q : Exit → Act → World → Prop} {W : World} (hg : o.guard = none) (m : Operand) (t : TypeId) (ho : o.op = .call { callee := .builtin .len, args := #[m], argTypes := #[t] }) (v : Value) (hm : a.eval m = v) {u : Value} (hr : (Builtin.len_ #[t] o.type #[v]).run P W = .ok u W)
    (h : wpListIn F n P ops Q rest (a.put o.dst u) W) : wpListIn F n P ops Q (o :: rest) a W := by
  refine wpListIn_plain hg fun K hK => ?_
  unfold Oper.wpIn
  refine ⟨by simp [Oper.about, ho, resolve, Target.leads], ?_⟩
  rw [Oper.semAt_plain F _ _ (by rw [ho]; intro c hc'; cases hc')]
  simp [execOp, ho, resolve, invoke, builtin, hm, hr, Result.andThen]
  exact hK _ _ h
def dropE (E : List (Pl × ByteArray)) (st : Int) : List (Pl × ByteArray) := E.filter fun x => decide (x.1.1 ≠ st)
/-- The nodes that are left when q were looked at. -/
def dropN (bs : List Nat) (K : Nat → Pl) (st : Int) (q : Nat) : List Nat := (bs.take q).filter (fun b => decide ((K b).1 ≠ st)) ++ bs.drop q
theorem dropN_at {bs : List Nat} {K : Nat → Pl} {st : Int} {q : Nat} (h : q < bs.length) : dropN bs K st q = (bs.take q).filter (fun b => decide ((K b).1 ≠ st)) ++ bs[q] :: bs.drop (q + 1) := by
  unfold dropN
  rw [List.drop_eq_getElem_cons h]
theorem dropN_yes {bs : List Nat} {K : Nat → Pl} {st : Int} {q : Nat} (h : q < bs.length) (hk : (K bs[q]).1 = st) : dropN bs K st (q + 1) = (bs.take q).filter (fun b => decide ((K b).1 ≠ st)) ++ bs.drop (q + 1) := by
  unfold dropN
  rw [List.take_succ_eq_append_getElem h, List.filter_append]
  simp [hk]
theorem dropN_no {bs : List Nat} {K : Nat → Pl} {st : Int} {q : Nat} (h : q < bs.length) (hk : (K bs[q]).1 ≠ st) : dropN bs K st (q + 1) = dropN bs K st q := by
  rw [dropN_at h]
  unfold dropN
  rw [List.take_succ_eq_append_getElem h, List.filter_append]
  simp [hk]
theorem Lk.next_eq {A N : Nat → Nat} {x e : Nat} : ∀ {l : List Nat}, Lk A N x l e → N x = (l ++ [e]).getD 0 0
  | [], ⟨h, _⟩ => h
  | y :: l, ⟨h, _⟩ => h
theorem sq_next {bs : List Nat} {g q : Nat} (h : q ≤ bs.length) : (bs.drop q ++ [g]).getD 0 0 = sq bs g q := by
  unfold sq
  rw [List.getD_eq_getElem?_getD, List.getD_eq_getElem?_getD, ← List.drop_append_of_le_length h, List.getElem?_drop, Nat.add_zero]
theorem heap_old2 (w : World) (o0 o1 : Obj) : ((w.alloc o0).alloc o1).heap[w.heap.size]? = some o0 ∧ ((w.alloc o0).alloc o1).heap[w.heap.size + 1]? = some o1 ∧ Below w.heap.size w ((w.alloc o0).alloc o1) ∧ ((w.alloc o0).alloc o1).heap.size = w.heap.size + 2 :=
  ⟨blk_alloc (blk_new w o0) o1, by have := blk_new (w.alloc o0) o1; simpa using this, below_alloc (below_alloc (Below.refl _ _) _) _, by simp⟩
/-- Between two rounds of Drop's loop. -/
structure DropI (P : Nat → Prop) (w : World) (g m Bi : Nat) (room hit miss st : Int) (bs : List Nat) (K : Nat → Pl) (V : Nat → ByteArray) (pre : List (Fin bs.length)) (W : World) : Prop where
  at_ : pre = (List.finRange bs.length).take pre.length
  c : ∃ A N F, Cch P W g m room hit miss (dropN bs K st pre.length) K V A N F
  b2 : Boxed W w.heap.size 55 (ptr g)
  b3 : Boxed W (w.heap.size + 1) 3 (.int .i64 st)
  bi : Boxed W Bi 123 (ptr g)
  kb : KeptBut P w W
  lt : ∀ k, P k → k < w.heap.size
theorem take_len {m q : Nat} (h : q ≤ m) {pre : List (Fin m)} (e : pre = (List.finRange m).take q) : pre.length = q := by rw [e]; exact fin_take_len h
theorem dropI_all {P w g m Bi room hit miss st bs K V} {pre : List (Fin bs.length)} {W : World} (h : DropI P w g m Bi room hit miss st bs K V pre W) : AllR bs g Bi pre W := by
  obtain ⟨A, N, F, hc⟩ := h.c
  refine ⟨h.bi.cell, ⟨_, _, hc.rm.root⟩, fun q hq => ⟨fun e => ?_, fun hlt => ?_⟩⟩
  · subst e
    have hl : pre.length = 0 := take_len (Nat.zero_le _) hq
    rw [hl] at hc
    have h1 := hc.lk.next_eq
    have e0 : dropN bs K st 0 = bs.drop 0 := by unfold dropN; simp
    rw [e0, sq_next (Nat.zero_le _)] at h1
    rw [← h1]
    exact (hc.rm.next (.inl rfl)).1
  · have hl : pre.length = q := take_len (Nat.le_of_lt hlt) hq
    rw [hl, dropN_at hlt] at hc
    have h1 := (Lk.append.1 hc.lk).2.next_eq
    rw [sq_next hlt] at h1
    have hm : bs[q] ∈ (bs.take q).filter (fun b => decide ((K b).1 ≠ st)) ++ bs[q] :: bs.drop (q + 1) := List.mem_append_right _ (List.mem_cons_self ..)
    rw [show sq bs g (q + 1) = N bs[q] from h1.symm]
    exact ⟨(hc.rm.next (.inr hm)).1, _, _, hc.rm.node _ hm⟩
theorem dropI_own {P w g m Bi room hit miss st bs K V} {B : Nat} (hB : w.heap.size ≤ B) : OwnFrom B (DropI P w g m Bi room hit miss st bs K V) := fun pre X Y row h hg hr => by
  have hr' : ∀ r, row = some r → ∃ o : Obj, X.heap[r]? = some o ∧ o.isCells = false := fun r e => (hr r e).2
  have hbox : ∀ {b t v}, Boxed X b t v → Boxed Y b t v := fun {b t v} hb => hb.kept hg (fun e' => by obtain ⟨o, ho, hc⟩ := hr' b e'.symm; rw [show X.heap[b]? = _ from hb] at ho; cases ho; cases hc)
  obtain ⟨A, N, F, hc⟩ := h.c
  refine ⟨h.at_, ⟨A, N, F, hc.same (fun k hk => hg.block k (hc.lt k hk) (fun e => ?_)) hg.size⟩, hbox h.b2, hbox h.b3, hbox h.bi, ?_, h.lt⟩
  · have h1 := (hr k e.symm).1
    have h2 := h.lt k hk
    omega
  · exact ⟨hg.os.trans h.kb.os, hg.tape.trans h.kb.tape, hg.output.trans h.kb.output, Nat.le_trans h.kb.size hg.size, fun k hk hn => (hg.block k (Nat.lt_of_lt_of_le hk h.kb.size) (fun e => by have := (hr k e.symm).1; omega)).trans (h.kb.block k hk hn)⟩
end Go.Proofs.YtoglapodcejocaaDoor.G
