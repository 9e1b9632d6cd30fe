/- A ring's nodes, one by one, over this seat's program. Conditions: each lemma's own. -/
import Derived.Test.YtoglapodcejocaaDoorCacheSeq
import Derived.LaidEqlPtr
import Derived.Lib.Builder
namespace Go.Proofs.YtoglapodcejocaaDoor.G
open Go.RowKit Go.Proofs.YtoglapodcejocaaDoorW.PrintWords Go.Proofs.YtoglapodcejocaaDoorW.PrintLast Go.Proofs.YtoglapodcejocaaDoorW.PrintMore
set_option linter.unusedVariables false
set_option linter.unusedSimpArgs false
attribute [local go_sem] Oper.semAt_some
set_option maxRecDepth 100000
theorem nodeInfo : ∃ j, Tryd.prog.info? 81 = some j ∧ j.size ≠ 0 := by
  have h : (Tryd.prog.info? 81).map (fun i => i.size) = some 5 := by kernel_rfl
  cases e : Tryd.prog.info? 81 with
  | none => rw [e] at h; cases h
  | some j => rw [e] at h; simp at h; exact ⟨j, rfl, by omega⟩
def Laid (W : World) (b : Nat) : Prop := ∃ cs t, W.heap[b]? = some (.cells cs t (0, 0))
theorem neq_other {W : World} {x g : Nat} (h : x ≠ g) (hx : Laid W x) (hg : Laid W g) : (binOp .neq 79 (ptr x) (ptr g)).run Tryd.prog W = .ok (.bool true) W := by
  obtain ⟨j, hj, hz⟩ := nodeInfo
  obtain ⟨ca, ta, ha⟩ := hx
  obtain ⟨cb, tb, hb⟩ := hg
  have hne : (⟨x, 0, none⟩ : Addr) ≠ ⟨g, 0, none⟩ := fun e => h (by injection e)
  have h1 : ∀ d : Nat, (Op.equalIn (d + 1) 79 (.pointer (some ⟨x, 0, none⟩)) (.pointer (some ⟨g, 0, none⟩))).run Tryd.prog W = .ok false W := fun d => by
    simp [Op.equalIn, run_underlying Tryd.underlying79, sizeOf, typeInfo, hj, hz, run_sameAddr_other W hne ha hb]
  simp only [binOp]
  simp [Op.equal, Op.maxDepth, h1 9999]
theorem neq_self (W : World) (g : Nat) : (binOp .neq 79 (ptr g) (ptr g)).run Tryd.prog W = .ok (.bool false) W := by
  obtain ⟨j, hj, _⟩ := nodeInfo
  exact Lib.run_neq_ptr_same W _ Tryd.underlying79 hj
theorem fin_take {m q : Nat} (h : q < m) : (List.finRange m).take (q + 1) = (List.finRange m).take q ++ [⟨q, h⟩] := by
  rw [List.take_succ_eq_append_getElem (by simpa using h)]
  simp
theorem fin_take_len {m q : Nat} (h : q ≤ m) : ((List.finRange m).take q).length = q := by simp; omega
/-- The i-th node, or behind the last one the root. -/
def sq (bs : List Nat) (g i : Nat) : Nat := (bs ++ [g]).getD i 0
theorem sq_lt {bs : List Nat} {g i : Nat} (h : i < bs.length) : sq bs g i = bs[i] := by
  unfold sq
  rw [List.getD_eq_getElem?_getD, List.getElem?_append_left h, List.getElem?_eq_getElem h]; rfl
theorem sq_last (bs : List Nat) (g : Nat) : sq bs g bs.length = g := by
  unfold sq
  rw [List.getD_eq_getElem?_getD, List.getElem?_append_right (Nat.le_refl _)]; simp
abbrev nencs (bs : List Nat) (i : Fin bs.length) : Array Value := #[ptr (bs[i.val])]
/-- What the walk over the nodes must know of the world behind each round. -/
def AllR (bs : List Nat) (g Bi : Nat) (pre : List (Fin bs.length)) (W : World) : Prop :=
  W.cell? ⟨Bi, 0, none⟩ = some (ptr g) ∧ Laid W g ∧ ∀ q, pre = (List.finRange bs.length).take q → (q = 0 → W.cell? ⟨g, 4, none⟩ = some (ptr (sq bs g 0))) ∧ ∀ h : q < bs.length, W.cell? ⟨bs[q], 4, none⟩ = some (ptr (sq bs g (q + 1))) ∧ Laid W bs[q]
def AllX (bs : List Nat) (pre : List (Fin bs.length)) (x : Fin bs.length) : Prop := pre = (List.finRange bs.length).take x.val
def valBlk : Value → Nat
  | .pointer (some a) => a.block
  | _ => 0
theorem idx_sq {bs : List Nat} {g q : Nat} (hd : (bs ++ [g]).Nodup) (hq : q ≤ bs.length) : (bs ++ [g]).idxOf (sq bs g q) = q := by
  have hl : q < (bs ++ [g]).length := by simp; omega
  have e : sq bs g q = (bs ++ [g])[q] := by
    unfold sq
    rw [List.getD_eq_getElem?_getD, List.getElem?_eq_getElem hl]; rfl
  rw [e]
  exact hd.idxOf_getElem q hl
theorem all_meas {bs : List Nat} {g q : Nat} (hd : (bs ++ [g]).Nodup) (h : q < bs.length) : bs.length - (bs ++ [g]).idxOf (valBlk (ptr (sq bs g (q + 1)))) < bs.length - (bs ++ [g]).idxOf (valBlk (ptr (sq bs g q))) := by
  show bs.length - (bs ++ [g]).idxOf (sq bs g (q + 1)) < bs.length - (bs ++ [g]).idxOf (sq bs g q)
  rw [idx_sq hd (by omega), idx_sq hd (by omega)]
  omega
set_option maxHeartbeats 4000000 in
theorem all_seq (n : Nat) (hn : 1 ≤ n) (Bi g : Nat) (bs : List Nat) (hd : (bs ++ [g]).Nodup) (w : World) :
    SeqR Fence.wide n Tryd.prog 61 #[ptr Bi] (nencs bs) (AllR bs g Bi) (AllX bs) (fun xs => xs = List.finRange bs.length) 0 w := fun L J W hW hJ hR hY h0 => by
  obtain ⟨k0, -, k1⟩ := hR _ _ h0
  have k2 := (k1 0 rfl).1 rfl
  have HR := Aside0.mk hR
  have HY := Aside0.mk hY
  have HH0 := Aside0.mk h0
  have HD := Aside0.mk hd
  clear hR hW hY hJ h0 k1 hd
  refine callsIn_of_wp Tryd.func61 rfl trivial ?_ rfl
  simp only [Tryd.ntmps61, List.size_toArray, List.length_cons, List.length_nil, Nat.reduceAdd, Nat.reduceSub, Array.replicate_succ, Array.replicate_zero, List.push_toArray, List.append_toArray, List.nil_append, List.cons_append]
  gi_wp2
  gi_loopw [3] (fun v wr => ∃ q : Nat, Aside0 (q ≤ bs.length) ∧ v = ptr (sq bs g q) ∧ Aside0 (J ((List.finRange bs.length).take q) wr) ∧ Aside0 (W.heap.size ≤ wr.heap.size)) (fun v _ => bs.length - (bs ++ [g]).idxOf (valBlk v))
  case atStart => exact ⟨0, ⟨Nat.zero_le _⟩, rfl, HH0, ⟨Nat.le_refl _⟩⟩
  case round =>
    obtain ⟨q, HQ, rfl, HJs, HSz⟩ := hrel
    obtain ⟨c0, cl1, c1⟩ := HR.out _ _ HJs.out
    by_cases hlt : q < bs.length
    · obtain ⟨c2, cl2⟩ := (c1 q rfl).2 hlt
      rw [← sq_lt (g := g) hlt] at c2 cl2
      have hne : sq bs g q ≠ g := by
        intro e
        have h1 := idx_sq HD.out (Nat.le_of_lt hlt)
        have h2 := idx_sq (g := g) HD.out (Nat.le_refl bs.length)
        rw [sq_last] at h2
        rw [e] at h1
        omega
      have hnq := neq_other hne cl2 cl1
      obtain ⟨fn, tmps, assign, body, hy, hRd⟩ := HY.out _ (⟨q, hlt⟩ : Fin bs.length) wr HJs.out rfl (by have := HSz.out; omega)
      rw [← fin_take hlt] at hRd
      dsimp only [nencs] at hy
      rw [← sq_lt (g := g) hlt] at hy
      have HLT := Aside0.mk hlt
      have HM := Aside0.mk (all_meas HD.out hlt)
      obtain ⟨x, hx⟩ : ∃ x, x = sq bs g q := ⟨_, rfl⟩
      obtain ⟨y, hyy⟩ : ∃ y, y = sq bs g (q + 1) := ⟨_, rfl⟩
      rw [← hx] at hne hy c2 hnq ⊢
      rw [← hyy] at c2
      have HY1 := Aside0.mk hyy
      have HX1 := Aside0.mk hx
      clear c1 hlt hyy hx cl1 cl2 hne
      gi_wp2
      refine hRd.mono ?_
      rintro e W3 ⟨rfl, hJ3, hs3, -⟩
      have HS3 := Aside0.mk (Nat.le_trans HSz.out hs3.size)
      have HJ3 := Aside0.mk hJ3
      clear hJ3 hs3
      gi_wp2
      go_roundw
      case rel => exact ⟨q + 1, ⟨HLT.out⟩, by rw [HY1.out], HJ3, HS3⟩
      case measure => rw [HY1.out, HX1.out]; exact HM.out
    · have hqe : q = bs.length := by have := HQ.out; omega
      subst hqe
      rw [sq_last]
      have hnq := neq_self wr g
      clear c1 hlt cl1
      gi_wp2
      go_end0
      exact ⟨⟨_, rfl⟩, _, List.take_of_length_le (by simp), HJs.out⟩
theorem all_in (n : Nat) (g : Nat) (w : World) :
    CallsIn Fence.wide n Tryd.prog 40 #[ptr g] w fun e w' => e = .returned (.func (.func 61) #[] #[ptr w.heap.size]) ∧ w' = w.alloc (.cells #[ptr g] 123) := by
  refine callsIn_of_wp Tryd.func40 rfl trivial ?_ rfl
  simp only [Tryd.ntmps40, List.size_toArray, List.length_cons, List.length_nil, Nat.reduceAdd, Nat.reduceSub, Array.replicate_succ, Array.replicate_zero, List.push_toArray, List.append_toArray, List.nil_append, List.cons_append]
  gi_wp2
  go_ret
  exact ⟨rfl, rfl⟩
end Go.Proofs.YtoglapodcejocaaDoor.G
