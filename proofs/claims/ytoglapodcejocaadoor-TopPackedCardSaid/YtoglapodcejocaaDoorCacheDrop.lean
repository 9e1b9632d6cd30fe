/- A cache as its nodes in order, and one of them taken out, over this seat's program. Conditions: each lemma's own. -/
import Derived.Test.YtoglapodcejocaaDoorCacheFn
namespace Go.Proofs.YtoglapodcejocaaDoor.G
open Go.RowKit Go.Proofs.YtoglapodcejocaaDoorW.PrintWords Go.Proofs.YtoglapodcejocaaDoorW.PrintLast Go.Proofs.YtoglapodcejocaaDoorW.PrintMore
set_option linter.unusedVariables false
set_option linter.unusedSimpArgs false
set_option maxRecDepth 100000
theorem delete_known {P : Program} {ops : Array Oper} {rest : List Oper} {o : Oper} {a : Act} {Q : Exit → Act → World → Prop} {W : World} (hg : o.guard = none) (m x : Operand) (t k : TypeId) (ho : o.op = .call { callee := .builtin .delete, args := #[m, x], argTypes := #[t, k] }) (v u : Value) (hm : a.eval m = v) (hx : a.eval x = u) {v' : Value} {w' : World} (hr : (Builtin.delete_ #[t, k] o.type #[v, u]).run P W = .ok v' w')
    (h : wpList P ops Q rest (a.put o.dst v') w') : wpList P ops Q (o :: rest) a W := by
  refine wpList_plain hg fun K hK => ?_
  unfold Oper.wp
  simp [execOp, ho, resolve, invoke, builtin, hm, hx, hr, Result.andThen]
  exact hK _ _ h
theorem RM.ne_map {w g m m' room hit miss S K V A N} (h : RM w g m room hit miss S K V A N) {es : Array MapEntry} {cl : Nat} (hm : w.heap[m']? = some (.map es cl)) {b : Nat} (hb : b = g ∨ S b) : m' ≠ b := by
  rintro rfl
  rcases hb with rfl | hb
  · rw [h.root] at hm; cases hm
  · rw [h.node _ hb] at hm; cases hm
theorem RM.sub {w g m room hit miss S K V A N} {S' : Nat → Prop} (h : RM w g m room hit miss S K V A N) (hs : ∀ b, S' b → S b) : RM w g m room hit miss S' K V A N := ⟨h.root, fun b hb => h.node b (hs b hb), fun hg => h.apart (hs g hg)⟩
/-- A cache whose nodes are those of bs, the one that was used last first. -/
structure Cch (P : Nat → Prop) (w : World) (g m : Nat) (room hit miss : Int) (bs : List Nat) (K : Nat → Pl) (V : Nat → ByteArray) (A N : Nat → Nat) (F : Pl → Option Nat) : Prop where
  rm : RM w g m room hit miss (fun b => b ∈ bs) K V A N
  mp : MapP w m bs.length F
  lk : Lk A N g bs g
  nd : (g :: bs).Nodup
  ok : ∀ b ∈ bs, plOk (K b)
  fs : ∀ p b, F p = some b ↔ b ∈ bs ∧ K b = p
  pg : P g
  pm : P m
  pb : ∀ b ∈ bs, P b
  lt : ∀ k, P k → k < w.heap.size
theorem Cch.same {P w w' g m room hit miss bs K V A N F} (h : Cch P w g m room hit miss bs K V A N F) (hk : ∀ k, P k → w'.heap[k]? = w.heap[k]?) (hs : w.heap.size ≤ w'.heap.size) : Cch P w' g m room hit miss bs K V A N F :=
  ⟨h.rm.same (fun b hb => hk b (by rcases hb with rfl | hb; exact h.pg; exact h.pb b hb)), h.mp.same (hk m h.pm), h.lk, h.nd, h.ok, h.fs, h.pg, h.pm, h.pb, fun k hp => Nat.lt_of_lt_of_le (h.lt k hp) hs⟩
theorem Cch.below {P w w' g m room hit miss bs K V A N F} (h : Cch P w g m room hit miss bs K V A N F) (hb : Below w.heap.size w w') : Cch P w' g m room hit miss bs K V A N F := h.same (fun k hp => hb.block k (h.lt k hp)) hb.size
set_option maxHeartbeats 4000000 in
theorem rdrop_calls {P : Nat → Prop} {w : World} {g m : Nat} {room hit miss : Int} {l1 l2 : List Nat} {b : Nat} {K : Nat → Pl} {V : Nat → ByteArray} {A N : Nat → Nat} {F : Pl → Option Nat} (h : Cch P w g m room hit miss (l1 ++ b :: l2) K V A N F) :
    Calls Tryd.prog 34 #[ptr g, ptr b] w fun e w' => e = .returned (.tuple #[]) ∧ Cch P w' g m room hit miss (l1 ++ l2) K V (fput A (N b) (A b)) (fput N (A b) (N b)) (pput F (K b) none) ∧ KeptBut P w w' := by
  have hbm : b ∈ l1 ++ b :: l2 := by simp
  obtain ⟨k1, k2⟩ := Lk.append.1 h.lk
  have hAb : A b = g ∨ A b ∈ l1 ++ b :: l2 := by
    rcases List.mem_cons.1 k1.ahead_mem with h' | h'
    · exact .inl h'
    · exact .inr (by simp [h'])
  have hNb : N b = g ∨ N b ∈ l1 ++ b :: l2 := by
    rcases List.mem_append.1 k2.next_mem with h' | h'
    · exact .inr (by simp [h'])
    · exact .inl (List.mem_singleton.1 h')
  have hout := out_calls h.rm hbm hAb hNb
  obtain ⟨w1, hw1⟩ : ∃ w1, w1 = ((w.setCell ⟨A b, 4, none⟩ (ptr (N b))).setCell ⟨N b, 3, none⟩ (ptr (A b))).drew := ⟨_, rfl⟩
  have r1 : RM w1 g m room hit miss (fun b' => b' ∈ l1 ++ b :: l2) K V (fput A (N b) (A b)) (fput N (A b) (N b)) := by
    rw [hw1]; exact ((h.rm.setNext hAb (N b)).setAhead hNb (A b)).same (fun _ _ => rfl)
  obtain ⟨es, cl, hm⟩ := h.mp.isMap
  have hmA := h.rm.ne_map hm hAb
  have hmN := h.rm.ne_map hm hNb
  have m1 : MapP w1 m (l1 ++ b :: l2).length F := h.mp.same (by
    rw [hw1]
    exact ((Below.heap_setCell _ ⟨N b, 3, none⟩ _ m hmN).trans (Below.heap_setCell _ ⟨A b, 4, none⟩ _ m hmA)))
  have kb1 : KeptBut P w w1 := by
    have pA : P (A b) := by rcases hAb with h' | h'; rw [h']; exact h.pg; exact h.pb _ h'
    have pN : P (N b) := by rcases hNb with h' | h'; rw [h']; exact h.pg; exact h.pb _ h'
    rw [hw1]
    exact ((KeptBut.set _ pA).trans (KeptBut.set _ pN)).trans (KeptBut.drew P _)
  rw [show (l1 ++ b :: l2).length = (l1 ++ l2).length + 1 by simp; omega] at m1
  have m1d : MapP w1.drew m ((l1 ++ l2).length + 1) F := m1.same rfl
  obtain ⟨w2, hrun, m2, ht⟩ := m1d.del (K b) (h.ok b hbm) ((h.fs _ _).2 ⟨hbm, rfl⟩) 0
  have hd := h.nd
  have hsub : ∀ x, x ∈ l1 ++ l2 → x ∈ l1 ++ b :: l2 := fun x hx => by
    rcases List.mem_append.1 hx with h' | h' <;> simp [h']
  have hbn : b ∉ l1 ++ l2 := fun hx => by
    have h1 := (List.nodup_cons.1 hd).2
    rw [List.nodup_append] at h1
    rcases List.mem_append.1 hx with h' | h'
    · exact h1.2.2 b h' b (by simp) rfl
    · exact (List.nodup_cons.1 h1.2.1).1 h'
  have HR := Aside0.mk (show Cch P w2 g m room hit miss (l1 ++ l2) K V (fput A (N b) (A b)) (fput N (A b) (N b)) (pput F (K b) none) from by
    refine ⟨(r1.sub hsub).same (fun x hx => ?_), m2, h.lk.out hd, ?_, fun x hx => h.ok x (hsub x hx), fun p x => ?_, h.pg, h.pm, fun x hx => h.pb x (hsub x hx), fun k hk => ?_⟩
    · have hne : m ≠ x := (r1.sub hsub).ne_map (m' := m) m1.isMap.choose_spec.choose_spec hx
      have hlt : x < w1.drew.heap.size := (r1.sub hsub).lt hx
      exact ht.grown.block x hlt (fun e => hne (by injection e with e; exact e.symm))
    · refine hd.sublist ?_
      exact List.Sublist.cons_cons _ ((List.Sublist.refl l1).append (List.sublist_cons_self b l2))
    · unfold pput
      by_cases e : p = K b
      · rw [if_pos e]
        constructor
        · intro h'; cases h'
        rintro ⟨h1, h2⟩
        have e1 := (h.fs (K x) x).2 ⟨hsub x h1, rfl⟩
        have e2 := (h.fs (K b) b).2 ⟨hbm, rfl⟩
        rw [h2, e, e2] at e1
        injection e1 with e1
        exact absurd (e1 ▸ h1) hbn
      · rw [if_neg e, h.fs]
        refine ⟨fun ⟨h1, h2⟩ => ⟨?_, h2⟩, fun ⟨h1, h2⟩ => ⟨hsub x h1, h2⟩⟩
        rcases List.mem_append.1 h1 with h' | h'
        · simp [h']
        · rcases List.mem_cons.1 h' with h'' | h''
          · exact absurd (h'' ▸ h2.symm) e
          · simp [h'']
    · have := h.lt k hk
      have h1 := kb1.size
      have h2 := ht.grown.size
      exact Nat.lt_of_lt_of_le this (Nat.le_trans h1 h2))
  have HK := Aside0.mk (show KeptBut P w w2 from (kb1.trans (KeptBut.drew P w1)).trans (KeptBut.turned ht h.pm))
  have c0 : w1.cell? ⟨g, 5, none⟩ = some (.map (some m)) := (blk_cell r1.root 5).trans rfl
  have c1 : w1.cell? ⟨b, 0, none⟩ = some (.int .i64 (K b).1) := (blk_cell (r1.node b hbm) 0).trans rfl
  have c2 : w1.cell? ⟨b, 1, none⟩ = some (.int .i64 (K b).2) := (blk_cell (r1.node b hbm) 1).trans rfl
  have HRun := Aside0.mk hrun
  have HOut := Aside0.mk hout
  clear hrun hout m1 m1d m2 ht r1 kb1 hm hmA hmN h hAb hNb k1 k2 hd hsub hbn hbm
  go_enter Tryd.func34, Tryd.ntmps34
  go_wp2_with (go_at_call 36; refine HOut.out.mono ?_; rintro e w' ⟨rfl, rfl⟩)
  rw [← hw1]
  clear hw1
  go_still_tail 8, (by kernel_rfl)
  refine delete_known rfl (.tmp 9) (.tmp 13) 82 36 rfl (.map (some m)) (plV (K b)) rfl rfl HRun.out ?_
  go_wp2
  go_end0
  exact ⟨rfl, HR.out, HK.out⟩
end Go.Proofs.YtoglapodcejocaaDoor.G
