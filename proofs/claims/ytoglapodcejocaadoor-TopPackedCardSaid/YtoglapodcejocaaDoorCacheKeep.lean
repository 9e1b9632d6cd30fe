/- A cache among other blocks that its calls leave as they are, over this seat's program. Conditions: each lemma's own. -/
import Derived.Test.YtoglapodcejocaaDoorCacheColl
namespace Go.Proofs.YtoglapodcejocaaDoor.G
open Go.RowKit Go.Proofs.YtoglapodcejocaaDoorW.PrintWords Go.Proofs.YtoglapodcejocaaDoorW.PrintLast Go.Proofs.YtoglapodcejocaaDoorW.PrintMore
set_option linter.unusedVariables false
set_option linter.unusedSimpArgs false
set_option maxRecDepth 100000
/-- A cache at g; keep: blocks that are not its own. -/
structure CInv (w0 w : World) (keep : Nat → Prop) (g : Nat) (room hit miss : Int) (E : List (Pl × ByteArray)) : Prop where
  ex : ∃ P, CchE P w g room hit miss E ∧ (∀ k, P k → w0.heap.size ≤ k) ∧ (∀ k, keep k → k < w.heap.size ∧ ¬ P k)
  below : Below w0.heap.size w0 w
theorem CchE.below {P w w' g room hit miss E} (h : CchE P w g room hit miss E) (hb : Below w.heap.size w w') : CchE P w' g room hit miss E := by
  obtain ⟨m, bs, K, V, A, N, F, h, he⟩ := h
  exact ⟨m, bs, K, V, A, N, F, h.below hb, he⟩
theorem CchE.lt {P w g room hit miss E} (h : CchE P w g room hit miss E) : ∀ k, P k → k < w.heap.size := by
  obtain ⟨m, bs, K, V, A, N, F, h, he⟩ := h
  exact h.lt
theorem CInv.step {w0 w w' : World} {keep keep' : Nat → Prop} {g : Nat} {room hit miss : Int} {E : List (Pl × ByteArray)} (h : CInv w0 w keep g room hit miss E) (hb : Below w.heap.size w w') (hk : ∀ k, keep' k → keep k ∨ (w.heap.size ≤ k ∧ k < w'.heap.size)) : CInv w0 w' keep' g room hit miss E := by
  obtain ⟨⟨P, h1, h2, h3⟩, h4⟩ := h
  refine ⟨⟨P, h1.below hb, h2, fun k hkk => ?_⟩, h4.trans (hb.mono h4.size)⟩
  rcases hk k hkk with h' | ⟨h', h''⟩
  · exact ⟨Nat.lt_of_lt_of_le (h3 k h').1 hb.size, (h3 k h').2⟩
  · exact ⟨h'', fun hp => by have := h1.lt k hp; omega⟩
theorem CInv.kb {w0 w w' : World} {P : Nat → Prop} (h : KeptBut P w w') (hP : ∀ k, P k → w0.heap.size ≤ k) (hb : Below w0.heap.size w0 w) : Below w0.heap.size w0 w' := hb.trans (h.below hb.size hP)
theorem cinv_new {w0 w : World} {room : Int} (hb : Below w0.heap.size w0 w) (h1 : 1 ≤ room) (h2 : room ≤ 4096) (keep : Nat → Prop) (hk : ∀ k, keep k → k < w.heap.size) :
    Calls Tryd.prog 15 #[.int .i64 room] w fun e w' => ∃ g, e = .returned (.tuple #[ptr g, .int .i64 0]) ∧ CInv w0 w' keep g room 0 0 [] ∧ Below w.heap.size w w' :=
  (new_calls h1 h2).mono fun e w' ⟨he, hc, hb'⟩ => ⟨_, he, ⟨⟨_, ⟨_, _, _, _, _, _, _, hc, rfl⟩, fun k hk => by have := hb.size; omega, fun k hkk => ⟨Nat.lt_of_lt_of_le (hk k hkk) hb'.size, fun hp => by have := hk k hkk; omega⟩⟩, hb.trans (hb'.mono hb.size)⟩, hb'⟩
/-- What a cache's call leaves: the blocks that are kept. -/
structure Leaves (keep : Nat → Prop) (w w' : World) : Prop where
  block : ∀ k, keep k → w'.heap[k]? = w.heap[k]?
  size : w.heap.size ≤ w'.heap.size
theorem Leaves.refl (keep : Nat → Prop) (w : World) : Leaves keep w w := ⟨fun _ _ => rfl, Nat.le_refl _⟩
theorem CInv.put {w0 w : World} {keep : Nat → Prop} {g : Nat} {room hit miss : Int} {E : List (Pl × ByteArray)} (h : CInv w0 w keep g room hit miss E) (hl : E.length ≤ 1000000) (p : Pl) (hp : plOk p) (s : ByteArray) :
    Calls Tryd.prog 17 #[ptr g, .agg #[.int .i64 p.1, .int .i64 p.2], .string s] w fun e w' => e = .returned (.tuple #[]) ∧ CInv w0 w' keep g room hit miss (putE room E p s) ∧ Leaves keep w w' := by
  obtain ⟨⟨P, h1, h2, h3⟩, h4⟩ := h
  refine (put_calls h1 hl p hp s).mono ?_
  rintro e w' ⟨rfl, P', q1, q2, q3⟩
  refine ⟨rfl, ⟨⟨P', q1, fun k hk => ?_, fun k hk => ⟨Nat.lt_of_lt_of_le (h3 k hk).1 q3.size, fun hp => ?_⟩⟩, CInv.kb q3 h2 h4⟩, fun k hk => q3.block k (h3 k hk).1 (h3 k hk).2, q3.size⟩
  · rcases q2 k hk with h' | h'
    · exact h2 k h'
    · exact Nat.le_trans h4.size h'
  · rcases q2 k hp with h' | h'
    · exact (h3 k hk).2 h'
    · have := (h3 k hk).1; omega
theorem CInv.get {w0 w : World} {keep : Nat → Prop} {g : Nat} {room hit miss : Int} {E : List (Pl × ByteArray)} (h : CInv w0 w keep g room hit miss E) (hh : 0 ≤ hit ∧ hit ≤ 1000000) (hi : 0 ≤ miss ∧ miss ≤ 1000000) (p : Pl) (hp : plOk p) :
    Calls Tryd.prog 18 #[ptr g, .agg #[.int .i64 p.1, .int .i64 p.2]] w fun e w' => ∃ E' s is hit' miss', e = .returned (.tuple #[.string s, .bool is]) ∧ getE E p hit miss = (E', s, is, hit', miss') ∧ CInv w0 w' keep g room hit' miss' E' ∧ Leaves keep w w' := by
  obtain ⟨⟨P, h1, h2, h3⟩, h4⟩ := h
  refine (get_calls h1 hh hi p hp).mono ?_
  rintro e w' ⟨E', s, is, hit', miss', rfl, he, q1, q3⟩
  exact ⟨E', s, is, hit', miss', rfl, he, ⟨⟨P, q1, h2, fun k hk => ⟨Nat.lt_of_lt_of_le (h3 k hk).1 q3.size, (h3 k hk).2⟩⟩, CInv.kb q3 h2 h4⟩, fun k hk => q3.block k (h3 k hk).1 (h3 k hk).2, q3.size⟩
theorem getE_le2 (E : List (Pl × ByteArray)) (p : Pl) (hit miss : Int) {E' s is h' m'} (h : getE E p hit miss = (E', s, is, h', m')) : E'.length ≤ E.length ∧ ((h' = hit ∧ m' = miss + 1) ∨ (h' = hit + 1 ∧ m' = miss)) := by
  unfold getE at h
  cases hf : findE E p with
  | none =>
    rw [hf] at h
    simp only [Prod.mk.injEq] at h
    obtain ⟨rfl, _, _, rfl, rfl⟩ := h
    exact ⟨Nat.le_refl _, .inl ⟨rfl, rfl⟩⟩
  | some x =>
    rw [hf] at h
    simp only [Prod.mk.injEq] at h
    obtain ⟨rfl, _, _, rfl, rfl⟩ := h
    refine ⟨?_, .inr ⟨rfl, rfl⟩⟩
    have hm := List.mem_of_find?_eq_some hf
    have hp := List.find?_some hf
    rcases Nat.lt_or_ge (withoutE E p).length E.length with h2 | h2
    · exact h2
    · exfalso
      have e := List.filter_eq_self.1 ((List.filter_sublist (p := fun x : Pl × ByteArray => decide (x.1 ≠ p)) (l := E)).eq_of_length_le h2)
      have h3 := e x hm
      simp at hp h3
      exact h3 hp
theorem CInv.orderLen {w0 w : World} {keep : Nat → Prop} {g : Nat} {room hit miss : Int} {E : List (Pl × ByteArray)} (h : CInv w0 w keep g room hit miss E) (hl : E.length ≤ 1000000) :
    Calls Tryd.prog 20 #[ptr g] w fun e w' => ∃ A c, e = .returned (.slice A E.length c) ∧ Below w.heap.size w w' := by
  obtain ⟨⟨P, h1, h2, h3⟩, h4⟩ := h
  refine (order_calls h1 hl).mono ?_
  rintro e w' ⟨v, rfl, hrow, hb⟩
  rcases hrow.2 with ⟨rfl, h0⟩ | ⟨b, cap, cur, rfl, _⟩
  · exact ⟨none, 0, by rw [h0], hb⟩
  · exact ⟨_, cap, rfl, hb⟩
end Go.Proofs.YtoglapodcejocaaDoor.G
