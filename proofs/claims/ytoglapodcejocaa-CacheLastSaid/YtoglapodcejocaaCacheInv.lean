/- A cache among other blocks that its calls leave as they are, over this seat's program. Conditions: each lemma's own. -/
import Derived.Test.YtoglapodcejocaaCacheRefGet
import Derived.Test.YtoglapodcejocaaCacheColl
namespace Go.Proofs.Ytoglapodcejocaa.G
open Go.RowKit Go.Proofs.YtoglapodcejocaaW.PrintWords Go.Proofs.YtoglapodcejocaaW.PrintLast Go.Proofs.YtoglapodcejocaaW.PrintMore
set_option linter.unusedVariables false
set_option linter.unusedSimpArgs false
set_option maxRecDepth 100000
/-- A cache at g; keep: blocks that are not its own. -/
structure CInv (w0 w : World) (keep : Nat → Prop) (g : Nat) (room hit miss : Int) (E : List (Pl × ByteArray)) : Prop where
  ex : ∃ P, CchE P w g room hit miss E ∧ (∀ k, P k → w0.heap.size ≤ k) ∧ (∀ k, keep k → k < w.heap.size ∧ ¬ P k)
  below : Below w0.heap.size w0 w
theorem CchE.below {P w w' g room hit miss E} (h : CchE P w g room hit miss E) (hb : Below w.heap.size w w') : CchE P w' g room hit miss E := by
  obtain ⟨m, bs, K, V, A, N, F, h, he⟩ := h
  exact ⟨m, bs, K, V, A, N, F, h.below hb, he⟩
theorem CchE.lt {P w g room hit miss E} (h : CchE P w g room hit miss E) : ∀ k, P k → k < w.heap.size := by
  obtain ⟨m, bs, K, V, A, N, F, h, he⟩ := h
  exact h.lt
theorem CInv.step {w0 w w' : World} {keep keep' : Nat → Prop} {g : Nat} {room hit miss : Int} {E : List (Pl × ByteArray)} (h : CInv w0 w keep g room hit miss E) (hb : Below w.heap.size w w') (hk : ∀ k, keep' k → keep k ∨ (w.heap.size ≤ k ∧ k < w'.heap.size)) : CInv w0 w' keep' g room hit miss E := by
  obtain ⟨⟨P, h1, h2, h3⟩, h4⟩ := h
  refine ⟨⟨P, h1.below hb, h2, fun k hkk => ?_⟩, h4.trans (hb.mono h4.size)⟩
  rcases hk k hkk with h' | ⟨h', h''⟩
  · exact ⟨Nat.lt_of_lt_of_le (h3 k h').1 hb.size, (h3 k h').2⟩
  · exact ⟨h'', fun hp => by have := h1.lt k hp; omega⟩
theorem CInv.kb {w0 w w' : World} {P : Nat → Prop} (h : KeptBut P w w') (hP : ∀ k, P k → w0.heap.size ≤ k) (hb : Below w0.heap.size w0 w) : Below w0.heap.size w0 w' := hb.trans (h.below hb.size hP)
theorem cinv_new {w0 w : World} {room : Int} (hb : Below w0.heap.size w0 w) (h1 : 1 ≤ room) (h2 : room ≤ 4096) (keep : Nat → Prop) (hk : ∀ k, keep k → k < w.heap.size) :
    Calls Try.prog 8 #[.int .i64 room] w fun e w' => ∃ g, e = .returned (.tuple #[ptr g, .int .i64 0]) ∧ CInv w0 w' keep g room 0 0 [] ∧ Below w.heap.size w w' :=
  (new_calls h1 h2).mono fun e w' ⟨he, hc, hb'⟩ => ⟨_, he, ⟨⟨_, ⟨_, _, _, _, _, _, _, hc, rfl⟩, fun k hk => by have := hb.size; omega, fun k hkk => ⟨Nat.lt_of_lt_of_le (hk k hkk) hb'.size, fun hp => by have := hk k hkk; omega⟩⟩, hb.trans (hb'.mono hb.size)⟩, hb'⟩
/-- What a cache's call leaves: the blocks that are kept. -/
structure Leaves (keep : Nat → Prop) (w w' : World) : Prop where
  block : ∀ k, keep k → w'.heap[k]? = w.heap[k]?
  size : w.heap.size ≤ w'.heap.size
theorem Leaves.refl (keep : Nat → Prop) (w : World) : Leaves keep w w := ⟨fun _ _ => rfl, Nat.le_refl _⟩
theorem CInv.put {w0 w : World} {keep : Nat → Prop} {g : Nat} {room hit miss : Int} {E : List (Pl × ByteArray)} (h : CInv w0 w keep g room hit miss E) (hl : E.length ≤ 1000000) (p : Pl) (hp : plOk p) (s : ByteArray) :
    Calls Try.prog 10 #[ptr g, .agg #[.int .i64 p.1, .int .i64 p.2], .string s] w fun e w' => e = .returned (.tuple #[]) ∧ CInv w0 w' keep g room hit miss (putE room E p s) ∧ Leaves keep w w' := by
  obtain ⟨⟨P, h1, h2, h3⟩, h4⟩ := h
  refine (put_calls h1 hl p hp s).mono ?_
  rintro e w' ⟨rfl, P', q1, q2, q3⟩
  refine ⟨rfl, ⟨⟨P', q1, fun k hk => ?_, fun k hk => ⟨Nat.lt_of_lt_of_le (h3 k hk).1 q3.size, fun hp => ?_⟩⟩, CInv.kb q3 h2 h4⟩, fun k hk => q3.block k (h3 k hk).1 (h3 k hk).2, q3.size⟩
  · rcases q2 k hk with h' | h'
    · exact h2 k h'
    · exact Nat.le_trans h4.size h'
  · rcases q2 k hp with h' | h'
    · exact (h3 k hk).2 h'
    · have := (h3 k hk).1; omega
theorem CInv.get {w0 w : World} {keep : Nat → Prop} {g : Nat} {room hit miss : Int} {E : List (Pl × ByteArray)} (h : CInv w0 w keep g room hit miss E) (hh : 0 ≤ hit ∧ hit ≤ 1000000) (hi : 0 ≤ miss ∧ miss ≤ 1000000) (p : Pl) (hp : plOk p) :
    Calls Try.prog 12 #[ptr g, .agg #[.int .i64 p.1, .int .i64 p.2]] w fun e w' => ∃ E' s is hit' miss', e = .returned (.tuple #[.string s, .bool is]) ∧ getE E p hit miss = (E', s, is, hit', miss') ∧ CInv w0 w' keep g room hit' miss' E' ∧ Leaves keep w w' := by
  obtain ⟨⟨P, h1, h2, h3⟩, h4⟩ := h
  refine (get_calls h1 hh hi p hp).mono ?_
  rintro e w' ⟨E', s, is, hit', miss', rfl, he, q1, q3⟩
  exact ⟨E', s, is, hit', miss', rfl, he, ⟨⟨P, q1, h2, fun k hk => ⟨Nat.lt_of_lt_of_le (h3 k hk).1 q3.size, (h3 k hk).2⟩⟩, CInv.kb q3 h2 h4⟩, fun k hk => q3.block k (h3 k hk).1 (h3 k hk).2, q3.size⟩
theorem CInv.drop {w0 w : World} {keep : Nat → Prop} {g : Nat} {room hit miss : Int} {E : List (Pl × ByteArray)} (h : CInv w0 w keep g room hit miss E) (hl : E.length ≤ 1000000) (st : Int) :
    Calls Try.prog 15 #[ptr g, .int .i64 st] w fun e w' => e = .returned (.int .i64 ((E.length : Int) - ((dropE E st).length : Int))) ∧ CInv w0 w' keep g room hit miss (dropE E st) ∧ Leaves keep w w' := by
  obtain ⟨⟨P, h1, h2, h3⟩, h4⟩ := h
  refine (drop_calls h1 hl st).mono ?_
  rintro e w' ⟨rfl, q1, q3⟩
  exact ⟨rfl, ⟨⟨P, q1, h2, fun k hk => ⟨Nat.lt_of_lt_of_le (h3 k hk).1 q3.size, (h3 k hk).2⟩⟩, CInv.kb q3 h2 h4⟩, fun k hk => q3.block k (h3 k hk).1 (h3 k hk).2, q3.size⟩
theorem CInv.hits {w0 w : World} {keep : Nat → Prop} {g : Nat} {room hit miss : Int} {E : List (Pl × ByteArray)} (h : CInv w0 w keep g room hit miss E) :
    Calls Try.prog 16 #[ptr g] w fun e w' => e = .returned (.tuple #[.int .i64 hit, .int .i64 miss]) ∧ w' = w.drew := by
  obtain ⟨⟨P, ⟨m, bs, K, V, A, N, F, h1, he⟩, h2, h3⟩, h4⟩ := h
  exact hits_calls h1
/-! #### rows of places -/
def plCellsL (L : List Pl) : List Value := L.flatMap fun p => [.int .i64 p.1, .int .i64 p.2]
theorem placesOf_eq (E : List (Pl × ByteArray)) : placesOf E = plCellsL (E.map (·.1)) := by
  unfold placesOf plCellsL
  rw [List.flatMap_map]
theorem reps_pl_acc (W : World) (base : Nat) (ok : Nat → Prop) : ∀ (L : List Pl) (X : List S34) (C : List Value), Reps (k34.M W base ok) 2 X C → Reps (k34.M W base ok) 2 (X ++ L.map toP) (C ++ plCellsL L)
  | [], X, C, h => by simpa [plCellsL] using h
  | p :: L, X, C, h => by
    have h1 := h.snoc (p := toP p) (c := [.int .i64 p.1, .int .i64 p.2]) (k34_mkM W base ok (toP p)) rfl
    have h2 := reps_pl_acc W base ok L _ _ h1
    have e : plCellsL (p :: L) = [.int .i64 p.1, .int .i64 p.2] ++ plCellsL L := by simp [plCellsL]
    rw [e, ← List.append_assoc, List.map_cons, show toP p :: L.map toP = [toP p] ++ L.map toP from rfl, ← List.append_assoc]
    exact h2
theorem reps_pl (W : World) (base : Nat) (ok : Nat → Prop) (L : List Pl) : Reps (k34.M W base ok) 2 (L.map toP) (plCellsL L) := by
  have h := reps_pl_acc W base ok L [] [] (Reps.none _ _)
  simpa using h
theorem row_places {W : World} {base : Nat} {v : Value} {L : List Pl} (h : W.ownsRow base 34 2 v L.length (plCellsL L)) : Kd.R k34 34 W base (fun _ => True) v (L.map toP) :=
  ⟨fun _ _ => trivial, plCellsL L, by rw [List.length_map]; exact h, reps_pl _ _ _ _⟩
theorem lit_places {W : World} {base b : Nat} (L : List Pl) {cs : Array Value} (hcs : cs.toList = plCellsL L) (h : W.heap[b]? = some (.cells cs 34 (0, 0))) (hb : base ≤ b) (hm : L.length ≤ 1000000) : Kd.R k34 34 W base (fun _ => True) (.slice (some ⟨b, 0, none⟩) L.length L.length) (L.map toP) := by
  have hl : (plCellsL L).length = L.length * 2 := by
    have := (reps_pl W base (fun _ => True) L).1
    rw [List.length_map] at this
    exact this
  refine row_places ⟨hl, .inr ⟨b, L.length, cs, rfl, hb, h, Nat.le_refl _, by unfold maxLen; omega, ?_, ?_⟩⟩
  · rw [← hl, ← hcs, Array.length_toList]
  · rw [hcs, ← hl, List.take_length]
theorem CInv.order {w0 w : World} {keep : Nat → Prop} {g : Nat} {room hit miss : Int} {E : List (Pl × ByteArray)} (h : CInv w0 w keep g room hit miss E) (hl : E.length ≤ 1000000) :
    Calls Try.prog 18 #[ptr g] w fun e w' => ∃ A c, e = .returned (.slice A E.length c) ∧ E.length ≤ c ∧ Kd.F k34 w' (fun k => w.heap.size ≤ k ∧ k < w'.heap.size) A E.length ((E.map (·.1)).map toP) ∧ Below w.heap.size w w' := by
  obtain ⟨⟨P, h1, h2, h3⟩, h4⟩ := h
  refine (order_calls h1 hl).mono ?_
  rintro e w' ⟨v, rfl, hrow, hb⟩
  have hR := row_places (L := E.map (·.1)) (by rw [List.length_map, ← placesOf_eq]; exact hrow)
  obtain ⟨A, c, he, hc, hF⟩ := Kd.R_V (base' := 0) (Kd.R_mono (Kd.R_bound hR) (fun k hk => (⟨hk.2.1, hk.2.2.1⟩ : w.heap.size ≤ k ∧ k < w'.heap.size)))
  rw [List.length_map, List.length_map] at he hc hF
  exact ⟨A, c, by rw [he], hc, hF, hb⟩
theorem F_leaves {α : Type} {d : Kd α} {W W' : World} {ok keep : Nat → Prop} {A : Option Addr} {n : Nat} {xs : List α} (h : Kd.F d W ok A n xs) (hl : Leaves keep W W') (hk : ∀ k, ok k → keep k) : Kd.F d W' ok A n xs := Kd.F_step h (fun k ho _ => hl.block k (hk k ho))
theorem same_places {w : World} {L : List Pl} (hL : L.length ≤ 1000000) {A A' : Option Addr} {c c' n : Nat} (hn : n = L.length) (h1 : Kd.C k34 w A n (L.map toP)) (h2 : n ≤ c) (h3 : Kd.C k34 w A' n (L.map toP)) (h4 : n ≤ c') :
    Calls Try.prog 17 #[.slice A n c, .slice A' n c'] w fun e w' => e = .returned (.bool true) ∧ Drawn0 w w' := by
  have h := caulkref26_SamePlaces.calls 1000001 A c (L.map toP) A' c' (L.map toP) true w (by rw [List.length_map, ← hn]; exact h1) (by rw [List.length_map, ← hn]; exact h2) (by rw [List.length_map, ← hn]; exact h3) (by rw [List.length_map, ← hn]; exact h4) (same_f L hL)
  rw [List.length_map, ← hn] at h
  exact h
end Go.Proofs.Ytoglapodcejocaa.G
