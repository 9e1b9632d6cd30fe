/- The walk of caulklaw36.CachePlays over this seat's program: it answers true. Conditions: the places are of whole numbers of 64 bits. -/
import Derived.Test.YtoglapodcejocaaCacheLives
namespace Go.Proofs.Ytoglapodcejocaa.G
open Go.RowKit Go.Proofs.YtoglapodcejocaaW.PrintWords Go.Proofs.YtoglapodcejocaaW.PrintLast Go.Proofs.YtoglapodcejocaaW.PrintMore
set_option linter.unusedVariables false
set_option linter.unusedSimpArgs false
set_option maxRecDepth 100000
theorem rput_calls {ok : Nat → Prop} {w : World} {A : Option Addr} {c : Nat} {E : List (Pl × ByteArray)} (hF : Kd.F k90 w ok A E.length (E.map toS)) (hc : E.length ≤ c) {room : Int} (h1 : 1 ≤ room) (h2 : room ≤ 4096) (hE : (E.length : Int) ≤ room) (hit miss : Int) (p : Pl) (s : ByteArray) :
    Calls Try.prog 11 #[.agg #[.int .i64 room, .slice A E.length c, .int .i64 hit, .int .i64 miss], .agg #[.int .i64 p.1, .int .i64 p.2], .string s] w fun e w' => ∃ A' c', e = .returned (.agg #[.int .i64 room, .slice A' (putE room E p s).length c', .int .i64 hit, .int .i64 miss]) ∧ (putE room E p s).length ≤ c' ∧ Kd.F k90 w' (fun k => w.heap.size ≤ k ∧ k < w'.heap.size) A' (putE room E p s).length ((putE room E p s).map toS) ∧ Below w.heap.size w w' := by
  have h := caulkref36_Cache_Put.calls 1000001 room A c (E.map toS) hit miss p.1 p.2 s room _ hit miss w (by rw [List.length_map]; exact Kd.F_now hF) (by rw [List.length_map]; exact hc) (put_f E p s room hit miss h1 h2 hE)
  rw [List.length_map] at h
  refine h.mono ?_
  rintro e w' ⟨v, rfl, hR, hb⟩
  obtain ⟨A', c', he, hc', hF'⟩ := Kd.R_V (base' := 0) (Kd.R_mono (Kd.R_bound hR) (fun k hk => (⟨hk.2.1, hk.2.2.1⟩ : w.heap.size ≤ k ∧ k < w'.heap.size)))
  rw [List.length_map] at he hc' hF'
  exact ⟨A', c', by rw [he], hc', hF', hb⟩
theorem rdropE_calls {ok : Nat → Prop} {w : World} {A : Option Addr} {c : Nat} {E : List (Pl × ByteArray)} (hF : Kd.F k90 w ok A E.length (E.map toS)) (hc : E.length ≤ c) (hE : E.length ≤ 1000000) (room hit miss n : Int) :
    Calls Try.prog 14 #[.agg #[.int .i64 room, .slice A E.length c, .int .i64 hit, .int .i64 miss], .int .i64 n] w fun e w' => ∃ A' c', e = .returned (.tuple #[.agg #[.int .i64 room, .slice A' (dropE E n).length c', .int .i64 hit, .int .i64 miss], .int .i64 ((E.length : Int) - ((dropE E n).length : Int))]) ∧ (dropE E n).length ≤ c' ∧ Kd.F k90 w' (fun k => w.heap.size ≤ k ∧ k < w'.heap.size) A' (dropE E n).length ((dropE E n).map toS) ∧ Below w.heap.size w w' := by
  have h := caulkref36_Cache_Drop.calls 1000001 room A c (E.map toS) hit miss n room _ hit miss _ w (by rw [List.length_map]; exact Kd.F_now hF) (by rw [List.length_map]; exact hc) (drop_f E n hE room hit miss)
  rw [List.length_map] at h
  refine h.mono ?_
  rintro e w' ⟨v, rfl, hR, hb⟩
  obtain ⟨A', c', he, hc', hF'⟩ := Kd.R_V (base' := 0) (Kd.R_mono (Kd.R_bound hR) (fun k hk => (⟨hk.2.1, hk.2.2.1⟩ : w.heap.size ≤ k ∧ k < w'.heap.size)))
  rw [List.length_map] at he hc' hF'
  exact ⟨A', c', by rw [he], hc', hF', hb⟩
theorem rorder_calls {ok : Nat → Prop} {w : World} {A : Option Addr} {c : Nat} {E : List (Pl × ByteArray)} (hF : Kd.F k90 w ok A E.length (E.map toS)) (hc : E.length ≤ c) (hE : E.length ≤ 1000000) (room hit miss : Int) :
    Calls Try.prog 19 #[.agg #[.int .i64 room, .slice A E.length c, .int .i64 hit, .int .i64 miss]] w fun e w' => ∃ A' c', e = .returned (.slice A' E.length c') ∧ E.length ≤ c' ∧ Kd.F k34 w' (fun k => w.heap.size ≤ k ∧ k < w'.heap.size) A' E.length ((E.map (·.1)).map toP) ∧ Below w.heap.size w w' := by
  have h := caulkref36_Cache_Order.calls 1000001 room A c (E.map toS) hit miss _ w (by rw [List.length_map]; exact Kd.F_now hF) (by rw [List.length_map]; exact hc) (order_f E hE room hit miss)
  rw [List.length_map] at h
  refine h.mono ?_
  rintro e w' ⟨v, rfl, hR, hb⟩
  obtain ⟨A', c', he, hc', hF'⟩ := Kd.R_V (base' := 0) (Kd.R_mono (Kd.R_bound hR) (fun k hk => (⟨hk.2.1, hk.2.2.1⟩ : w.heap.size ≤ k ∧ k < w'.heap.size)))
  rw [List.length_map, List.length_map] at he hc' hF'
  exact ⟨A', c', by rw [he], hc', hF', hb⟩
theorem rget_callsE {ok : Nat → Prop} {w : World} {A : Option Addr} {c : Nat} {E : List (Pl × ByteArray)} (hF : Kd.F k90 w ok A E.length (E.map toS)) (hc : E.length ≤ c) {room hit miss : Int} (h1 : 1 ≤ room) (h2 : room ≤ 4096) (hE : (E.length : Int) ≤ room) (hh : 0 ≤ hit ∧ hit ≤ 1000000) (hi : 0 ≤ miss ∧ miss ≤ 1000000) (p : Pl) {E' : List (Pl × ByteArray)} {s : ByteArray} {is : Bool} {hit' miss' : Int} (hg : getE E p hit miss = (E', s, is, hit', miss')) :
    Calls Try.prog 13 #[.agg #[.int .i64 room, .slice A E.length c, .int .i64 hit, .int .i64 miss], .agg #[.int .i64 p.1, .int .i64 p.2]] w fun e w' => ∃ A' c', e = .returned (.tuple #[.agg #[.int .i64 room, .slice A' E'.length c', .int .i64 hit', .int .i64 miss'], .string s, .bool is]) ∧ E'.length ≤ c' ∧ Kd.F k90 w' (fun k => ok k ∨ (w.heap.size ≤ k ∧ k < w'.heap.size)) A' E'.length (E'.map toS) ∧ Below w.heap.size w w' := by
  refine (rget_calls hF hc h1 h2 hE hh hi p).mono ?_
  rintro e w' ⟨v, E1, s1, is1, h1', m1', rfl, he, hV, hb⟩
  rw [hg] at he
  simp only [Prod.mk.injEq] at he
  obtain ⟨rfl, rfl, rfl, rfl, rfl⟩ := he
  obtain ⟨A', c', he, hc', hF'⟩ := hV
  rw [List.length_map] at he hc' hF'
  refine ⟨A', c', by rw [he], hc', Kd.F_mono (Kd.F_bound hF') (fun k hk => ?_), hb⟩
  rcases hk.1 with h' | h'
  · exact .inl h'
  · exact .inr ⟨h', hk.2⟩
theorem cells5 {W : World} {g t : Nat} {a b c d x : Value} (h : W.heap[g]? = some (.cells #[a, b, c, d, x] t (0, 0))) : (W.cell? ⟨g, 0, none⟩ = some a ∧ W.cell? ⟨g, 1, none⟩ = some b ∧ W.cell? ⟨g, 2, none⟩ = some c ∧ W.cell? ⟨g, 3, none⟩ = some d ∧ W.cell? ⟨g, 4, none⟩ = some x) ∧ (W.frozen? ⟨g, 0, none⟩ = false ∧ W.frozen? ⟨g, 1, none⟩ = false ∧ W.frozen? ⟨g, 2, none⟩ = false ∧ W.frozen? ⟨g, 3, none⟩ = false ∧ W.frozen? ⟨g, 4, none⟩ = false) :=
  ⟨⟨(blk_cell h 0).trans rfl, (blk_cell h 1).trans rfl, (blk_cell h 2).trans rfl, (blk_cell h 3).trans rfl, (blk_cell h 4).trans rfl⟩, blk_frozen h 0, blk_frozen h 1, blk_frozen h 2, blk_frozen h 3, blk_frozen h 4⟩
theorem CInv.other {w0 w w' : World} {keep : Nat → Prop} {g b : Nat} {room hit miss : Int} {E : List (Pl × ByteArray)} (h : CInv w0 w keep g room hit miss E) (hk : ∀ k, k ≠ b → w'.heap[k]? = w.heap[k]?) (hs : w'.heap.size = w.heap.size) (hb : keep b) (hB : Below w0.heap.size w0 w') : CInv w0 w' keep g room hit miss E := by
  obtain ⟨⟨P, ⟨m, bs, K, V, A, N, F, h1, he⟩, h2, h3⟩, h4⟩ := h
  exact ⟨⟨P, ⟨m, bs, K, V, A, N, F, h1.same (fun k hp => hk k (fun e => (h3 b hb).2 (e ▸ hp))) (Nat.le_of_eq hs.symm), he⟩, h2, fun k hkk => ⟨by rw [hs]; exact (h3 k hkk).1, (h3 k hkk).2⟩⟩, hB⟩
/-- The cache at g and the document's, whose variable is block b, have the same. -/
def PlayI (w : World) (g b : Nat) (room : Int) (i : Nat) (wr : World) : Prop :=
  ∃ keep E A c hit miss, CInv w wr keep g room hit miss E ∧ keep b ∧ w.heap.size ≤ b ∧ wr.heap[b]? = some (.cells #[.int .i64 room, .slice A E.length c, .int .i64 hit, .int .i64 miss] 30 (0, 0)) ∧ Kd.F k90 wr (fun k => keep k ∧ k ≠ b) A E.length (E.map toS) ∧ E.length ≤ c ∧ (E.length : Int) ≤ room ∧ (0 ≤ hit ∧ hit ≤ i) ∧ (0 ≤ miss ∧ miss ≤ i)
/-- The document's variable written. -/
def put4 (w : World) (b : Nat) (x y z t : Value) : World := (((w.setCell ⟨b, 0, none⟩ x).setCell ⟨b, 1, none⟩ y).setCell ⟨b, 2, none⟩ z).setCell ⟨b, 3, none⟩ t
theorem put4_other (w : World) (b : Nat) (x y z t : Value) {k : Nat} (hk : k ≠ b) : (put4 w b x y z t).heap[k]? = w.heap[k]? := by
  unfold put4
  rw [Below.heap_setCell _ ⟨b, 3, none⟩ _ _ hk, Below.heap_setCell _ ⟨b, 2, none⟩ _ _ hk, Below.heap_setCell _ ⟨b, 1, none⟩ _ _ hk, Below.heap_setCell _ ⟨b, 0, none⟩ _ _ hk]
theorem put4_size (w : World) (b : Nat) (x y z t : Value) : (put4 w b x y z t).heap.size = w.heap.size := by simp [put4, World.setCell]
theorem put4_below {w0 w : World} {B b : Nat} (h : Below B w0 w) (hb : B ≤ b) (x y z t : Value) : Below B w0 (put4 w b x y z t) :=
  Below.setCell (Below.setCell (Below.setCell (Below.setCell h (p := ⟨b, 0, none⟩) hb _) (p := ⟨b, 1, none⟩) hb _) (p := ⟨b, 2, none⟩) hb _) (p := ⟨b, 3, none⟩) hb _
theorem put4_at {w : World} {b ty : Nat} {x0 y0 z0 t0 : Value} (h : w.heap[b]? = some (.cells #[x0, y0, z0, t0] ty (0, 0))) (x y z t : Value) : (put4 w b x y z t).heap[b]? = some (.cells #[x, y, z, t] ty (0, 0)) :=
  blk_put (blk_put (blk_put (blk_put h 0 _ rfl) 1 _ rfl) 2 _ rfl) 3 _ rfl
theorem playI_put {w w3 : World} {keep : Nat → Prop} {g b : Nat} {room hit miss : Int} {i n c : Nat} {A : Option Addr} {E : List (Pl × ByteArray)} {x0 y0 z0 t0 : Value} (h : CInv w w3 keep g room hit miss E) (hb : keep b) (hwb : w.heap.size ≤ b) (hblk : w3.heap[b]? = some (.cells #[x0, y0, z0, t0] 30 (0, 0)))
    (hF : Kd.F k90 w3 (fun k => keep k ∧ k ≠ b) A E.length (E.map toS)) (hc : E.length ≤ c) (hE : (E.length : Int) ≤ room) (hh : 0 ≤ hit ∧ hit ≤ i) (hi : 0 ≤ miss ∧ miss ≤ i) (hn : n = E.length) :
    PlayI w g b room i (put4 w3 b (.int .i64 room) (.slice A n c) (.int .i64 hit) (.int .i64 miss)) := by
  subst hn
  exact ⟨keep, E, A, c, hit, miss, h.other (fun k hk => put4_other _ _ _ _ _ _ hk) (put4_size _ _ _ _ _ _) hb (put4_below h.below hwb _ _ _ _), hb, hwb, put4_at hblk _ _ _ _, Kd.F_step hF (fun k hk _ => put4_other _ _ _ _ _ _ hk.2), hc, hE, hh, hi⟩
theorem playI_next {w w8 w9 : World} {keep : Nat → Prop} {g b : Nat} {room hit miss : Int} {i n c : Nat} {A : Option Addr} {E : List (Pl × ByteArray)} {x0 y0 z0 t0 : Value} (h : CInv w w8 keep g room hit miss E) (hb : keep b) (hwb : w.heap.size ≤ b) (hblk : w8.heap[b]? = some (.cells #[x0, y0, z0, t0] 30 (0, 0))) (hb9 : Below w8.heap.size w8 w9)
    (hF : Kd.F k90 w9 (fun k => (keep k ∧ k ≠ b) ∨ (w8.heap.size ≤ k ∧ k < w9.heap.size)) A E.length (E.map toS)) (hc : E.length ≤ c) (hE : (E.length : Int) ≤ room) (hh : 0 ≤ hit ∧ hit ≤ i) (hi : 0 ≤ miss ∧ miss ≤ i) (hn : n = E.length) :
    PlayI w g b room i (put4 w9 b (.int .i64 room) (.slice A n c) (.int .i64 hit) (.int .i64 miss)) ∧ Below w.heap.size w (put4 w9 b (.int .i64 room) (.slice A n c) (.int .i64 hit) (.int .i64 miss)) := by
  have h9 : CInv w w9 (fun k => keep k ∨ (w8.heap.size ≤ k ∧ k < w9.heap.size)) g room hit miss E := h.step hb9 (fun k hk => hk)
  have hlt := blk_lt hblk
  refine ⟨playI_put h9 (.inl hb) hwb (blk_below hblk hb9) (Kd.F_mono hF (fun k hk => ?_)) hc hE hh hi hn, put4_below h9.below hwb _ _ _ _⟩
  rcases hk with h' | h'
  · exact ⟨.inl h'.1, h'.2⟩
  · exact ⟨.inr h', by omega⟩
theorem PlayI.below {w wr wr' : World} {g b : Nat} {room : Int} {i : Nat} (h : PlayI w g b room i wr) (hb : Below wr.heap.size wr wr') : PlayI w g b room i wr' := by
  obtain ⟨keep, E, A, c, hit, miss, hI, hkb, hwb, hblk, hF, hc, hE, hh, hm⟩ := h
  exact ⟨keep, E, A, c, hit, miss, hI.step hb (fun k hk => .inl hk), hkb, hwb, blk_below hblk hb, Kd.F_below hF hb, hc, hE, hh, hm⟩
theorem getE_le (E : List (Pl × ByteArray)) (p : Pl) (hit miss : Int) {E' s is h' m'} (h : getE E p hit miss = (E', s, is, h', m')) : E'.length ≤ E.length ∧ ((h' = hit ∧ m' = miss + 1) ∨ (h' = hit + 1 ∧ m' = miss)) := by
  unfold getE at h
  cases hf : findE E p with
  | none =>
    rw [hf] at h
    simp only [Prod.mk.injEq] at h
    obtain ⟨rfl, _, _, rfl, rfl⟩ := h
    exact ⟨Nat.le_refl _, .inl ⟨rfl, rfl⟩⟩
  | some x =>
    rw [hf] at h
    simp only [Prod.mk.injEq] at h
    obtain ⟨rfl, _, _, rfl, rfl⟩ := h
    refine ⟨?_, .inr ⟨rfl, rfl⟩⟩
    have hm := List.mem_of_find?_eq_some hf
    have hp := List.find?_some hf
    rcases Nat.lt_or_ge (withoutE E p).length E.length with h2 | h2
    · exact h2
    · exfalso
      have e := List.filter_eq_self.1 ((List.filter_sublist (p := fun x : Pl × ByteArray => decide (x.1 ≠ p)) (l := E)).eq_of_length_le h2)
      have h3 := e x hm
      simp at hp h3
      exact h3 hp
def actsOk (l : List S36) : Prop := ∀ x ∈ l, (Lit.int .i64 x.f1.f0).wf = true ∧ (Lit.int .i64 x.f1.f1).wf = true
open Classical in
noncomputable def caulklaw36_CachePlays.f (k : Nat) (a0 : Int) (l1 : List S36) : Option Bool := if actsOk l1 then some true else none
def caulklaw36_CachePlays.Pure : Prop := ∀ (a0 : Int) (l1 : List S36), (Lit.int .i64 a0).wf = true → (l1.length * 48 ≤ 140737488351232 ∧ ∀ x ∈ l1, ((Lit.int .i64 x.f0).wf = true ∧ ((Lit.int .i64 x.f1.f0).wf = true ∧ (Lit.int .i64 x.f1.f1).wf = true) ∧ x.f2.size ≤ 140737488351232 ∧ (Lit.int .i64 x.f3).wf = true)) → ∃ k, caulklaw36_CachePlays.f k a0 l1 = some true
theorem caulklaw36_CachePlays.pure : caulklaw36_CachePlays.Pure := fun a0 l1 _ h => ⟨0, by unfold caulklaw36_CachePlays.f; exact if_pos (fun x hx => (h.2 x hx).2.1)⟩
set_option maxHeartbeats 8000000 in
theorem plays_none (room : Int) (A1 : Option Addr) (c1 n1 : Nat) (w : World) (h : room < 1 ∨ 4096 < room) :
    Calls Try.prog 3 #[.int .i64 room, .slice A1 n1 c1] w fun e w' => e = .returned (.bool true) ∧ Below w.heap.size w w' := by
  have HLv := Aside0.mk (lives_calls w)
  have HNo := fun W : World => Aside0.mk (new_none (w := W) h)
  obtain ⟨l, hf⟩ : ∃ l, caulkref36_New.f room = some (room, l, 0, 0, false) := by
    unfold caulkref36_New.f
    by_cases h1 : room ≥ 1
    · rw [if_pos h1, decide_eq_false (by omega)]; exact ⟨_, rfl⟩
    · rw [if_neg h1]; exact ⟨_, rfl⟩
  have HRf := Aside0.mk hf
  clear hf h
  go_enter Try.func3, Try.ntmps3
  go_wp2_with (first
    | (go_at_call 7; refine HLv.out.mono ?_; rintro e w1 ⟨rfl, hb⟩; have HB1 := Aside0.mk hb; clear hb)
    | (go_at_call 8; refine (HNo _).out.mono ?_; rintro e w1n ⟨rfl, hw⟩; subst hw)
    | (go_at_call 9; (with_reducible refine (caulkref36_New.calls room _ _ _ _ _ _ HRf.out).mono ?_); rintro e w2 ⟨v, rfl, hR, hb⟩; have HB2 := Aside0.mk (HB1.out.trans (hb.mono HB1.out.size)); clear hb; obtain ⟨A2, c2, rfl⟩ := Kd.R_slice hR; clear hR)
    | ((with_reducible refine gate_dst (N := 7) rfl ?_); refine box_event ?hg (N := 7) ?hd (cs := #[.int .i64 0, .slice none 0 0, .int .i64 0, .int .i64 0]) (t := 30) ?hr ?_; (case hd => rfl); (case hg => rfl); (case hr => first | (go_simp; done) | (go_simp; rfl)); intro g7 hg7 w4 hx7 hb4; have HG7 := Aside0.mk hg7; have HB4 := Aside0.mk (HB2.out.trans (hb4.mono HB2.out.size)); obtain ⟨⟨e0, e1, e2, e3⟩, f0, f1, f2, f3⟩ := cells4 hx7; clear hx7 hg7 hb4))
  go_ret
  exact ⟨rfl, put4_below HB4.out (by have h1 := HG7.out; have h2 := HB2.out.size; omega) _ _ _ _⟩
set_option maxHeartbeats 8000000 in
theorem plays_many (room : Int) (A1 : Option Addr) (c1 n1 : Nat) (w : World) (h1 : 1 ≤ room) (h2 : room ≤ 4096) (hn : 100 < n1) :
    Calls Try.prog 3 #[.int .i64 room, .slice A1 n1 c1] w fun e w' => e = .returned (.bool true) ∧ Below w.heap.size w w' := by
  have HLv := Aside0.mk (lives_calls w)
  have HRf := Aside0.mk (show caulkref36_New.f room = some (room, [], 0, 0, true) by unfold caulkref36_New.f; rw [if_pos h1, decide_eq_true h2])
  have HR1 := Aside0.mk h1
  have HR2 := Aside0.mk h2
  have d1 : decide ((n1 : Int) > 100) = true := decide_eq_true (by omega)
  have d2 : (100 : Int) < (n1 : Int) := by omega
  clear h1 h2 hn
  go_enter Try.func3, Try.ntmps3
  go_wp2_with (first
    | (go_at_call 7; refine HLv.out.mono ?_; rintro e w1 ⟨rfl, hb⟩; have HB1 := Aside0.mk hb; clear hb)
    | (go_at_call 8; refine (new_calls HR1.out HR2.out).mono ?_; rintro e w2 ⟨rfl, hw, hb⟩; have HB2 := Aside0.mk (HB1.out.trans (hb.mono HB1.out.size)); clear hw hb)
    | (go_at_call 9; (with_reducible refine (caulkref36_New.calls room _ _ _ _ _ _ HRf.out).mono ?_); rintro e w3 ⟨v, rfl, hR, hb⟩; have HB3 := Aside0.mk (HB2.out.trans (hb.mono HB2.out.size)); clear hb; obtain ⟨A2, c2, rfl⟩ := Kd.R_slice hR; clear hR)
    | ((with_reducible refine gate_dst (N := 7) rfl ?_); refine box_event ?hg (N := 7) ?hd (cs := #[.int .i64 0, .slice none 0 0, .int .i64 0, .int .i64 0]) (t := 30) ?hr ?_; (case hd => rfl); (case hg => rfl); (case hr => first | (go_simp; done) | (go_simp; rfl)); intro g7 hg7 w4 hx7 hb4; have HG7 := Aside0.mk hg7; have HB4 := Aside0.mk (HB3.out.trans (hb4.mono HB3.out.size)); obtain ⟨⟨e0, e1, e2, e3⟩, f0, f1, f2, f3⟩ := cells4 hx7; clear hx7 hg7 hb4))
  go_ret
  exact ⟨rfl, put4_below HB4.out (by have h1 := HG7.out; have h2 := HB3.out.size; omega) _ _ _ _⟩
set_option maxHeartbeats 8000000 in
theorem plays_ok (room : Int) (A1 : Option Addr) (c1 : Nat) (l1 : List S36) (w : World) (h1 : 1 ≤ room) (h2 : room ≤ 4096) (hr1 : Kd.C k36 w A1 l1.length l1) (hok : actsOk l1) (hn : l1.length ≤ 100) :
    Calls Try.prog 3 #[.int .i64 room, .slice A1 l1.length c1] w fun e w' => e = .returned (.bool true) ∧ Below w.heap.size w w' := by
  obtain ⟨n1, hn1⟩ : ∃ n1, n1 = l1.length := ⟨_, rfl⟩
  have HN1 := Aside0.mk hn1
  have HN := Aside0.mk (show n1 ≤ 100 by omega)
  have HRow := Aside0.mk hr1
  have HOk := Aside0.mk hok
  have HLv := Aside0.mk (lives_calls w)
  have HRf := Aside0.mk (show caulkref36_New.f room = some (room, [], 0, 0, true) by unfold caulkref36_New.f; rw [if_pos h1, decide_eq_true h2])
  have HR1 := Aside0.mk h1
  have HR2 := Aside0.mk h2
  have d1 : decide ((n1 : Int) > 100) = false := decide_eq_false (by omega)
  have d2 : (n1 : Int) ≤ 100 := by omega
  rw [← hn1]
  clear h1 h2 hn hn1 hr1 hok
  go_enter Try.func3, Try.ntmps3
  go_wp2_with (first
    | (go_at_call 7; refine HLv.out.mono ?_; rintro e w1 ⟨rfl, hb⟩; have HB1 := Aside0.mk hb; clear hb)
    | (go_at_call 8; refine (cinv_new HB1.out HR1.out HR2.out (fun _ => False) (fun _ h => h.elim)).mono ?_; rintro e w2 ⟨g, rfl, hi, hb⟩; have HI2 := Aside0.mk hi; clear hi hb)
    | (go_at_call 9; (with_reducible refine (caulkref36_New.calls room _ _ _ _ _ _ HRf.out).mono ?_); rintro e w3 ⟨v, rfl, hR, hb⟩; have HB3 := Aside0.mk hb; clear hb; obtain ⟨A2, c2, rfl⟩ := Kd.R_slice hR; have HR3 := Aside0.mk hR; clear hR)
    | ((with_reducible refine gate_dst (N := 7) rfl ?_); refine box_event ?hg (N := 7) ?hd (cs := #[.int .i64 0, .slice none 0 0, .int .i64 0, .int .i64 0]) (t := 30) ?hr ?_; (case hd => rfl); (case hg => rfl); (case hr => first | (go_simp; done) | (go_simp; rfl)); intro g7 hg7 w4 hx7 hb4; have HG7 := Aside0.mk hg7; have HB4 := Aside0.mk hb4; have HX7 := Aside0.mk hx7; obtain ⟨⟨e0, e1, e2, e3⟩, f0, f1, f2, f3⟩ := cells4 hx7; clear hx7 hg7 hb4))
  have hz2 := HI2.out.below.size
  have hz3 := HB3.out.size
  have hz4 := HB4.out.size
  have hg7 := HG7.out
  have hlt7 := blk_lt HX7.out
  have h24 : Below w2.heap.size w2 w4 := HB3.out.trans (HB4.out.mono hz3)
  have hI4 : CInv w w4 (fun k => w2.heap.size ≤ k ∧ k < w4.heap.size) g room 0 0 [] := HI2.out.step h24 (fun k hk => .inr hk)
  have hV4 : Kd.V k90 90 w4 0 (fun k => w2.heap.size ≤ k ∧ k < w3.heap.size) (.slice A2 0 c2) [] := Kd.V_below (Kd.R_V (base' := 0) (Kd.R_mono (Kd.R_bound HR3.out) (fun k hk => ⟨hk.2.1, hk.2.2.1⟩))) HB4.out
  obtain ⟨-, hc2, hF4⟩ := Kd.V_at hV4
  obtain ⟨w5, hw5⟩ : ∃ w5, w5 = put4 w4 g7 (.int .i64 room) (.slice A2 0 c2) (.int .i64 0) (.int .i64 0) := ⟨_, rfl⟩
  have hP5 : PlayI w g g7 room 0 w5 := by
    rw [hw5]
    exact playI_put (E := []) hI4 ⟨by omega, by omega⟩ (by omega) HX7.out (Kd.F_mono hF4 (fun k hk => ⟨⟨hk.1, by omega⟩, by omega⟩)) (Nat.zero_le _) (by have := HR1.out; simp; omega) (by omega) (by omega) rfl
  have hB5 : Below w.heap.size w w5 := by rw [hw5]; exact put4_below hI4.below (by omega) _ _ _ _
  have hw5' : w5 = (((w4.setCell ⟨g7, 0, none⟩ (.int .i64 room)).setCell ⟨g7, 1, none⟩ (.slice A2 0 c2)).setCell ⟨g7, 2, none⟩ (.int .i64 0)).setCell ⟨g7, 3, none⟩ (.int .i64 0) := hw5
  have HP5 := Aside0.mk hP5
  have HB5 := Aside0.mk hB5
  have HW5 := Aside0.mk hw5'
  clear hz2 hz3 hz4 hg7 hlt7 h24 hI4 hV4 hF4 hc2 hw5 hw5' hP5 hB5 e0 e1 e2 e3 f0 f1 f2 f3
  first | rw [← HW5.out] | (simp only [List.length_nil] ; rw [← HW5.out])
  clear HW5
  go_loopw [59] (fun v wr => ∃ i : Nat, v = .int .i64 i ∧ Aside0 (i ≤ n1) ∧ Aside0 (PlayI w g g7 room i wr) ∧ Aside0 (Below w.heap.size w wr)) (fun v _ => n1 - (intOf v).toNat)
  case atStart => exact ⟨0, rfl, ⟨Nat.zero_le _⟩, HP5, HB5⟩
  case round =>
    obtain ⟨i, rfl, HIle, HPI, HBr⟩ := hrel
    by_cases hlt : i < n1
    · have hr1 := HRow.out
      rw [← HN1.out] at hr1
      have hC := Kd.C_below hr1 HBr.out
      obtain ⟨ad, eA, x0, x1, x2, x3, x4⟩ := at_T36 hC (i : Int) (by omega) (by omega)
      obtain ⟨x, hx⟩ : ∃ x, x = rd_T36 l1 (i : Int) := ⟨_, rfl⟩
      rw [← hx] at x0 x1 x2 x3 x4
      have hlt' := hlt
      rw [HN1.out] at hlt'
      have hxm : x ∈ l1 := by
        rw [hx]; unfold rd_T36
        rw [Int.toNat_natCast, List.getD_eq_getElem?_getD, List.getElem?_eq_getElem hlt']
        exact List.getElem_mem hlt'
      have HXok := Aside0.mk (HOk.out x hxm)
      cases eA
      rw [Int.toNat_natCast] at x0 x1 x2 x3 x4
      have d3 : decide ((i : Int) < (n1 : Int)) = true := decide_eq_true (by omega)
      have d4 : (0 : Int) ≤ (i : Int) := by omega
      have d5 : (i : Int) < (n1 : Int) := by omega
      clear hr1 hC hx hlt' hxm
      go_upto_block 2 with ((with_reducible refine gate_dst (N := 10) rfl ?_); refine box_event ?hg (N := 10) ?hd (cs := #[.int .i64 0, .int .i64 0, .int .i64 0, .string (⟨#[]⟩ : ByteArray), .int .i64 0]) (t := 36) ?hr ?_; (case hd => rfl); (case hg => rfl); (case hr => first | (go_simp; done) | (go_simp; rfl)); intro gb hgb w6 hx6 hb6; have HGB := Aside0.mk hgb; have HB6 := Aside0.mk hb6; have HX6 := Aside0.mk hx6; obtain ⟨⟨e0, e1, e2, e3, e4⟩, f0, f1, f2, f3, f4⟩ := cells5 hx6; clear hx6 hgb hb6)
      obtain ⟨w7, hw7⟩ : ∃ w7, w7 = ((((w6.setCell ⟨gb, 0, none⟩ (.int .i64 x.f0)).setCell ⟨gb, 1, none⟩ (.int .i64 x.f1.f0)).setCell ⟨gb, 2, none⟩ (.int .i64 x.f1.f1)).setCell ⟨gb, 3, none⟩ (.string x.f2)).setCell ⟨gb, 4, none⟩ (.int .i64 x.f3) := ⟨_, rfl⟩
      have hgb := HGB.out
      have G7 : w7.heap[gb]? = some (.cells #[.int .i64 x.f0, .int .i64 x.f1.f0, .int .i64 x.f1.f1, .string x.f2, .int .i64 x.f3] 36 (0, 0)) := by rw [hw7]; exact blk_put (blk_put (blk_put (blk_put (blk_put HX6.out 0 _ rfl) 1 _ rfl) 2 _ rfl) 3 _ rfl) 4 _ rfl
      have hb7 : Below wr.heap.size wr w7 := by
        rw [hw7]
        exact Below.setCell (Below.setCell (Below.setCell (Below.setCell (Below.setCell HB6.out (p := ⟨gb, 0, none⟩) (by show _ ≤ gb; omega) _) (p := ⟨gb, 1, none⟩) (by show _ ≤ gb; omega) _) (p := ⟨gb, 2, none⟩) (by show _ ≤ gb; omega) _) (p := ⟨gb, 3, none⟩) (by show _ ≤ gb; omega) _) (p := ⟨gb, 4, none⟩) (by show _ ≤ gb; omega) _
      rw [← hw7]
      obtain ⟨keep, E, A, c, hit, miss, hI, hkb, hwb, hblk, hF, hc, hE, hh, hm⟩ := HPI.out
      have hg7lt := blk_lt hblk
      obtain ⟨keepX, hkx⟩ : ∃ K : Nat → Prop, ∀ k, K k ↔ (keep k ∨ (wr.heap.size ≤ k ∧ k < w7.heap.size)) := ⟨_, fun _ => Iff.rfl⟩
      have hI7 : CInv w w7 keepX g room hit miss E := hI.step hb7 (fun k hk => (hkx k).1 hk)
      have HI7 := Aside0.mk hI7
      have HK7 := Aside0.mk (show keepX g7 from (hkx g7).2 (.inl hkb))
      have HKB := Aside0.mk (show keepX gb from (hkx gb).2 (.inr ⟨by omega, blk_lt G7⟩))
      have HF7 := Aside0.mk (show Kd.F k90 w7 (fun k => keepX k ∧ k ≠ g7) A E.length (E.map toS) from Kd.F_mono (Kd.F_below hF hb7) (fun k hk => ⟨(hkx k).2 (.inl hk.1), hk.2⟩))
      have HW7 := Aside0.mk (blk_below hblk hb7)
      have HG7' := Aside0.mk G7
      have HNe := Aside0.mk (show gb ≠ g7 by omega)
      have HWB := Aside0.mk hwb
      have HCc := Aside0.mk hc
      have HEr := Aside0.mk hE
      have HHi := Aside0.mk hh
      have HMi := Aside0.mk hm
      have HE1 := Aside0.mk (show E.length ≤ 1000000 by have := HR2.out; omega)
      clear hw7 hgb hb7 hI hkb hwb hblk hF hc hE hh hm hg7lt hI7 G7 hkx e0 e1 e2 e3 e4 f0 f1 f2 f3 f4 x0 x1 x2 x3 x4
      go_cut [11, 12, 13, 14, 15, 16, 17] from 60 to 144 (fun v11 v12 v13 v14 v15 v16 v17 wc => Aside0 (PlayI w g g7 room (i + 1) wc) ∧ Aside0 (Below w.heap.size w wc))
      case first =>
        obtain ⟨⟨a0, a1, a2, a3⟩, b0, b1, b2, b3⟩ := cells4 HW7.out
        obtain ⟨⟨y0, y1, y2, y3, y4⟩, _⟩ := cells5 HG7'.out
        by_cases k0 : x.f0 = 0
        · go_upto_region 15 with (go_at_call 10; refine (HI7.out.put HE1.out (x.f1.f0, x.f1.f1) (pl_ok _ _ HXok.out) x.f2).mono ?_; rintro e w8 ⟨rfl, hi, hl⟩; have HI8 := Aside0.mk hi; have HL8 := Aside0.mk hl; clear hi hl)
          have B8 := (HL8.out.block g7 HK7.out).trans HW7.out
          have G8 := (HL8.out.block gb HKB.out).trans HG7'.out
          have HB8 := Aside0.mk B8
          have HRP := Aside0.mk (rput_calls (F_leaves HF7.out HL8.out (fun k hk => hk.1)) HCc.out HR1.out HR2.out HEr.out hit miss (x.f1.f0, x.f1.f1) x.f2)
          clear a0 a1 a2 a3 b0 b1 b2 b3 y0 y1 y2 y3 y4
          obtain ⟨⟨a0, a1, a2, a3⟩, b0, b1, b2, b3⟩ := cells4 B8
          obtain ⟨⟨y0, y1, y2, y3, y4⟩, _⟩ := cells5 G8
          clear B8 G8
          go_wp2_with (go_at_call 11; refine HRP.out.mono ?_; rintro e w9 ⟨A9, c9, rfl, hc9, hF9, hb9⟩; obtain ⟨⟨a0, a1, a2, a3⟩, b0, b1, b2, b3⟩ := cells4 (blk_below HB8.out hb9); have HC9 := Aside0.mk hc9; have HF9 := Aside0.mk hF9; have HB9 := Aside0.mk hb9; clear hc9 hF9 hb9)
          go_meet
          case rel =>
            obtain ⟨P1, P2⟩ := playI_next (i := i + 1) HI8.out HK7.out HWB.out HB8.out HB9.out (Kd.F_mono HF9.out (fun k hk => .inr hk)) HC9.out (putE_le _ _ HR1.out HEr.out) (by have := HHi.out; omega) (by have := HMi.out; omega) rfl
            exact ⟨⟨P1⟩, ⟨P2⟩⟩
        · by_cases k1 : x.f0 = 1
          · clear k0
            have hbd : (0 ≤ hit ∧ hit ≤ 1000000) ∧ (0 ≤ miss ∧ miss ≤ 1000000) := by have h1 := HHi.out; have h2 := HMi.out; have h3 := HIle.out; have h4 := HN.out; omega
            have HBD := Aside0.mk hbd
            clear hbd
            go_upto_region 18 with (go_at_call 12; refine (HI7.out.get HBD.out.1 HBD.out.2 (x.f1.f0, x.f1.f1) (pl_ok _ _ HXok.out)).mono ?_; rintro e w8 ⟨E8, s8, is8, hit8, miss8, rfl, hg8, hi, hl⟩; have HI8 := Aside0.mk hi; have HL8 := Aside0.mk hl; have HGE := Aside0.mk hg8; clear hi hl hg8)
            have B8 := (HL8.out.block g7 HK7.out).trans HW7.out
            have G8 := (HL8.out.block gb HKB.out).trans HG7'.out
            have HB8 := Aside0.mk B8
            have HRP := Aside0.mk (rget_callsE (F_leaves HF7.out HL8.out (fun k hk => hk.1)) HCc.out HR1.out HR2.out HEr.out HBD.out.1 HBD.out.2 (x.f1.f0, x.f1.f1) HGE.out)
            clear a0 a1 a2 a3 b0 b1 b2 b3 y0 y1 y2 y3 y4
            obtain ⟨⟨a0, a1, a2, a3⟩, b0, b1, b2, b3⟩ := cells4 B8
            obtain ⟨⟨y0, y1, y2, y3, y4⟩, _⟩ := cells5 G8
            clear B8 G8
            go_upto_region 19 with (first
              | (go_at_call 13; refine HRP.out.mono ?_; rintro e w9 ⟨A9, c9, rfl, hc9, hF9, hb9⟩; have HC9 := Aside0.mk hc9; have HF9 := Aside0.mk hF9; have HB9 := Aside0.mk hb9; clear hc9 hF9 hb9)
              | ((with_reducible refine gate_dst (N := 13) rfl ?_); refine box_event ?hg (N := 13) ?hd (cs := #[.int .i64 0, .slice none 0 0, .int .i64 0, .int .i64 0]) (t := 30) ?hr ?_; (case hd => rfl); (case hg => rfl); (case hr => first | (go_simp; done) | (go_simp; rfl)); intro gx hgx wx hxx hbx; have HGX := Aside0.mk hgx; have HBX := Aside0.mk hbx; have HXX := Aside0.mk hxx; obtain ⟨⟨q0, q1, q2, q3⟩, t0, t1, t2, t3⟩ := cells4 hxx; clear hxx hgx hbx))
            have hgx := HGX.out
            have hz9 := HB9.out.size
            have hlt8 := blk_lt HB8.out
            obtain ⟨w11, hw11⟩ : ∃ w11, w11 = put4 wx gx (.int .i64 room) (.slice A9 E8.length c9) (.int .i64 hit8) (.int .i64 miss8) := ⟨_, rfl⟩
            have X11 : w11.heap[gx]? = some (.cells #[.int .i64 room, .slice A9 E8.length c9, .int .i64 hit8, .int .i64 miss8] 30 (0, 0)) := by rw [hw11]; exact put4_at HXX.out _ _ _ _
            have hb11 : Below w9.heap.size w9 w11 := by rw [hw11]; exact put4_below HBX.out (by omega) _ _ _ _
            have HB11 := Aside0.mk (show Below w8.heap.size w8 w11 from HB9.out.trans (hb11.mono hz9))
            have HF11 := Aside0.mk (Kd.F_below HF9.out hb11)
            have hz11 := hb11.size
            have hne : gx ≠ g7 := by omega
            have hne' : g7 ≠ gx := by omega
            have hw11' : w11 = (((wx.setCell ⟨gx, 0, none⟩ (.int .i64 room)).setCell ⟨gx, 1, none⟩ (.slice A9 E8.length c9)).setCell ⟨gx, 2, none⟩ (.int .i64 hit8)).setCell ⟨gx, 3, none⟩ (.int .i64 miss8) := hw11
            rw [← hw11']
            have HZ11 := Aside0.mk hz11
            clear hgx hz9 hlt8 hw11 hw11' hb11 hz11 q0 q1 q2 q3 t0 t1 t2 t3 a0 a1 a2 a3 b0 b1 b2 b3 y0 y1 y2 y3 y4
            obtain ⟨⟨q0, q1, q2, q3⟩, _⟩ := cells4 X11
            obtain ⟨⟨a0, a1, a2, a3⟩, b0, b1, b2, b3⟩ := cells4 (blk_below HB8.out HB11.out)
            clear X11
            go_wp2
            go_meet
            case rel =>
              obtain ⟨hle, hor⟩ := getE_le E _ hit miss HGE.out
              have h1 := HHi.out
              have h2 := HMi.out
              have h3 := HEr.out
              have h4 := HZ11.out
              obtain ⟨P1, P2⟩ := playI_next (i := i + 1) HI8.out HK7.out HWB.out HB8.out HB11.out (Kd.F_mono HF11.out (fun k hk => hk.imp id (fun hk => ⟨hk.1, by omega⟩))) HC9.out (by omega) (by omega) (by omega) rfl
              exact ⟨⟨P1⟩, ⟨P2⟩⟩
          · by_cases k2 : x.f0 = 2
            · clear k0 k1
              have HRP := Aside0.mk (rdropE_calls HF7.out HCc.out HE1.out room hit miss x.f3)
              go_upto_region 24 with (first
                | (go_at_call 14; refine HRP.out.mono ?_; rintro e w9 ⟨A9, c9, rfl, hc9, hF9, hb9⟩; have HC9 := Aside0.mk hc9; have HF9 := Aside0.mk hF9; have HB9 := Aside0.mk hb9; clear hc9 hF9 hb9)
                | ((with_reducible refine gate_dst (N := 16) rfl ?_); refine box_event ?hg (N := 16) ?hd (cs := #[.int .i64 0, .slice none 0 0, .int .i64 0, .int .i64 0]) (t := 30) ?hr ?_; (case hd => rfl); (case hg => rfl); (case hr => first | (go_simp; done) | (go_simp; rfl)); intro gx hgx wx hxx hbx; have HGX := Aside0.mk hgx; have HBX := Aside0.mk hbx; have HXX := Aside0.mk hxx; obtain ⟨⟨q0, q1, q2, q3⟩, t0, t1, t2, t3⟩ := cells4 hxx; clear hxx hgx hbx))
              have hgx := HGX.out
              have hz9 := HB9.out.size
              have hlt8 := blk_lt HW7.out
              obtain ⟨w11, hw11⟩ : ∃ w11, w11 = put4 wx gx (.int .i64 room) (.slice A9 (dropE E x.f3).length c9) (.int .i64 hit) (.int .i64 miss) := ⟨_, rfl⟩
              have X11 : w11.heap[gx]? = some (.cells #[.int .i64 room, .slice A9 (dropE E x.f3).length c9, .int .i64 hit, .int .i64 miss] 30 (0, 0)) := by rw [hw11]; exact put4_at HXX.out _ _ _ _
              have hb11 : Below w9.heap.size w9 w11 := by rw [hw11]; exact put4_below HBX.out (by omega) _ _ _ _
              have HB11 := Aside0.mk (show Below w7.heap.size w7 w11 from HB9.out.trans (hb11.mono hz9))
              have HF11 := Aside0.mk (Kd.F_below HF9.out hb11)
              have HZ11 := Aside0.mk hb11.size
              have hne : gx ≠ g7 := by omega
              have hne' : g7 ≠ gx := by omega
              have hw11' : w11 = (((wx.setCell ⟨gx, 0, none⟩ (.int .i64 room)).setCell ⟨gx, 1, none⟩ (.slice A9 (dropE E x.f3).length c9)).setCell ⟨gx, 2, none⟩ (.int .i64 hit)).setCell ⟨gx, 3, none⟩ (.int .i64 miss) := hw11
              rw [← hw11']
              clear hgx hz9 hlt8 hw11 hw11' hb11 q0 q1 q2 q3 t0 t1 t2 t3 a0 a1 a2 a3 b0 b1 b2 b3 y0 y1 y2 y3 y4
              obtain ⟨⟨q0, q1, q2, q3⟩, _⟩ := cells4 X11
              have B11 := blk_below HW7.out HB11.out
              obtain ⟨⟨a0, a1, a2, a3⟩, b0, b1, b2, b3⟩ := cells4 B11
              have HB11' := Aside0.mk B11
              clear X11 B11
              go_upto_region 25 with (fail)
              obtain ⟨w12, hw12⟩ : ∃ w12, w12 = put4 w11 g7 (.int .i64 room) (.slice A9 (dropE E x.f3).length c9) (.int .i64 hit) (.int .i64 miss) := ⟨_, rfl⟩
              have hlt8 := blk_lt HW7.out
              have hz11 := HZ11.out
              have hz9 := HB9.out.size
              obtain ⟨keepY, hky⟩ : ∃ K : Nat → Prop, ∀ k, K k ↔ (keepX k ∨ (w7.heap.size ≤ k ∧ k < w11.heap.size)) := ⟨_, fun _ => Iff.rfl⟩
              have hI11 : CInv w w11 keepY g room hit miss E := HI7.out.step HB11.out (fun k hk => (hky k).1 hk)
              have kg7 : keepY g7 := (hky g7).2 (.inl HK7.out)
              have hI12 : CInv w w12 keepY g room hit miss E := by rw [hw12]; exact hI11.other (fun k hk => put4_other _ _ _ _ _ _ hk) (put4_size _ _ _ _ _ _) kg7 (put4_below hI11.below HWB.out _ _ _ _)
              have B12 : w12.heap[g7]? = some (.cells #[.int .i64 room, .slice A9 (dropE E x.f3).length c9, .int .i64 hit, .int .i64 miss] 30 (0, 0)) := by rw [hw12]; exact put4_at HB11'.out _ _ _ _
              have F12 : Kd.F k90 w12 (fun k => keepY k ∧ k ≠ g7) A9 (dropE E x.f3).length ((dropE E x.f3).map toS) := by
                rw [hw12]
                refine Kd.F_step (Kd.F_mono HF11.out (fun k hk => (⟨(hky k).2 (.inr ⟨hk.1, by omega⟩), by omega⟩ : keepY k ∧ k ≠ g7))) (fun k hk _ => put4_other _ _ _ _ _ _ hk.2)
              have G12 : w12.heap[gb]? = some (.cells #[.int .i64 x.f0, .int .i64 x.f1.f0, .int .i64 x.f1.f1, .string x.f2, .int .i64 x.f3] 36 (0, 0)) := by rw [hw12]; exact (put4_other _ _ _ _ _ _ HNe.out).trans (blk_below HG7'.out HB11.out)
              have hw12' : w12 = (((w11.setCell ⟨g7, 0, none⟩ (.int .i64 room)).setCell ⟨g7, 1, none⟩ (.slice A9 (dropE E x.f3).length c9)).setCell ⟨g7, 2, none⟩ (.int .i64 hit)).setCell ⟨g7, 3, none⟩ (.int .i64 miss) := hw12
              rw [← hw12']
              have HI12 := Aside0.mk hI12
              have HKY := Aside0.mk kg7
              have HB12 := Aside0.mk B12
              have HF12 := Aside0.mk F12
              clear hw12 hw12' hlt8 hz11 hz9 hky hI11 kg7 hI12 B12 F12 q0 q1 q2 q3 a0 a1 a2 a3 b0 b1 b2 b3 hne hne'
              obtain ⟨⟨y0, y1, y2, y3, y4⟩, _⟩ := cells5 G12
              clear G12
              go_wp2_with (go_at_call 15; refine (HI12.out.drop HE1.out x.f3).mono ?_; rintro e w13 ⟨rfl, hi, hl⟩; have HI13 := Aside0.mk hi; have HL13 := Aside0.mk hl; clear hi hl)
              go_meet
              case rel =>
                have h1 := HHi.out
                have h2 := HMi.out
                have h3 := HEr.out
                have h4 := dropE_le E x.f3
                exact ⟨⟨keepY, dropE E x.f3, A9, c9, hit, miss, HI13.out, HKY.out, HWB.out, (HL13.out.block g7 HKY.out).trans HB12.out, F_leaves HF12.out HL13.out (fun k hk => hk.1), HC9.out, by omega, by omega, by omega⟩, ⟨HI13.out.below⟩⟩
            · go_wp2
              go_meet
              case rel =>
                have h1 := HHi.out
                have h2 := HMi.out
                exact ⟨⟨keepX, E, A, c, hit, miss, HI7.out, HK7.out, HWB.out, HW7.out, HF7.out, HCc.out, HEr.out, by omega, by omega⟩, ⟨HI7.out.below⟩⟩
      case rest =>
        obtain ⟨HPn, HBn⟩ := hcut
        clear HPI HI7 HK7 HKB HF7 HW7 HG7' HCc HEr HHi HMi HE1
        obtain ⟨keepZ, Ez, Az, cz, hitz, missz, hIz, hkz, hwz, hblkz, hFz, hcz, hEz, hhz, hmz⟩ := HPn.out
        have HIz := Aside0.mk hIz
        have HBz := Aside0.mk hblkz
        have HFz := Aside0.mk hFz
        have HCz := Aside0.mk hcz
        have HE1 := Aside0.mk (show Ez.length ≤ 1000000 by have := HR2.out; omega)
        clear hIz hkz hwz hFz hcz hEz hhz hmz
        have HHits := Aside0.mk HIz.out.hits
        have HKey := Aside0.mk (fun (W : World) (hW : Below wc.heap.size wc W) => (cells4 (blk_below HBz.out hW)).1)
        clear hblkz
        go_upto_region 28 with (go_at_call 16; refine HHits.out.mono ?_; rintro e w14 ⟨rfl, rfl⟩)
        have HI0 := Aside0.mk (HIz.out.step (keep' := fun _ => False) (Below.refl _ _).drew (fun k hk => hk.elim))
        obtain ⟨x0, x1, x2, x3⟩ := HKey.out wc.drew.drew (Below.refl _ _).drew.drew
        go_region_held3 (fun w' => w'.cell? ⟨g7, 0, none⟩ = some (.int .i64 room) ∧ w'.cell? ⟨g7, 1, none⟩ = some (.slice Az Ez.length cz) ∧ w'.cell? ⟨g7, 2, none⟩ = some (.int .i64 hitz) ∧ w'.cell? ⟨g7, 3, none⟩ = some (.int .i64 missz))
          (first
            | (refine ⟨?_, ?_, ?_, ?_⟩ <;> assumption)
            | exact HKey.out _ HBK.out)
          (first
            | (go_at_call 18; refine ((HIz.out.step (keep' := fun _ => False) HBK.out (fun k hk => hk.elim)).order HE1.out).mono ?_; rintro e w15 ⟨A2', c2', rfl, hc, hC, hb⟩; have HC15 := Aside0.mk hC; have HL15 := Aside0.mk hc; have HBL := Aside0.mk hb; have HBK := Aside0.mk (HBK.out.trans (hb.mono HBK.out.size)); clear hc hC hb)
            | (go_at_call 18; refine ((HIz.out.step (keep' := fun _ => False) (Below.refl _ _).drew.drew (fun k hk => hk.elim)).order HE1.out).mono ?_; rintro e w15 ⟨A2', c2', rfl, hc, hC, hb⟩; have HC15 := Aside0.mk hC; have HL15 := Aside0.mk hc; have HBK := Aside0.mk ((Below.refl _ _).drew.drew.trans (hb.mono (Nat.le_refl _)) : Below wc.heap.size wc w15); clear hc hC hb)
            | (go_at_call 19; refine (rorder_calls (Kd.F_below HFz.out HBK.out) HCz.out HE1.out room hitz missz).mono ?_; rintro e w16 ⟨A3, c3, rfl, hc, hC, hb⟩; have HC16 := Aside0.mk hC; have HL16 := Aside0.mk hc; have HBM := Aside0.mk hb; have HBK := Aside0.mk (HBK.out.trans (hb.mono HBK.out.size)); clear hc hC hb)
            | (go_at_call 19; refine (rorder_calls (Kd.F_below HFz.out (Below.refl _ _).drew.drew) HCz.out HE1.out room hitz missz).mono ?_; rintro e w16 ⟨A3, c3, rfl, hc, hC, hb⟩; have HC16 := Aside0.mk hC; have HL16 := Aside0.mk hc; have HBK := Aside0.mk ((Below.refl _ _).drew.drew.trans (hb.mono (Nat.le_refl _)) : Below wc.heap.size wc w16); clear hc hC hb)
            | (go_at_call 17; refine (same_places (L := Ez.map (·.1)) (by rw [List.length_map]; exact HE1.out) (by rw [List.length_map]) ?C1 HL15.out ?C2 HL16.out).mono ?_; (case C1 => first | exact Kd.F_now (Kd.F_below HC15.out HBM.out) | exact Kd.F_now HC15.out); (case C2 => first | exact Kd.F_now (Kd.F_below HC16.out HBL.out) | exact Kd.F_now HC16.out); rintro e w17 ⟨rfl, hb⟩; have HBK := Aside0.mk (HBK.out.trans (hb.below.mono HBK.out.size)); clear hb))
        all_goals
          go_wp2
          go_roundw
          case rel => exact ⟨i + 1, by go_num, ⟨by omega⟩, ⟨HPn.out.below HBK.out⟩, ⟨HBn.out.trans (HBK.out.mono HBn.out.size)⟩⟩
          case measure => simp [intOf]; omega
    · have d3 : decide (((i : Nat) : Int) < (n1 : Int)) = false := decide_eq_false (by omega)
      go_wp2
      go_ret
      exact ⟨rfl, HBr.out⟩
theorem caulklaw36_CachePlays.calls (k : Nat) (a0 : Int) (A1 : Option Addr) (c1 : Nat) (l1 : List S36) (r : Bool) (w : World) (hr1 : Kd.C k36 w A1 l1.length l1) (hc1 : l1.length ≤ c1) (h : caulklaw36_CachePlays.f k a0 l1 = some r) :
    Calls Try.prog 3 #[.int .i64 a0, .slice A1 l1.length c1] w fun e w' => e = .returned (.bool r) ∧ Below w.heap.size w w' := by
  unfold caulklaw36_CachePlays.f at h
  by_cases hok : actsOk l1
  · rw [if_pos hok] at h
    obtain rfl := Option.some.inj h
    by_cases h1 : a0 < 1 ∨ 4096 < a0
    · exact plays_none a0 A1 c1 l1.length w h1
    · by_cases hn : l1.length ≤ 100
      · exact plays_ok a0 A1 c1 l1 w (by omega) (by omega) hr1 hok hn
      · have hm : l1.length ≤ 9223372036854775807 := hr1.2.1
        exact plays_many a0 A1 c1 l1.length w (by omega) (by omega) (by omega)
  · rw [if_neg hok] at h; cases h
end Go.Proofs.Ytoglapodcejocaa.G
