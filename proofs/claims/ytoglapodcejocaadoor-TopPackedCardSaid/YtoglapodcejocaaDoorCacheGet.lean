/- A text is got from a cache, over this seat's program. Conditions: each lemma's own. -/
import Derived.Test.YtoglapodcejocaaDoorCachePut
namespace Go.Proofs.YtoglapodcejocaaDoor.G
open Go.RowKit Go.Proofs.YtoglapodcejocaaDoorW.PrintWords Go.Proofs.YtoglapodcejocaaDoorW.PrintLast Go.Proofs.YtoglapodcejocaaDoorW.PrintMore
set_option linter.unusedVariables false
set_option linter.unusedSimpArgs false
set_option maxRecDepth 100000
theorem fput_id {α : Type} (F : Nat → α) (b : Nat) : fput F b (F b) = F := by
  funext x
  unfold fput
  by_cases e : x = b
  · rw [if_pos e, e]
  · rw [if_neg e]
theorem RM.setMiss {w g m room hit miss S K V A N} (h : RM w g m room hit miss S K V A N) (x : Int) : RM (w.setCell ⟨g, 8, none⟩ (.int .i64 x)) g m room hit x S K V A N :=
  ⟨blk_put h.root 8 _ rfl, fun b hb => blk_far (h.node b hb) (show b ≠ g from fun e => h.apart (e ▸ hb)) _, h.apart⟩
theorem RM.setHit {w g m room hit miss S K V A N} (h : RM w g m room hit miss S K V A N) (x : Int) : RM (w.setCell ⟨g, 7, none⟩ (.int .i64 x)) g m room x miss S K V A N :=
  ⟨blk_put h.root 7 _ rfl, fun b hb => blk_far (h.node b hb) (show b ≠ g from fun e => h.apart (e ▸ hb)) _, h.apart⟩
theorem Cch.ne {P w g m room hit miss bs K V A N F} (h : Cch P w g m room hit miss bs K V A N F) {b : Nat} (hb : b = g ∨ b ∈ bs) : m ≠ b := h.rm.ne_map (m' := m) h.mp.isMap.choose_spec.choose_spec hb
theorem Cch.setMiss {P w g m room hit miss bs K V A N F} (h : Cch P w g m room hit miss bs K V A N F) (x : Int) : Cch P (w.setCell ⟨g, 8, none⟩ (.int .i64 x)) g m room hit x bs K V A N F :=
  ⟨h.rm.setMiss x, h.mp.same (Below.heap_setCell _ ⟨g, 8, none⟩ _ m (h.ne (.inl rfl))), h.lk, h.nd, h.ok, h.fs, h.pg, h.pm, h.pb, fun k hk => by simpa [World.setCell] using h.lt k hk⟩
theorem Cch.setHit {P w g m room hit miss bs K V A N F} (h : Cch P w g m room hit miss bs K V A N F) (x : Int) : Cch P (w.setCell ⟨g, 7, none⟩ (.int .i64 x)) g m room x miss bs K V A N F :=
  ⟨h.rm.setHit x, h.mp.same (Below.heap_setCell _ ⟨g, 7, none⟩ _ m (h.ne (.inl rfl))), h.lk, h.nd, h.ok, h.fs, h.pg, h.pm, h.pb, fun k hk => by simpa [World.setCell] using h.lt k hk⟩
/-- A cache whose node b is laid first. -/
theorem Cch.touch {P : Nat → Prop} {w w3 : World} {g m : Nat} {room hit hit' miss : Int} {l1 l2 : List Nat} {b : Nat} {K : Nat → Pl} {V : Nat → ByteArray} {A N : Nat → Nat} {F : Pl → Option Nat} (h : Cch P w g m room hit miss (l1 ++ b :: l2) K V A N F)
    (hmp : MapP w3 m (l1 ++ b :: l2).length F) (hrm : RM w3 g m room hit' miss (fun c => c = b ∨ c ∈ l1 ++ l2) K V (fput (fput (fput A (N b) (A b)) b g) (fput N (A b) (N b) g) b) (fput (fput (fput N (A b) (N b)) b (fput N (A b) (N b) g)) g b)) (hs : w.heap.size ≤ w3.heap.size) :
    Cch P w3 g m room hit' miss (b :: (l1 ++ l2)) K V (fput (fput (fput A (N b) (A b)) b g) (fput N (A b) (N b) g) b) (fput (fput (fput N (A b) (N b)) b (fput N (A b) (N b) g)) g b) F := by
  have hd := h.nd
  have hmem : ∀ x, x ∈ b :: (l1 ++ l2) ↔ x ∈ l1 ++ b :: l2 := fun x => by
    simp only [List.mem_cons, List.mem_append]
    constructor
    · rintro (h | h | h) <;> simp [h]
    · rintro (h | h | h) <;> simp [h]
  have hperm : (b :: (l1 ++ l2)).Nodup := by
    have h1 := (List.nodup_cons.1 hd).2
    exact (List.perm_middle.nodup_iff).1 h1
  have hgb : g ∉ b :: (l1 ++ l2) := fun hx => (List.nodup_cons.1 hd).1 ((hmem g).1 hx)
  have hd2 : (g :: (l1 ++ l2)).Nodup := List.nodup_cons.2 ⟨fun hx => hgb (List.mem_cons_of_mem _ hx), (List.nodup_cons.1 hperm).2⟩
  refine ⟨hrm.sub (fun x hx => (List.mem_cons.1 hx).elim .inl .inr), ?_, (h.lk.out hd).first hd2 (fun e => hgb (by simp [e])) (List.nodup_cons.1 hperm).1, List.nodup_cons.2 ⟨hgb, hperm⟩, fun x hx => h.ok x ((hmem x).1 hx), fun p x => ?_, h.pg, h.pm, fun x hx => h.pb x ((hmem x).1 hx), fun k hk => Nat.lt_of_lt_of_le (h.lt k hk) hs⟩
  · have e : (b :: (l1 ++ l2)).length = (l1 ++ b :: l2).length := by simp; omega
    rw [e]; exact hmp
  · rw [h.fs, hmem]
def findE (E : List (Pl × ByteArray)) (p : Pl) : Option (Pl × ByteArray) := E.find? fun x => decide (x.1 = p)
def getE (E : List (Pl × ByteArray)) (p : Pl) (hit miss : Int) : List (Pl × ByteArray) × ByteArray × Bool × Int × Int :=
  match findE E p with
  | none => (E, ⟨#[]⟩, false, hit, miss + 1)
  | some x => ((p, x.2) :: withoutE E p, x.2, true, hit + 1, miss)
theorem find_none {bs : List Nat} {K : Nat → Pl} {V : Nat → ByteArray} {p : Pl} (h : ∀ b ∈ bs, K b ≠ p) : findE (entsOf bs K V) p = none := by
  unfold findE
  rw [List.find?_eq_none]
  intro x hx
  obtain ⟨y, hy, rfl⟩ := List.mem_map.1 hx
  simpa using h y hy
theorem find_some {l1 l2 : List Nat} {b : Nat} {K : Nat → Pl} {V : Nat → ByteArray} (h : ∀ x ∈ l1, K x ≠ K b) : findE (entsOf (l1 ++ b :: l2) K V) (K b) = some (K b, V b) := by
  have h1 := find_none (V := V) h
  unfold findE entsOf at h1 ⊢
  rw [List.map_append, List.find?_append, h1]
  simp
theorem wrap_i64_small {x : Int} (h : 0 ≤ x ∧ x ≤ 1000000) : wrap64 (x + 1) = x + 1 := by unfold wrap64; omega
set_option maxHeartbeats 8000000 in
theorem get_calls {P : Nat → Prop} {w : World} {g : Nat} {room hit miss : Int} {E : List (Pl × ByteArray)} (h : CchE P w g room hit miss E) (hh : 0 ≤ hit ∧ hit ≤ 1000000) (hi : 0 ≤ miss ∧ miss ≤ 1000000) (p : Pl) (hp : plOk p) :
    Calls Tryd.prog 18 #[ptr g, .agg #[.int .i64 p.1, .int .i64 p.2]] w fun e w' => ∃ E' s is hit' miss', e = .returned (.tuple #[.string s, .bool is]) ∧ getE E p hit miss = (E', s, is, hit', miss') ∧ CchE P w' g room hit' miss' E' ∧ KeptBut P w w' := by
  obtain ⟨m, bs, K, V, A, N, F, h, rfl⟩ := h
  obtain ⟨w0, hw0⟩ : ∃ w0, w0 = w.alloc (.cells #[.int .i64 p.1, .int .i64 p.2] 36) := ⟨_, rfl⟩
  have hb0 : Below w.heap.size w w0 := by rw [hw0]; exact below_alloc (Below.refl _ _) _
  have hbox : w0.heap[w.heap.size]? = some (.cells #[.int .i64 p.1, .int .i64 p.2] 36 (0, 0)) := by rw [hw0]; exact blk_new w _
  have h0 : Cch P w0.drew g m room hit miss bs K V A N F := (h.below hb0).below (Below.refl _ _).drew
  have HKW := Aside0.mk (show KeptBut P w w0.drew from (KeptBut.of_below hb0).trans (KeptBut.drew _ _))
  have c0 : w0.drew.cell? ⟨g, 5, none⟩ = some (.map (some m)) := (blk_cell (w := w0.drew) h0.rm.root 5).trans rfl
  have c1 : w0.drew.cell? ⟨w.heap.size, 0, none⟩ = some (.int .i64 p.1) := (blk_cell (w := w0.drew) hbox 0).trans rfl
  have c2 : w0.drew.cell? ⟨w.heap.size, 1, none⟩ = some (.int .i64 p.2) := (blk_cell (w := w0.drew) hbox 1).trans rfl
  have c3 : w0.drew.cell? ⟨g, 7, none⟩ = some (.int .i64 hit) := (blk_cell (w := w0.drew) h0.rm.root 7).trans rfl
  have c4 : w0.drew.cell? ⟨g, 8, none⟩ = some (.int .i64 miss) := (blk_cell (w := w0.drew) h0.rm.root 8).trans rfl
  have f3 : w0.drew.frozen? ⟨g, 7, none⟩ = false := blk_frozen (w := w0.drew) h0.rm.root 7
  have f4 : w0.drew.frozen? ⟨g, 8, none⟩ = false := blk_frozen (w := w0.drew) h0.rm.root 8
  have H0 := Aside0.mk h0
  have HW0 := Aside0.mk hw0
  have HH := Aside0.mk (wrap_i64_small hh)
  have HI := Aside0.mk (wrap_i64_small hi)
  have hcase := h0.mp.look p hp
  clear h0 hb0 hbox h hw0 hh hi
  rcases hcase with ⟨hF, hrun⟩ | ⟨b, hF, hrun⟩
  · have HRun := Aside0.mk hrun
    have HE := Aside0.mk (show findE (entsOf bs K V) p = none from find_none (fun b hb e => by
      have := (H0.out.fs p b).2 ⟨hb, e⟩
      rw [hF] at this; cases this))
    clear hrun hF
    go_enter Tryd.func18, Tryd.ntmps18
    go_wp2
    rw [← HW0.out]
    refine wp_region_still_lit (by kernel_rfl) (by kernel_rfl) ?_
    repeat still_step
    refine still_lookup rfl (.tmp 13) (.tmp 14) 82 rfl (.map (some m)) (plV p) rfl rfl HRun.out ?_
    repeat still_step
    refine wpStill_nil ?_
    go_wp2
    go_ret2
    rw [HI.out]
    exact ⟨_, _, _, _, _, rfl, by unfold getE; rw [HE.out], ⟨m, bs, K, V, A, N, F, H0.out.setMiss (miss + 1), rfl⟩, HKW.out.trans (KeptBut.set _ H0.out.pg)⟩
  · obtain ⟨hbm, hKb⟩ := (H0.out.fs p b).1 hF
    obtain ⟨l1, l2, hbs⟩ := List.append_of_mem hbm
    have hu : ∀ x ∈ bs, K x = K b → x = b := fun x hx e => by
      have h1 := (H0.out.fs (K x) x).2 ⟨hx, rfl⟩
      rw [e, hKb, hF] at h1
      injection h1 with h1; exact h1.symm
    subst hKb
    subst hbs
    have hnd := (List.nodup_cons.1 H0.out.nd).2
    have hE1 := ents_without (V := V) hnd hu
    have hbl : b ∉ l1 ++ l2 := fun hx => by
      rw [List.nodup_append] at hnd
      rcases List.mem_append.1 hx with h' | h'
      · exact hnd.2.2 b h' b (by simp) rfl
      · exact (List.nodup_cons.1 hnd.2.1).1 h'
    have hE2 : findE (entsOf (l1 ++ b :: l2) K V) (K b) = some (K b, V b) := find_some (fun x hx e => hbl (by rw [← hu x (by simp [hx]) e]; simp [hx]))
    have hE3 : (K b, V b) :: withoutE (entsOf (l1 ++ b :: l2) K V) (K b) = entsOf (b :: (l1 ++ l2)) K V := by rw [hE1]; rfl
    have hc1 := H0.out.setHit (hit + 1)
    obtain ⟨w1, hw1⟩ : ∃ w1, w1 = (w0.setCell ⟨g, 7, none⟩ (.int .i64 (hit + 1))).drew := ⟨_, rfl⟩
    replace hc1 : Cch P w1 g m room (hit + 1) miss (l1 ++ b :: l2) K V A N F := by rw [hw1]; exact hc1
    obtain ⟨k1, k2⟩ := Lk.append.1 hc1.lk
    have hAb : A b = g ∨ A b ∈ l1 ++ b :: l2 := by
      rcases List.mem_cons.1 k1.ahead_mem with h' | h'
      · exact .inl h'
      · exact .inr (by simp [h'])
    have hNb : N b = g ∨ N b ∈ l1 ++ b :: l2 := by
      rcases List.mem_append.1 k2.next_mem with h' | h'
      · exact .inr (by simp [h'])
      · exact .inl (List.mem_singleton.1 h')
    have HOut := Aside0.mk (out_calls hc1.rm hbm hAb hNb)
    obtain ⟨w2, hw2⟩ : ∃ w2, w2 = ((w1.setCell ⟨A b, 4, none⟩ (ptr (N b))).setCell ⟨N b, 3, none⟩ (ptr (A b))).drew := ⟨_, rfl⟩
    have r2 : RM w2 g m room (hit + 1) miss (fun b' => b' ∈ l1 ++ b :: l2) K V (fput A (N b) (A b)) (fput N (A b) (N b)) := by
      rw [hw2]; exact ((hc1.rm.setNext hAb (N b)).setAhead hNb (A b)).same (fun _ _ => rfl)
    have hsub : ∀ x, x ∈ l1 ++ l2 → x ∈ l1 ++ b :: l2 := fun x hx => by
      rcases List.mem_append.1 hx with h' | h' <;> simp [h']
    have hlk2 := hc1.lk.out hc1.nd
    have hN2 : fput N (A b) (N b) g = g ∨ fput N (A b) (N b) g ∈ l1 ++ l2 := by
      rcases List.mem_append.1 hlk2.next_mem with h' | h'
      · exact .inr h'
      · exact .inl (List.mem_singleton.1 h')
    have hbg : b ≠ g := fun e => hc1.rm.apart (e ▸ hbm)
    have HFst := Aside0.mk (first_calls (r2.sub hsub) (r2.node b hbm) hbg hbl hN2)
    have pA : P (A b) := by rcases hAb with h' | h'; rw [h']; exact hc1.pg; exact hc1.pb _ h'
    have pN : P (N b) := by rcases hNb with h' | h'; rw [h']; exact hc1.pg; exact hc1.pb _ h'
    have HK2 := Aside0.mk (show KeptBut P w w2 from by
      have e1 : KeptBut P w0.drew w1 := by rw [hw1]; exact KeptBut.set (w := w0.drew) (a := ⟨g, 7, none⟩) _ hc1.pg
      have e2 : KeptBut P w1 w2 := by rw [hw2]; exact ((KeptBut.set _ pA).trans (KeptBut.set _ pN)).trans (KeptBut.drew P _)
      exact (HKW.out.trans e1).trans e2)
    have hs12 : w1.heap.size = w2.heap.size := by rw [hw2]; simp [World.setCell, World.drew]
    have HM2 := Aside0.mk (show MapP w2 m (l1 ++ b :: l2).length F from hc1.mp.same (by
      rw [hw2]
      exact ((Below.heap_setCell _ ⟨N b, 3, none⟩ _ m (hc1.ne hNb)).trans (Below.heap_setCell _ ⟨A b, 4, none⟩ _ m (hc1.ne hAb)))))
    have HC1 := Aside0.mk hc1
    have HNe := Aside0.mk (show m ≠ g ∧ m ≠ b ∧ m ∉ l1 ++ l2 from ⟨hc1.ne (.inl rfl), hc1.ne (.inr hbm), fun hx => hc1.ne (.inr (hsub m hx)) rfl⟩)
    have HPs := Aside0.mk (show ∀ c, (c = g ∨ c = b ∨ c ∈ l1 ++ l2) → P c from fun c hc => by
      rcases hc with rfl | rfl | hc
      · exact hc1.pg
      · exact hc1.pb _ hbm
      · exact hc1.pb _ (hsub c hc))
    have HS12 := Aside0.mk hs12
    have HE2 := Aside0.mk hE2
    have HE3 := Aside0.mk hE3
    have HRun := Aside0.mk hrun
    have HW1 := Aside0.mk hw1
    have HW2 := Aside0.mk hw2
    clear hrun hF hbm hu hnd hE1 hbl hE2 hE3 hc1 hw1 k1 k2 hAb hNb hw2 r2 hsub hlk2 hN2 hbg pA pN hs12
    go_enter Tryd.func18, Tryd.ntmps18
    go_wp2
    rw [← HW0.out]
    refine wp_region_still_lit (by kernel_rfl) (by kernel_rfl) ?_
    repeat still_step
    refine still_lookup rfl (.tmp 13) (.tmp 14) 82 rfl (.map (some m)) (plV (K b)) rfl rfl HRun.out ?_
    repeat still_step
    refine wpStill_nil ?_
    go_wp2_with (first
      | (go_at_call 36; rw [HH.out, ← HW1.out]; refine HOut.out.mono ?_; rintro e w' ⟨rfl, rfl⟩)
      | (go_at_call 35; rw [← HW2.out]; refine HFst.out.mono ?_; rintro e w3 ⟨rfl, hr, hk⟩; rw [fput_id K b, fput_id V b] at hr; have cv : w3.cell? ⟨b, 2, none⟩ = some (.string (V b)) := (blk_cell (hr.node b (.inl rfl)) 2).trans rfl; have HR3 := Aside0.mk hr; have HK3 := Aside0.mk hk; clear hr hk))
    go_ret2
    have hm3 := HM2.out.same (HK3.out.block m HM2.out.lt (fun hx => by
      rcases hx with h' | h' | h'
      · exact HNe.out.1 h'
      · exact HNe.out.2.1 h'
      · exact HNe.out.2.2 h'))
    have hc3 := HC1.out.touch hm3 HR3.out (by rw [HS12.out]; exact HK3.out.size)
    exact ⟨_, _, _, _, _, rfl, by unfold getE; rw [HE2.out]; exact congrArg (fun l => (l, V b, true, hit + 1, miss)) HE3.out, ⟨m, _, K, V, _, _, F, hc3, rfl⟩, HK2.out.trans (HK3.out.mono (fun k _ hk => HPs.out k hk))⟩
end Go.Proofs.YtoglapodcejocaaDoor.G
