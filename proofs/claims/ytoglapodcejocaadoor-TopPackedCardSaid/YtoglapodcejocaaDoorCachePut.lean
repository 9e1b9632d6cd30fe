/- A text is put into a cache, over this seat's program. Conditions: each lemma's own. -/
import Derived.Test.YtoglapodcejocaaDoorCacheNew
namespace Go.Proofs.YtoglapodcejocaaDoor.G
open Go.RowKit Go.Proofs.YtoglapodcejocaaDoorW.PrintWords Go.Proofs.YtoglapodcejocaaDoorW.PrintLast Go.Proofs.YtoglapodcejocaaDoorW.PrintMore
set_option linter.unusedVariables false
set_option linter.unusedSimpArgs false
set_option maxRecDepth 100000
theorem still_len {P : Program} {ops : Array Oper} {rest : List Oper} {o : Oper} {a : Act} {Q : Act → Prop} {W : World} (hg : o.guard = none) (m : Operand) (t : TypeId) (ho : o.op = .call { callee := .builtin .len, args := #[m], argTypes := #[t] }) (v : Value) (hm : a.eval m = v) {u : Value} (hr : (Builtin.len_ #[t] o.type #[v]).run P W = .ok u W)
    (h : wpStill P ops W Q rest (a.put o.dst u)) : wpStill P ops W Q (o :: rest) a := by
  refine wpStill_step fun K hK => ?_
  have hw : Region.wanted o (yielded ops a.tmps) = true := by simp [Region.wanted, hg]
  rw [if_pos hw]
  unfold Oper.still
  simp [execOp, ho, resolve, invoke, builtin, hm, hr, Result.andThen, Oper.stillUpon]
  exact hK _ h
theorem still_lookup {P : Program} {ops : Array Oper} {rest : List Oper} {o : Oper} {a : Act} {Q : Act → Prop} {W : World} (hg : o.guard = none) (m x : Operand) (t : TypeId) (ho : o.op = .lookup t m x true) (v y : Value) (hm : a.eval m = v) (hx : a.eval x = y) {u : Value} (hr : (Instr.lookup t v y true).run P W = .ok u W)
    (h : wpStill P ops W Q rest (a.put o.dst u)) : wpStill P ops W Q (o :: rest) a := by
  refine wpStill_step fun K hK => ?_
  have hw : Region.wanted o (yielded ops a.tmps) = true := by simp [Region.wanted, hg]
  rw [if_pos hw]
  unfold Oper.still
  simp [execOp, ho, hm, hx, hr, Result.andThen, Oper.stillUpon]
  exact hK _ h
theorem update_known {P : Program} {ops : Array Oper} {rest : List Oper} {o : Oper} {a : Act} {Q : Exit → Act → World → Prop} {W : World} (hg : o.guard = none) (m x y : Operand) (t : TypeId) (ho : o.op = .mapUpdate t m x y) (v u z : Value) (hm : a.eval m = v) (hx : a.eval x = u) (hy : a.eval y = z) {w' : World} (hr : (Instr.mapUpdate t v u z).run P W = .ok () w')
    (h : wpList P ops Q rest (a.put o.dst undef) w') : wpList P ops Q (o :: rest) a W := by
  refine wpList_plain hg fun K hK => ?_
  unfold Oper.wp
  simp [execOp, ho, hm, hx, hy, hr, Result.andThen]
  exact hK _ _ h
/-- What a cache holds, the one that was used last first. -/
def entsOf (bs : List Nat) (K : Nat → Pl) (V : Nat → ByteArray) : List (Pl × ByteArray) := bs.map fun b => (K b, V b)
def CchE (P : Nat → Prop) (w : World) (g : Nat) (room hit miss : Int) (E : List (Pl × ByteArray)) : Prop := ∃ m bs K V A N F, Cch P w g m room hit miss bs K V A N F ∧ E = entsOf bs K V
def withoutE (E : List (Pl × ByteArray)) (p : Pl) : List (Pl × ByteArray) := E.filter fun x => decide (x.1 ≠ p)
def putE (room : Int) (E : List (Pl × ByteArray)) (p : Pl) (s : ByteArray) : List (Pl × ByteArray) := if ((withoutE E p).length : Int) + 1 > room then ((p, s) :: withoutE E p).dropLast else (p, s) :: withoutE E p
theorem ents_without {l1 l2 : List Nat} {b : Nat} {K : Nat → Pl} {V : Nat → ByteArray} (hd : (l1 ++ b :: l2).Nodup) (hu : ∀ x ∈ l1 ++ b :: l2, K x = K b → x = b) : withoutE (entsOf (l1 ++ b :: l2) K V) (K b) = entsOf (l1 ++ l2) K V := by
  rw [List.nodup_append] at hd
  obtain ⟨d1, d2, d3⟩ := hd
  have hd4 := (List.nodup_cons.1 d2).1
  unfold withoutE entsOf
  simp only [List.map_append, List.map_cons, List.filter_append, List.filter_cons]
  have e : ∀ l : List Nat, (∀ x ∈ l, x ∈ l1 ++ b :: l2 ∧ x ≠ b) → (l.map fun b => (K b, V b)).filter (fun x => decide (x.1 ≠ K b)) = l.map fun b => (K b, V b) := fun l hl => by
    rw [List.filter_eq_self]
    intro x hx
    obtain ⟨y, hy, rfl⟩ := List.mem_map.1 hx
    exact decide_eq_true (fun h => (hl y hy).2 (hu y (hl y hy).1 h))
  rw [e l1 (fun x hx => ⟨by simp [hx], fun h => d3 x hx b (by simp) h⟩), e l2 (fun x hx => ⟨by simp [hx], fun h => hd4 (h ▸ hx)⟩)]
  simp
theorem ents_not {bs : List Nat} {K : Nat → Pl} {V : Nat → ByteArray} {p : Pl} (h : ∀ b ∈ bs, K b ≠ p) : withoutE (entsOf bs K V) p = entsOf bs K V := by
  unfold withoutE
  rw [List.filter_eq_self]
  intro x hx
  obtain ⟨y, hy, rfl⟩ := List.mem_map.1 hx
  exact decide_eq_true (h y hy)
theorem ents_put {bs : List Nat} {K : Nat → Pl} {V : Nat → ByteArray} {p : Pl} {s : ByteArray} {n : Nat} (hn : n ∉ bs) : entsOf (n :: bs) (fput K n p) (fput V n s) = (p, s) :: entsOf bs K V := by
  unfold entsOf
  rw [List.map_cons, fput_same, fput_same]
  congr 1
  refine List.map_congr_left fun b hb => ?_
  have : b ≠ n := fun e => hn (e ▸ hb)
  rw [fput_ne _ _ this, fput_ne _ _ this]
/-- A cache behind the laying of a new first node. -/
theorem Cch.push {P : Nat → Prop} {w w3 : World} {g m : Nat} {room hit miss : Int} {bs : List Nat} {K : Nat → Pl} {V : Nat → ByteArray} {A N : Nat → Nat} {F : Pl → Option Nat} (h : Cch P w g m room hit miss bs K V A N F) {n : Nat} {p : Pl} {s : ByteArray} (hp : plOk p) (hF : F p = none) (hn : n ∉ bs) (hng : n ≠ g) (hnm : n ≠ m)
    (hmp : MapP w3 m (bs.length + 1) (pput F p (some n))) (hrm : RM w3 g m room hit miss (fun c => c = n ∨ c ∈ bs) (fput K n p) (fput V n s) (fput (fput A n g) (N g) n) (fput (fput N n (N g)) g n)) (hl : n < w3.heap.size) (hs : w.heap.size ≤ w3.heap.size) :
    Cch (fun k => P k ∨ k = n) w3 g m room hit miss (n :: bs) (fput K n p) (fput V n s) (fput (fput A n g) (N g) n) (fput (fput N n (N g)) g n) (pput F p (some n)) := by
  have hne : ∀ b ∈ bs, b ≠ n := fun b hb e => hn (e ▸ hb)
  refine ⟨hrm.sub (fun b hb => (List.mem_cons.1 hb).elim .inl .inr), hmp, h.lk.first h.nd hng hn, ?_, fun b hb => ?_, fun q b => ?_, .inl h.pg, .inl h.pm, fun b hb => ?_, fun k hk => ?_⟩
  · have hd := List.nodup_cons.1 h.nd
    refine List.nodup_cons.2 ⟨fun hx => ?_, List.nodup_cons.2 ⟨hn, hd.2⟩⟩
    rcases List.mem_cons.1 hx with h' | h'
    · exact hng h'.symm
    · exact hd.1 h'
  · rcases List.mem_cons.1 hb with rfl | h'
    · rw [fput_same]; exact hp
    · rw [fput_ne _ _ (hne b h')]; exact h.ok b h'
  · unfold pput
    by_cases e : q = p
    · rw [if_pos e]
      constructor
      · intro h'
        injection h' with h'
        subst h'
        exact ⟨by simp, by rw [fput_same, e]⟩
      rintro ⟨h1, h2⟩
      rcases List.mem_cons.1 h1 with h' | h'
      · rw [h']
      · rw [fput_ne _ _ (hne b h')] at h2
        have := (h.fs q b).2 ⟨h', h2⟩
        rw [e, hF] at this; cases this
    · rw [if_neg e, h.fs]
      constructor
      · rintro ⟨h1, h2⟩
        exact ⟨by simp [h1], by rw [fput_ne _ _ (hne b h1)]; exact h2⟩
      rintro ⟨h1, h2⟩
      rcases List.mem_cons.1 h1 with h' | h'
      · rw [h', fput_same] at h2; exact absurd h2.symm e
      · rw [fput_ne _ _ (hne b h')] at h2; exact ⟨h', h2⟩
  · rcases List.mem_cons.1 hb with rfl | h'
    · exact .inr rfl
    · exact .inl (h.pb b h')
  · rcases hk with h' | rfl
    · exact Nat.lt_of_lt_of_le (h.lt k h') hs
    · exact hl
theorem last_split {A N : Nat → Nat} {g n : Nat} {bs : List Nat} (h : Lk A N g (n :: bs) g) : ∃ l1, n :: bs = l1 ++ A g :: [] ∧ l1 = (n :: bs).dropLast := by
  have e : n :: bs = (n :: bs).dropLast ++ [(n :: bs).getLast (by simp)] := (List.dropLast_concat_getLast (by simp)).symm
  rw [e] at h
  obtain ⟨h1, h2, h3⟩ := Lk.append.1 h
  exact ⟨_, by rw [h3]; exact e, rfl⟩
set_option maxHeartbeats 8000000 in
theorem put_calls {P : Nat → Prop} {w : World} {g : Nat} {room hit miss : Int} {E : List (Pl × ByteArray)} (h : CchE P w g room hit miss E) (hl : E.length ≤ 1000000) (p : Pl) (hp : plOk p) (s : ByteArray) :
    Calls Tryd.prog 17 #[ptr g, .agg #[.int .i64 p.1, .int .i64 p.2], .string s] w fun e w' => e = .returned (.tuple #[]) ∧ ∃ P', CchE P' w' g room hit miss (putE room E p s) ∧ (∀ k, P' k → P k ∨ w.heap.size ≤ k) ∧ KeptBut P w w' := by
  obtain ⟨m, bs, K, V, A, N, F, h, rfl⟩ := h
  have hlen : bs.length ≤ 1000000 := by simpa [entsOf] using hl
  obtain ⟨w0, hw0⟩ : ∃ w0, w0 = w.alloc (.cells #[.int .i64 p.1, .int .i64 p.2] 36) := ⟨_, rfl⟩
  have hb0 : Below w.heap.size w w0 := by rw [hw0]; exact below_alloc (Below.refl _ _) _
  have hbox : w0.heap[w.heap.size]? = some (.cells #[.int .i64 p.1, .int .i64 p.2] 36 (0, 0)) := by rw [hw0]; exact blk_new w _
  have h0 : Cch P w0 g m room hit miss bs K V A N F := h.below hb0
  have hq0 : ¬ P w.heap.size := fun hx => Nat.lt_irrefl _ (h.lt _ hx)
  obtain ⟨v, is, hlook, hvis⟩ : ∃ v is, (Instr.lookup 82 (.map (some m)) (plV p) true).run Tryd.prog w0.drew = .ok (.tuple #[v, .bool is]) w0.drew ∧ ((is = false ∧ F p = none) ∨ (is = true ∧ ∃ b, v = ptr b ∧ F p = some b)) := by
    rcases (h0.mp.same (w' := w0.drew) rfl).look p hp with ⟨h1, h2⟩ | ⟨b, h1, h2⟩
    · exact ⟨_, _, h2, .inl ⟨rfl, h1⟩⟩
    · exact ⟨_, _, h2, .inr ⟨rfl, b, rfl, h1⟩⟩
  have c0 : w0.drew.cell? ⟨g, 5, none⟩ = some (.map (some m)) := (blk_cell (w := w0.drew) h0.rm.root 5).trans rfl
  have c1 : w0.drew.cell? ⟨w.heap.size, 0, none⟩ = some (.int .i64 p.1) := (blk_cell (w := w0.drew) hbox 0).trans rfl
  have c2 : w0.drew.cell? ⟨w.heap.size, 1, none⟩ = some (.int .i64 p.2) := (blk_cell (w := w0.drew) hbox 1).trans rfl
  have H0 := Aside0.mk h0
  have HB0 := Aside0.mk hb0
  have HX0 := Aside0.mk hbox
  have HLK := Aside0.mk hlook
  have HV := Aside0.mk hvis
  have HQ0 := Aside0.mk hq0
  have HP := Aside0.mk hp
  have HLen := Aside0.mk hlen
  have HW0 := Aside0.mk hw0
  have HLt := Aside0.mk h.lt
  clear h0 hb0 hbox hlook hvis hq0 hp hlen h hl hw0
  go_enter Tryd.func17, Tryd.ntmps17
  go_wp2
  rw [← HW0.out]
  refine wp_region_still_lit (by kernel_rfl) (by kernel_rfl) ?_
  repeat still_step
  refine still_lookup rfl (.tmp 14) (.tmp 15) 82 rfl (.map (some m)) (plV p) rfl rfl HLK.out ?_
  repeat still_step
  refine wpStill_nil ?_
  go_upto_if 19 with (fail)
  go_cut [] from 9 (fun wc => ∃ (bs1 : List Nat) (A1 N1 : Nat → Nat) (F1 : Pl → Option Nat), Aside0 (Cch P wc g m room hit miss bs1 K V A1 N1 F1) ∧ Aside0 (F1 p = none) ∧ Aside0 (entsOf bs1 K V = withoutE (entsOf bs K V) p) ∧ Aside0 (bs1.length ≤ bs.length) ∧ Aside0 (KeptBut P w0 wc))
  case first =>
    clear c0 c1 c2
    rcases HV.out with ⟨rfl, hF⟩ | ⟨rfl, b, rfl, hF⟩
    · have hfs := H0.out.fs
      have he := Aside0.mk (show entsOf bs K V = withoutE (entsOf bs K V) p from (ents_not (fun b hb e => by
        have := (hfs p b).2 ⟨hb, e⟩
        rw [hF] at this; cases this)).symm)
      have hF := Aside0.mk hF
      clear hfs
      go_wp2
      go_meet
      case rel => exact ⟨bs, A, N, F, ⟨H0.out.below (Below.refl _ _).drew⟩, hF, he, ⟨Nat.le_refl _⟩, ⟨KeptBut.drew _ _⟩⟩
    · obtain ⟨hbm, hKb⟩ := (H0.out.fs p b).1 hF
      obtain ⟨l1, l2, hbs⟩ := List.append_of_mem hbm
      have hu : ∀ x ∈ bs, K x = K b → x = b := fun x hx e => by
        have h1 := (H0.out.fs (K x) x).2 ⟨hx, rfl⟩
        rw [e, hKb, hF] at h1
        injection h1 with h1; exact h1.symm
      subst hKb
      subst hbs
      have he := Aside0.mk (show entsOf (l1 ++ l2) K V = withoutE (entsOf (l1 ++ b :: l2) K V) (K b) from (ents_without (List.nodup_cons.1 H0.out.nd).2 hu).symm)
      have HD := Aside0.mk (rdrop_calls (H0.out.below (w' := w0.drew) (Below.refl _ _).drew))
      clear hu hF hbm
      go_wp2_with (go_at_call 34; refine HD.out.mono ?_; rintro e w1 ⟨rfl, hc, hk⟩; have HC := Aside0.mk hc; have HK := Aside0.mk hk; clear hc hk)
      go_meet
      case rel => exact ⟨l1 ++ l2, _, _, _, HC, ⟨by unfold pput; rw [if_pos rfl]⟩, he, ⟨by simp⟩, ⟨(KeptBut.drew _ _).trans HK.out⟩⟩
  case rest =>
    obtain ⟨bs1, A1, N1, F1, HC, HF, HE, HL, HK⟩ := hcut
    clear c0 c1 c2
    obtain ⟨n, hn⟩ : ∃ n, n = wc.heap.size := ⟨_, rfl⟩
    have HN := Aside0.mk hn
    have hbx : wc.heap[w.heap.size]? = some (.cells #[.int .i64 p.1, .int .i64 p.2] 36 (0, 0)) := (HK.out.block _ (blk_lt HX0.out) HQ0.out).trans HX0.out
    have k1 : wc.cell? ⟨w.heap.size, 0, none⟩ = some (.int .i64 p.1) := (blk_cell hbx 0).trans rfl
    have k2 : wc.cell? ⟨w.heap.size, 1, none⟩ = some (.int .i64 p.2) := (blk_cell hbx 1).trans rfl
    obtain ⟨w4, hw4⟩ : ∃ w4, w4 = wc.alloc (.cells #[.int .i64 p.1, .int .i64 p.2, .string s, .pointer none, .pointer none] 81) := ⟨_, rfl⟩
    have hb4 : Below wc.heap.size wc w4 := by rw [hw4]; exact below_alloc (Below.refl _ _) _
    have hz4 : w4.heap.size = n + 1 := by rw [hw4, hn]; simp
    have hc4 := HC.out.below hb4
    have hn4 : w4.heap[n]? = some (.cells #[.int .i64 p.1, .int .i64 p.2, .string s, .pointer none, .pointer none] 81 (0, 0)) := by rw [hw4, hn]; exact blk_new _ _
    have hbx4 : w4.heap[w.heap.size]? = some (.cells #[.int .i64 p.1, .int .i64 p.2] 36 (0, 0)) := by rw [hw4]; exact blk_alloc hbx _
    obtain ⟨w5, hrun, hm5, ht5⟩ := (hc4.mp.same (w' := w4.drew) rfl).put (by have := HLen.out; have := HL.out; omega) p HP.out HF.out n
    have hnm : n ≠ m := by have := HC.out.mp.lt; omega
    have hng : n ≠ g := by have := HC.out.rm.lt (.inl rfl); omega
    have hnb : n ∉ bs1 := fun hx => by have := HC.out.rm.lt (.inr hx); omega
    have hz5 : w4.heap.size ≤ w5.heap.size := ht5.grown.size
    have hn5 : w5.heap[n]? = some (.cells #[.int .i64 p.1, .int .i64 p.2, .string s, .pointer none, .pointer none] 81 (0, 0)) := (ht5.grown.block n (blk_lt (w := w4.drew) hn4) (fun e => hnm (by injection e))).trans hn4
    have hmm := hc4.mp.isMap.choose_spec.choose_spec
    have hr5 : RM w5 g m room hit miss (fun b => b ∈ bs1) K V A1 N1 := hc4.rm.same (fun b hb => ht5.grown.block b (hc4.rm.lt hb) (fun e => hc4.rm.ne_map (m' := m) hmm hb (by injection e with e; exact e.symm)))
    have hN1 : N1 g = g ∨ N1 g ∈ bs1 := by
      rcases List.mem_append.1 HC.out.lk.next_mem with h' | h'
      · exact .inr h'
      · exact .inl (List.mem_singleton.1 h')
    have HFst := Aside0.mk (first_calls hr5 hn5 hng hnb hN1)
    have HRun := Aside0.mk hrun
    have HK5 := Aside0.mk (show KeptBut (fun k => P k ∨ k = n) w w5 from by
      have e1 : KeptBut P w wc := (KeptBut.of_below HB0.out).trans HK.out
      have e2 : KeptBut P wc w5 := ((KeptBut.of_below hb4).trans (KeptBut.drew _ _)).trans (KeptBut.turned ht5 HC.out.pm)
      exact (e1.trans e2).mono (fun k _ hk => .inl hk))
    have HM5 := Aside0.mk hm5
    have HZ5 := Aside0.mk (show n < w5.heap.size by omega)
    have HZ5' := Aside0.mk (show wc.heap.size ≤ w5.heap.size by omega)
    have HMM5 := Aside0.mk (show m < w5.heap.size ∧ m ≠ g ∧ m ≠ n ∧ m ∉ bs1 from ⟨hm5.lt, hc4.rm.ne_map hmm (.inl rfl), fun e => hnm e.symm, fun hx => hc4.rm.ne_map (m' := m) hmm (.inr hx) rfl⟩)
    have c0 : w4.drew.cell? ⟨g, 5, none⟩ = some (.map (some m)) := (blk_cell (w := w4.drew) hc4.rm.root 5).trans rfl
    have c1 : w4.drew.cell? ⟨w.heap.size, 0, none⟩ = some (.int .i64 p.1) := (blk_cell (w := w4.drew) hbx4 0).trans rfl
    have c2 : w4.drew.cell? ⟨w.heap.size, 1, none⟩ = some (.int .i64 p.2) := (blk_cell (w := w4.drew) hbx4 1).trans rfl
    have HW4 := Aside0.mk hw4
    have HNG := Aside0.mk hng
    have HNM := Aside0.mk hnm
    have HNB := Aside0.mk hnb
    clear hbx hb4 hz4 hc4 hn4 hbx4 hrun hm5 ht5 hnm hng hnb hz5 hn5 hmm hr5 hN1 hw4 hn
    go_wp2
    rw [← HW4.out, ← HN.out]
    go_still_tail 7, (by kernel_rfl)
    refine update_known rfl (.tmp 33) (.tmp 34) (.tmp 35) 82 rfl (.map (some m)) (plV p) (ptr n) rfl rfl rfl HRun.out ?_
    clear c0 c1 c2 k1 k2
    go_wp2_with (go_at_call 35; refine HFst.out.mono ?_; rintro e w6 ⟨rfl, hr, hk⟩; have HR6 := Aside0.mk hr; have HK6 := Aside0.mk hk; clear hr hk)
    have hm6 : MapP w6 m (bs1.length + 1) (pput F1 p (some n)) := HM5.out.same (HK6.out.block m HMM5.out.1 (fun hx => by
      rcases hx with h' | h' | h'
      · exact HMM5.out.2.1 h'
      · exact HMM5.out.2.2.1 h'
      · exact HMM5.out.2.2.2 h'))
    have hc6 := HC.out.push HP.out HF.out HNB.out HNG.out HNM.out hm6 HR6.out (Nat.lt_of_lt_of_le HZ5.out HK6.out.size) (Nat.le_trans HZ5'.out HK6.out.size)
    have hents : entsOf (n :: bs1) (fput K n p) (fput V n s) = (p, s) :: withoutE (entsOf bs K V) p := by rw [ents_put HNB.out, HE.out]
    have hK6 : KeptBut (fun k => P k ∨ k = n) w w6 := HK5.out.trans (HK6.out.mono (fun k _ hk => by
      rcases hk with h' | h' | h'
      · rw [h']; exact .inl HC.out.pg
      · exact .inr h'
      · exact .inl (HC.out.pb _ h')))
    have hnw : w.heap.size ≤ n := by
      have h1 := HB0.out.size
      have h2 := HK.out.size
      rw [HN.out]; omega
    have back : ∀ w' : World, KeptBut (fun k => P k ∨ k = n) w w' → KeptBut P w w' := fun w' hk => hk.mono (fun k hlt hx => hx.resolve_right (fun e => by omega))
    have hlen6 : ((withoutE (entsOf bs K V) p).length : Int) + 1 = ((bs1.length + 1 : Nat) : Int) := by rw [← HE.out]; simp [entsOf]
    have hln := fun ty => (hm6.same (w' := w6.drew) rfl).len ty
    have d0 : w6.drew.cell? ⟨g, 5, none⟩ = some (.map (some m)) := (blk_cell (w := w6.drew) hc6.rm.root 5).trans rfl
    have d1 : w6.drew.cell? ⟨g, 6, none⟩ = some (.int .i64 room) := (blk_cell (w := w6.drew) hc6.rm.root 6).trans rfl
    have HC6 := Aside0.mk hc6
    have HEn := Aside0.mk hents
    have HKK := Aside0.mk hK6
    have HBk := Aside0.mk back
    have HL6 := Aside0.mk hlen6
    have HLn := Aside0.mk hln
    have HNW := Aside0.mk hnw
    clear hm6 hc6 hents hK6 hnw back hlen6 hln
    refine wp_region_still_lit (by kernel_rfl) (by kernel_rfl) ?_
    repeat still_step
    refine still_len rfl (.tmp 45) 82 rfl (.map (some m)) rfl (HLn.out _) ?_
    repeat still_step
    refine wpStill_nil ?_
    clear d0 d1
    by_cases hbig : ((bs1.length + 1 : Nat) : Int) > room
    · have b1 : decide (((bs1.length + 1 : Nat) : Int) > room) = true := decide_eq_true hbig
      obtain ⟨l1, hl1, hl2⟩ := last_split HC6.out.lk
      have hd := (hl1 ▸ HC6.out : Cch _ w6 g m room hit miss (l1 ++ fput (fput A1 n g) (N1 g) n g :: []) (fput K n p) (fput V n s) _ _ _)
      have HD := Aside0.mk (rdrop_calls (hd.below (w' := w6.drew.drew) (Below.refl _ _).drew.drew))
      have e0 : ({ heap := w6.heap, tape := w6.tape, drawn := w6.drawn + 1 + 1, os := w6.os, output := w6.output } : World).cell? ⟨g, 3, none⟩ = some (ptr (fput (fput A1 n g) (N1 g) n g)) := (blk_cell (w := w6.drew.drew) HC6.out.rm.root 3).trans rfl
      clear hd
      go_wp2
      go_still_tail 9, (by kernel_rfl)
      go_wp2_with (go_at_call 34; refine HD.out.mono ?_; rintro e w7 ⟨rfl, hc, hk⟩; have HC7 := Aside0.mk hc; have HK7 := Aside0.mk hk; clear hc hk)
      go_end0
      refine ⟨rfl, _, ⟨_, _, _, _, _, _, _, HC7.out, ?_⟩, fun k hk => ?_, HBk.out _ (((HKK.out.trans (KeptBut.drew _ _)).trans (KeptBut.drew _ _)).trans HK7.out)⟩
      · unfold putE
        rw [if_pos (by rw [HL6.out]; exact hbig), ← HEn.out, hl2, List.append_nil]
        unfold entsOf
        rw [List.map_dropLast]
      · rcases hk with h' | h'
        · exact .inl h'
        · exact .inr (h' ▸ HNW.out)
    · have b1 : decide (((bs1.length + 1 : Nat) : Int) > room) = false := decide_eq_false hbig
      go_wp2
      go_end0
      refine ⟨rfl, _, ⟨_, _, _, _, _, _, _, HC6.out.below (Below.refl _ _).drew, ?_⟩, fun k hk => ?_, HBk.out _ (HKK.out.trans (KeptBut.drew _ _))⟩
      · unfold putE
        rw [if_neg (by rw [HL6.out]; omega), HEn.out]
      · rcases hk with h' | h'
        · exact .inl h'
        · exact .inr (h' ▸ HNW.out)
end Go.Proofs.YtoglapodcejocaaDoor.G
