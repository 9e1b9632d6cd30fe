/- cluster.Raw and cluster.Read over this seat's program. Conditions: each lemma's own. -/
import Derived.Test.YtnhigoffkmfccaaDoorCluWrite
import Derived.Lib.AppendStr
namespace Go.Proofs.YtnhigoffkmfccaaDoor.G
open Go.RowKit Go.Shelf Go.ChangeMaps Go.MapKept Go.Proofs.YtnhigoffkmfccaaDoorW.PrintWords Go.Proofs.YtnhigoffkmfccaaDoorW.PrintLast Go.Proofs.YtnhigoffkmfccaaDoorW.PrintMore
set_option linter.unusedVariables false
set_option linter.unusedSimpArgs false
attribute [local go_sem] Oper.semAt_some
/-- An append whose run is known, inside a fence. -/
theorem append_known {F : Fence} {n' : Nat} {P : Program} {ops : Array Oper} {rest : List Oper} {o : Oper} {a : Act} {Q : Exit → Act → World → Prop} {W : World} (hgd : o.guard = none) (sl x : Operand) (t u : TypeId)
    (ho : o.op = .call { callee := .builtin .append, args := #[sl, x], argTypes := #[t, u] }) (v y : Value) (hs : a.eval sl = v) (hx : a.eval x = y) {v' : Value} {w' : World} (hr : (Builtin.append_ #[t, u] o.type #[v, y]).run P W = .ok v' w')
    (h : wpListIn F n' P ops Q rest (a.put o.dst v') w') : wpListIn F n' P ops Q (o :: rest) a W := by
  refine wpListIn_plain hgd fun K hK => ?_
  unfold Oper.wpIn
  refine ⟨?_, ?_⟩
  · simp [Oper.about, ho, resolve, Target.leads, Sem.run_pure]
  · rw [Oper.semAt_plain F _ _ (by rw [ho]; intro c hc'; cases hc')]
    simp [execOp, ho, resolve, invoke, builtin, hs, hx, hr, Result.andThen]
    exact hK _ _ h
/-- The bytes of some sectors. -/
def rawB (f : Nat → ByteArray) (first : Nat) {m : Nat} (pre : List (Fin m)) : List Int := pre.flatMap fun i => bytesOf (f (first + i.val))
theorem rawB_snoc (f : Nat → ByteArray) (first : Nat) {m : Nat} (pre : List (Fin m)) (x : Fin m) : rawB f first (pre ++ [x]) = rawB f first pre ++ bytesOf (f (first + x.val)) := by simp [rawB]
theorem rawB_length (f : Nat → ByteArray) (first : Nat) {m : Nat} (h : ∀ i, i < m → (f (first + i)).size = 512) (pre : List (Fin m)) : (rawB f first pre).length = pre.length * 512 := by
  unfold rawB
  induction pre with
  | nil => simp
  | cons x pre ih => rw [List.flatMap_cons, List.length_append, ih, bytesOf_length, h x.val x.isLt, List.length_cons]; omega
theorem crow_own {X Y : World} {row : Option Nat} {base e size n : Nat} {v : Value} {xs : List Value} (h : X.ownsRow base e size v n xs) (hg : X.grownBy Y row) (hr : ∀ r, row = some r → ∃ o : Obj, X.heap[r]? = some o ∧ o.isCells = false) : Y.ownsRow base e size v n xs := by
  refine h.kept hg ?_
  rcases h.2 with ⟨rfl, _⟩ | ⟨g, cap, cur, rfl, _, hgb, _⟩
  · exact .inl rfl
  · refine .inr fun e' => ?_
    obtain ⟨o, ho, hc⟩ := hr g (by simpa [Value.ownBlock] using e'.symm)
    rw [hgb] at ho; cases ho; cases hc
theorem crow_cells {X : World} {base e size n : Nat} {v : Value} {xs : List Value} (h : X.ownsRow base e size v n xs) : ∀ (j : Nat) (o : Obj), v.ownBlock = some j → X.heap[j]? = some o → o.isCells = true := fun j o hj ho => by
  rcases h.2 with ⟨rfl, _⟩ | ⟨g, cap, cur, rfl, _, hgb, _⟩
  · cases hj
  · have e : g = j := by simpa [Value.ownBlock] using hj
    rw [← e, hgb] at ho; cases ho; rfl
theorem crow_set {X : World} {base e size n b i : Nat} {v u : Value} {xs : List Value} (h : X.ownsRow base e size v n xs) (hb : b < base) : (X.setCell ⟨b, i, none⟩ u).ownsRow base e size v n xs := by
  obtain ⟨h1, h2 | ⟨g, cap, cur, e1, hbg, hg, h3⟩⟩ := h
  · exact ⟨h1, .inl h2⟩
  · exact ⟨h1, .inr ⟨g, cap, cur, e1, hbg, (Below.heap_setCell _ _ _ _ (by show g ≠ b; omega)).trans hg, h3⟩⟩
theorem crow_conv {W : World} {base : Nat} {v : Value} {xs : List Int} (h : W.ownsRow base 5 1 v xs.length (nums .u8 xs)) (h0 : 0 < xs.length) : (convert 53 9 v).run Tryd.prog W = .ok (.string (strOfNums xs)) W := by
  obtain ⟨h1, ⟨rfl, hz⟩ | ⟨g, cap, cur, rfl, hb, hg, hn, hm, hs, ht⟩⟩ := h
  · omega
  · refine run_convert_bytes_arg W 53 5 Tryd.underlying53 Tryd.underlying5 g 0 xs.length cap xs rfl (fun i hi => ?_) 9 Tryd.underlying9
    rw [blk_cell hg, Nat.zero_add]
    have hi' : i < xs.length := hi
    have e1 : (cur.toList.take (xs.length * 1))[i]? = some (.int .u8 (xs.getD i 0)) := by
      rw [ht]
      unfold nums
      rw [List.getElem?_map, List.getElem?_eq_getElem hi']
      simp [List.getD_eq_getElem?_getD, List.getElem?_eq_getElem hi']
    rw [List.getElem?_take, if_pos (by omega)] at e1
    simpa using e1
/-- Between two rounds of Raw's loop: a device at g, whose blocks lie below the world's size at first. -/
structure RawI (P : Nat → Prop) (g n c : Nat) (f : Nat → ByteArray) (first : Nat) (q1 q2 : Nat) (w : World) {m : Nat} (pre : List (Fin m)) (W : World) : Prop where
  dev : Dev (fun k => P k ∧ k < w.heap.size) W g n c f
  bd : Boxed W w.heap.size 26 (.pointer (some ⟨g, 0, none⟩))
  bs : Boxed W (w.heap.size + 2) 9 (.string ⟨#[]⟩)
  be : Boxed W (w.heap.size + 3) 27 (.int .i64 0)
  bf : Boxed W q1 3 (.int .i64 first)
  row : ∃ v, Boxed W q2 53 v ∧ W.ownsRow (q2 + 1) 5 1 v (rawB f first pre).length (nums .u8 (rawB f first pre))
  sz : q2 + 1 ≤ W.heap.size
  bel : Below w.heap.size w W
theorem rawI_own {P : Nat → Prop} {g n c : Nat} {f : Nat → ByteArray} {first : Nat} {q1 q2 : Nat} {w : World} {m B : Nat} (hB : w.heap.size ≤ B) : OwnFrom B (RawI P g n c f first q1 q2 w (m := m)) := fun pre X Y row h hg hr => by
  have hr' : ∀ r, row = some r → ∃ o : Obj, X.heap[r]? = some o ∧ o.isCells = false := fun r e => (hr r e).2
  have hbox : ∀ {b t v}, Boxed X b t v → Boxed Y b t v := fun {b t v} hb => hb.kept hg (fun e' => by obtain ⟨o, ho, hc⟩ := hr' b e'.symm; rw [show X.heap[b]? = _ from hb] at ho; cases ho; cases hc)
  obtain ⟨v, hv, ho⟩ := h.row
  exact ⟨h.dev.own hg (fun r e hp => by have := (hr r e).1; have := hp.2; omega), hbox h.bd, hbox h.bs, hbox h.be, hbox h.bf, ⟨v, hbox hv, crow_own ho hg hr'⟩, Nat.le_trans h.sz hg.size, h.bel.grown hg h.bel.size (fun r e => Nat.le_trans hB (hr r e).1)⟩
set_option maxRecDepth 100000 in
set_option maxHeartbeats 4000000 in
theorem craw_calls {P : Nat → Prop} {w : World} {g n c0 : Nat} {f : Nat → ByteArray} (hD : Dev P w g n c0 f) (k : Nat) (a b c d ata : Int) (first z m : Nat) (hS : geom_Size.f k a b c d = some (z : Int)) (hF : geom_First.f k a b c d ata = some ((first : Int), 0)) (hz : z = m * 512) (hm1 : 1 ≤ m) (hm : m ≤ 2147483648) (hfm : first + m ≤ n) (hf : ∀ i, i < m → (f (first + i)).size = 512) :
    Calls Tryd.prog 30 #[.pointer (some ⟨g, 0, none⟩), .agg #[.int .i64 a, .int .i64 b, .int .i64 c, .int .i64 d], .int .i64 ata] w fun e w' => e = .returned (.tuple #[.string (strOfNums (rawB f first (List.finRange m))), .int .i64 0]) ∧ Below w.heap.size w w' := by
  refine (callsIn_wide (n := 3)).1 ?_
  have hro : Fence.wide.round = none := rfl
  have h1 : 1 ≤ 3 := by decide
  have HD := Aside0.mk hD.lt
  have HFi := Aside0.mk (fun W => geom_First.calls k a b c d ata (first : Int) 0 W hF)
  clear hD
  refine callsIn_of_wp_marks Tryd.func30 rfl trivial ?_ hro
  simp only [Tryd.ntmps30, List.size_toArray, List.length_cons, List.length_nil, Nat.reduceAdd, Nat.reduceSub, Array.replicate_succ, Array.replicate_zero, List.push_toArray, List.append_toArray, List.nil_append, List.cons_append]
  gi_upto_region 5 with (refine ⟨trivial, ?_⟩; gi_at_call 10; refine (callsIn_wide.2 (HFi.out _)).mono ?_; rintro e w1 ⟨rfl, hb⟩; have HB1 := Aside0.mk hb; clear hb)
  obtain ⟨f0, f1, f2, f3, f4, f5⟩ := four_boxes w (.cells #[.pointer (some ⟨g, 0, none⟩)] 26) (.cells #[.int .i64 a, .int .i64 b, .int .i64 c, .int .i64 d] 23) (.cells #[.string ⟨#[]⟩] 9) (.cells #[.int .i64 0] 27)
  have hA1 := (HB1.out.alloc (HB1.out.size) (.cells #[.int .i64 (first : Int)] 3)).alloc (by have := HB1.out.size; simp at this ⊢; omega) (.cells #[.slice none 0 0] 53)
  rw [f4] at hA1
  have sz1 : w.heap.size + 4 ≤ w1.heap.size := by have := HB1.out.size; omega
  have g4 := heap_old (.cells #[.slice none 0 0] 53) (heap_new w1 (.cells #[.int .i64 (first : Int)] 3) rfl)
  have g5 := heap_new (w1.alloc (.cells #[.int .i64 (first : Int)] 3)) (.cells #[.slice none 0 0] 53) (q := w1.heap.size + 1) (by simp)
  have gz : ((w1.alloc (.cells #[.int .i64 (first : Int)] 3)).alloc (.cells #[.slice none 0 0] 53)).heap.size = w1.heap.size + 1 + 1 := by simp
  obtain ⟨W1, hW1⟩ : ∃ W, W = (w1.alloc (.cells #[.int .i64 (first : Int)] 3)).alloc (.cells #[.slice none 0 0] 53) := ⟨_, rfl⟩
  rw [← hW1] at hA1 g4 g5 gz ⊢
  have g0 := (hA1.block w.heap.size (by omega)).trans f0
  have g1 := (hA1.block (w.heap.size + 1) (by omega)).trans f1
  have g2 := (hA1.block (w.heap.size + 2) (by omega)).trans f2
  have g3 := (hA1.block (w.heap.size + 3) (by omega)).trans f3
  have hW := f5.trans (hA1.mono (by omega))
  have hDev := HD.out.below hW
  obtain ⟨q1, hq1⟩ : ∃ q, q = w1.heap.size := ⟨_, rfl⟩
  rw [← hq1] at g4 g5 gz sz1 ⊢
  have x1 : W1.cell? ⟨w.heap.size + 1, 0, none⟩ = some (.int .i64 a) := by rw [blk_cell g1]; rfl
  have x2 : W1.cell? ⟨w.heap.size + 1, 1, none⟩ = some (.int .i64 b) := by rw [blk_cell g1]; rfl
  have x3 : W1.cell? ⟨w.heap.size + 1, 2, none⟩ = some (.int .i64 c) := by rw [blk_cell g1]; rfl
  have x4 : W1.cell? ⟨w.heap.size + 1, 3, none⟩ = some (.int .i64 d) := by rw [blk_cell g1]; rfl
  have G0 := Aside0.mk g0
  have G2 := Aside0.mk g2
  have G3 := Aside0.mk g3
  have G4 := Aside0.mk g4
  have G5 := Aside0.mk g5
  have GZ := Aside0.mk gz
  have SZ := Aside0.mk sz1
  have HW := Aside0.mk hW
  have HDev := Aside0.mk hDev
  clear g0 g1 g2 g3 g4 g5 gz hDev hA1 f0 f1 f2 f3 f4 f5 HB1 hq1 hW1 sz1 hW
  gi_wp2_with (refine ⟨trivial, ?_⟩; gi_at_call 31; refine (parts_in _ _ _ _ _ _).mono ?_; rintro e w' ⟨rfl, rfl⟩)
  have HBW := Aside0.mk ((Below.refl W1.heap.size W1).alloc (Nat.le_refl _) (.cells #[.int .i64 a, .int .i64 b, .int .i64 c, .int .i64 d] 23))
  have hgz : (W1.alloc (.cells #[.int .i64 a, .int .i64 b, .int .i64 c, .int .i64 d] 23)).heap.size = W1.heap.size + 1 := by simp
  have hnew := heap_new W1 (.cells #[.int .i64 a, .int .i64 b, .int .i64 c, .int .i64 d] 23) rfl
  obtain ⟨W2, hW2⟩ : ∃ W, W = W1.alloc (.cells #[.int .i64 a, .int .i64 b, .int .i64 c, .int .i64 d] 23) := ⟨_, rfl⟩
  rw [← hW2] at HBW hgz hnew ⊢
  have hz2 : w.heap.size + 4 ≤ q1 := SZ.out
  have hz3 : W1.heap.size ≤ q1 + 1 + 1 := Nat.le_of_eq GZ.out
  have hz4 : q1 + 1 + 1 ≤ W1.heap.size := Nat.le_of_eq GZ.out.symm
  have hI0 : RawI P g n c0 f first q1 (q1 + 1) w (m := m) [] W2 := ⟨HDev.out.below HBW.out, (HBW.out.block _ (by omega)).trans G0.out, (HBW.out.block _ (by omega)).trans G2.out, (HBW.out.block _ (by omega)).trans G3.out, (HBW.out.block _ (by omega)).trans G4.out, ⟨_, (HBW.out.block _ (by omega)).trans G5.out, World.ownsRow_nil _ _ _ _⟩, by omega, HW.out.trans (HBW.out.mono (by omega))⟩
  refine wpIn_rangeFunc_ownG hro h1 (gf := 45) (lb := #[.pointer (some ⟨W1.heap.size, 0, none⟩)]) rfl trivial (enters_of Tryd.func45 (by kernel_rfl) rfl)
    (parts_stops (3 - 1) (by decide) W1.heap.size k m z a b c d hS (by omega) (by omega) W2 hnew)
    kpP_t kpP_b (Below.refl _ _) (fun _ => rfl)
    (RawI P g n c0 f first q1 (q1 + 1) w (m := m))
    (fun _ _ _ => False)
    (rawI_own (by rw [hgz]; omega))
    (fun _ _ _ _ _ hs _ _ => hs)
    hI0
    (fun x => { tmps := #[.pointer (some ⟨g, 0, none⟩), .agg #[.int .i64 a, .int .i64 b, .int .i64 c, .int .i64 d], .int .i64 ata, .pointer (some ⟨w.heap.size, 0, none⟩), .pointer (some ⟨w.heap.size + 1, 0, none⟩), undef, .pointer (some ⟨w.heap.size + 1 + 1, 0, none⟩), .pointer (some ⟨w.heap.size + 1 + 1 + 1, 0, none⟩), .pointer (some ⟨q1, 0, none⟩), .int .i64 0, .pointer (some ⟨q1 + 1, 0, none⟩), .int .i64 (x.val : Int), undef, undef, .tuple #[.int .i64 first, .int .i64 0], .agg #[.int .i64 a, .int .i64 b, .int .i64 c, .int .i64 d], .int .i64 ata, .tuple #[.int .i64 first, .int .i64 0], .int .i64 first, .int .i64 0, .int .i64 0, .bool false, undef, .agg #[.int .i64 a, .int .i64 b, .int .i64 c, .int .i64 d], .func (.func 45) #[] #[.pointer (some ⟨W1.heap.size, 0, none⟩)], .int .i64 (x.val : Int), .int .i64 ((x.val : Int) * 512), undef, undef, undef, undef, undef, undef, undef, undef, undef, undef, undef, undef, undef, undef, undef, undef], defers := [] }) ?assign ?body ?done ?stop
  case assign =>
    intro l x W K hK
    dsimp only [pencs]
    gi_wp2
    exact hK
  case body =>
    rintro l pre x W hI hlt
    dsimp only
    have hx := x.isLt
    have hn := hI.dev.n_le
    have HI := Aside0.mk hI
    have k1 := hI.bd.cell
    have k3 := hI.bf.cell
    obtain ⟨v, hv, ho⟩ := hI.row
    have k4 := hv.cell
    have k5 := hv.frozen
    have hrd := read_calls (i := first + x.val) hI.dev (by omega)
    rw [Int.natCast_add] at hrd
    obtain ⟨y, hy⟩ : ∃ y, y = f (first + x.val) := ⟨_, rfl⟩
    have hys : y.size = 512 := by rw [hy]; exact hf x.val hx
    rw [← hy] at hrd
    have hbl := rawB_length f first hf pre
    obtain ⟨xs, hxs⟩ : ∃ xs, xs = rawB f first pre := ⟨_, rfl⟩
    rw [← hxs] at ho hbl
    obtain ⟨i0, hi, hzz⟩ := Option.map_eq_some_iff.1 (show (Tryd.prog.info? 5).map (fun i => (i.zero, i.size, i.bytes)) = some (some (.int .u8 0), 1, 1) by kernel_rfl)
    simp only [Prod.mk.injEq] at hzz
    obtain ⟨hz0, hz1, hz2'⟩ := hzz
    obtain ⟨v', w', hr, hown, hg, -⟩ := Lib.run_append_own_string (P := Tryd.prog) W (q1 + 1 + 1) 53 9 53 5 i0 Tryd.underlying53 Tryd.underlying9 hi hz0 hz1 hz2' v xs.length (nums .u8 xs) ho y (by simp only [maxLen]; omega) (by omega) hI.sz
    obtain ⟨gv, cv, rfl⟩ : ∃ gv cv, v' = .slice (some ⟨gv, 0, none⟩) (xs.length + y.size) cv := by
      rcases hown.2 with ⟨-, hz⟩ | ⟨gv, cv, cur, e, -⟩
      · omega
      · exact ⟨gv, cv, e⟩
    have hk4 : w'.cell? ⟨q1 + 1, 0, none⟩ = some v := (hv.kept hg (fun e => by have := own_base ho _ e.symm; omega)).cell
    have hk5 : w'.frozen? ⟨q1 + 1, 0, none⟩ = false := (hv.kept hg (fun e => by have := own_base ho _ e.symm; omega)).frozen
    have HRd := Aside0.mk hrd
    have HRun := Aside0.mk hr
    have HOwn := Aside0.mk hown
    have HOld := Aside0.mk ho
    have HG := Aside0.mk hg
    have HV := Aside0.mk hv
    have HY := Aside0.mk hy
    have HXS := Aside0.mk hxs
    have HYS := Aside0.mk hys
    have u1 : wrap64 ((first : Int) + (x.val : Int)) = (first : Int) + (x.val : Int) := wrap_small _ (by omega) (by omega)
    clear hr hI hrd hown hg hv ho hy hxs hys hbl hi hz0 hz1 hz2' hn
    gi_wp2_with (first | (refine ⟨trivial, ?_⟩; gi_at_call 15; (with_reducible refine ((callsIn_wide.2 HRd.out).inRound _).mono ?_); rintro e w2 ⟨rfl, hww⟩; obtain rfl := hww) | (gi_at_builtin; refine append_known rfl (.tmp 38) (.tmp 39) 53 9 rfl _ _ rfl rfl HRun.out ?_))
    have hI := HI.out
    have hg := HG.out
    have ho := HOld.out
    have hne : ∀ b, b ≤ q1 + 1 → some b ≠ v.ownBlock := fun b hb e => by have := own_base ho _ e.symm; omega
    refine ⟨((KeepsOthers.of_grownBy hg (crow_cells ho)).trans (KeepsOthers.setCell _ _ _)).from _, trivial, ⟨?_, (hI.bd.kept hg (hne _ (by omega))).other (by omega) _, (hI.bs.kept hg (hne _ (by omega))).other (by omega) _, (hI.be.kept hg (hne _ (by omega))).other (by omega) _, (hI.bf.kept hg (hne _ (by omega))).other (by omega) _, ⟨_, (HV.out.kept hg (hne _ (by omega))).set _, ?_⟩, ?_, ?_⟩⟩
    · refine (hI.dev.own hg (fun r e hp => hne r (by omega) e.symm)).same (fun k hk => ?_)
      exact Below.heap_setCell _ _ _ _ (by show k ≠ q1 + 1; omega)
    · rw [rawB_snoc, ← HXS.out, ← HY.out]
      have hl2 : (xs ++ bytesOf y).length = xs.length + y.size := by rw [List.length_append, bytesOf_length]
      have hc : nums .u8 (xs ++ bytesOf y) = nums .u8 xs ++ Lib.strCells y := by
        rw [nums_append]
        congr 1
        simp [nums, bytesOf, Lib.strCells]
      rw [hl2, hc]
      exact crow_set HOwn.out (by omega)
    · have := hI.sz; have := hg.size; simp [World.setCell]; omega
    · exact (hI.bel.grown hg hI.bel.size (fun r e => by have := own_base ho r e; omega)).setCell (by show w.heap.size ≤ q1 + 1; omega) _
  case done =>
    rintro D ys W hD rfl hI hK
    obtain ⟨v, hv, ho⟩ := hI.row
    have hl : (List.finRange m).length = m := List.length_finRange
    have hbl := rawB_length f first hf (List.finRange m)
    rw [hl] at hbl
    have hconv := crow_conv ho (by omega)
    obtain ⟨t, ht⟩ : ∃ t, t = strOfNums (rawB f first (List.finRange m)) := ⟨_, rfl⟩
    rw [← ht] at hconv
    have HT := Aside0.mk ht
    have k1 := hv.cell
    have k2 : W.cell? ⟨w.heap.size + 1 + 1, 0, none⟩ = some (.string ⟨#[]⟩) := hI.bs.cell
    have k3 : W.frozen? ⟨w.heap.size + 1 + 1, 0, none⟩ = false := hI.bs.frozen
    have k4 : W.cell? ⟨w.heap.size + 1 + 1 + 1, 0, none⟩ = some (.int .i64 0) := hI.be.cell
    have k5 : W.frozen? ⟨w.heap.size + 1 + 1 + 1, 0, none⟩ = false := hI.be.frozen
    have HI := Aside0.mk hI
    have HK := Aside0.mk hK
    clear hI hK hl hbl ho hv ht
    gi_wp2
    have hD3 : w.heap.size + 3 < D := by rw [hgz] at hD; omega
    have hB2 : Boxed ((W.setCell ⟨w.heap.size + 1 + 1, 0, none⟩ (.string t)).setCell ⟨w.heap.size + 1 + 1 + 1, 0, none⟩ (.int .i64 0)) (w.heap.size + 2) 9 (.string t) := (HI.out.bs.set (.string t)).other (by omega) _
    have hB3 : Boxed ((W.setCell ⟨w.heap.size + 1 + 1, 0, none⟩ (.string t)).setCell ⟨w.heap.size + 1 + 1 + 1, 0, none⟩ (.int .i64 0)) (w.heap.size + 3) 27 (.int .i64 0) := (show Boxed (W.setCell ⟨w.heap.size + 1 + 1, 0, none⟩ (.string t)) (w.heap.size + 3) 27 (.int .i64 0) from HI.out.be.other (by omega) _).set _
    obtain ⟨Wf, hWf⟩ : ∃ W0, W0 = (W.setCell ⟨w.heap.size + 1 + 1, 0, none⟩ (.string t)).setCell ⟨w.heap.size + 1 + 1 + 1, 0, none⟩ (.int .i64 0) := ⟨_, rfl⟩
    have hKD : Wf.heap[D]? = some (.deferred (some [])) := by
      rw [hWf, Below.heap_setCell _ _ _ _ (by show D ≠ w.heap.size + 1 + 1 + 1; omega), Below.heap_setCell _ _ _ _ (by show D ≠ w.heap.size + 1 + 1; omega)]; exact HK.out
    have hbf : Below w.heap.size w Wf := by
      rw [hWf]
      exact (HI.out.bel.setCell (p := ⟨w.heap.size + 1 + 1, 0, none⟩) (by show w.heap.size ≤ w.heap.size + 1 + 1; omega) _).setCell (p := ⟨w.heap.size + 1 + 1 + 1, 0, none⟩) (by show w.heap.size ≤ w.heap.size + 1 + 1 + 1; omega) _
    rw [← hWf] at hB2 hB3 ⊢
    refine ⟨by simp, .inl ⟨_, _, rfl, run_takeDeferred hKD, ?_⟩⟩
    have hc2 : (Wf.putObj D (.deferred none)).cell? ⟨w.heap.size + 1 + 1, 0, none⟩ = some (.string t) := by
      have : Boxed (Wf.putObj D (.deferred none)) (w.heap.size + 2) 9 (.string t) := (World.putObj_heap_other (by omega)).trans hB2
      exact this.cell
    have hc3 : (Wf.putObj D (.deferred none)).cell? ⟨w.heap.size + 1 + 1 + 1, 0, none⟩ = some (.int .i64 0) := by
      have : Boxed (Wf.putObj D (.deferred none)) (w.heap.size + 3) 27 (.int .i64 0) := (World.putObj_heap_other (by omega)).trans hB3
      exact this.cell
    refine ⟨.tuple #[.string t, .int .i64 0], ?_, ?_, ?_⟩
    · simp [results, Tryd.results30, go_sem, hc2, hc3]
    · rw [HT.out]
    · exact hbf.trans (belowK_b (w := w) (Nat.le_refl _) Wf D _ _ (by omega) hKD rfl rfl)
  case stop =>
    rintro D c pre W _ _ h _
    exact h.elim
set_option maxRecDepth 100000 in
set_option maxHeartbeats 4000000 in
/-- What is read by its sum. -/
theorem cread_calls {P : Nat → Prop} {w : World} {g n c0 : Nat} {f : Nat → ByteArray} (hD : Dev P w g n c0 f) (hG : GT w) (k : Nat) (a b c d ata : Int) (first z m : Nat) (sum : Int) (hS : geom_Size.f k a b c d = some (z : Int)) (hF : geom_First.f k a b c d ata = some ((first : Int), 0)) (hz : z = m * 512) (hm1 : 1 ≤ m) (hm : m ≤ 2147483648) (hfm : first + m ≤ n) (hf : ∀ i, i < m → (f (first + i)).size = 512) (t : ByteArray) (ht : strOfNums (rawB f first (List.finRange m)) = t) (hC : crc_Sum.f t = some sum) :
    Calls Tryd.prog 12 #[.pointer (some ⟨g, 0, none⟩), .agg #[.int .i64 a, .int .i64 b, .int .i64 c, .int .i64 d], .int .i64 ata, .int .u32 sum] w fun e w' => e = .returned (.tuple #[.string t, .int .i64 0]) ∧ Below w.heap.size w w' := by
  have hB0 := below_alloc (Below.refl w.heap.size w) (.cells #[.int .i64 a, .int .i64 b, .int .i64 c, .int .i64 d] 23)
  have hR := craw_calls (hD.alloc (.cells #[.int .i64 a, .int .i64 b, .int .i64 c, .int .i64 d] 23)) k a b c d ata first z m hS hF hz hm1 hm hfm hf
  rw [ht] at hR
  have HR := Aside0.mk hR
  have HB0 := Aside0.mk hB0
  have HG := Aside0.mk hG
  have HC := Aside0.mk hC
  have b1 : (sum != sum) = false := bne_self_eq_false _
  clear hD hG hB0 hR hS hF hz hm1 hm hfm hf ht hC
  go_enter Tryd.func12, Tryd.ntmps12
  go_wp2_with (first
    | (go_at_call 30; (with_reducible refine HR.out.mono ?_); rintro e w1 ⟨rfl, hb⟩; have HB1 := Aside0.mk (HB0.out.trans (hb.mono (by simp))); clear hb)
    | (go_at_call 14; (with_reducible refine (crc_Sum.calls t sum _ (GT.below HG.out HB1.out) HC.out).mono ?_); rintro e w2 ⟨rfl, hb⟩; have HB2 := Aside0.mk hb; clear hb))
  go_ret2
  exact ⟨rfl, HB1.out.trans (HB2.out.below.mono HB1.out.size)⟩
end Go.Proofs.YtnhigoffkmfccaaDoor.G
