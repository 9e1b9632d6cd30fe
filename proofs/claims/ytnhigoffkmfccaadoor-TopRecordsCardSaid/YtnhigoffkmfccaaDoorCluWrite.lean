/- cluster.Write over this seat's program. Conditions: each lemma's own. -/
import Derived.Test.YtnhigoffkmfccaaDoorCluParts
import Derived.Test.YtnhigoffkmfccaaDoorStillInR
namespace Go.Proofs.YtnhigoffkmfccaaDoor.G
open Go.RowKit Go.Shelf Go.ChangeMaps Go.MapKept Go.Proofs.YtnhigoffkmfccaaDoorW.PrintWords Go.Proofs.YtnhigoffkmfccaaDoorW.PrintLast Go.Proofs.YtnhigoffkmfccaaDoorW.PrintMore
set_option linter.unusedVariables false
set_option linter.unusedSimpArgs false
attribute [local go_sem] Oper.semAt_some
theorem then_only {F : Fence} {n : Nat} {P : Program} {c : Code} {K : Act → World → Prop} {Q : Exit → Act → World → Prop} {a : Act} {w : World} (h : c.wpIn F n P (Exit.then K (fun _ _ _ => False)) a w) : c.wpIn F n P (Exit.then K Q) a w :=
  Code.wpIn_mono (fun e a w h => by cases e <;> first | exact h | exact h.elim) h
/-- A sector of a text. -/
def sect (s : ByteArray) (i : Nat) : ByteArray := s.extract (i * 512) (i * 512 + 512)
theorem sect_size {s : ByteArray} {i m : Nat} (hs : s.size = m * 512) (hi : i < m) : (sect s i).size = 512 := by
  unfold sect
  rw [ByteArray.size_extract]
  omega
theorem slice_sect (W : World) (s : ByteArray) (x m : Nat) (hs : s.size = m * 512) (hx : x < m) : (Instr.slice 9 (.string s) (some (.int .i64 ((x : Int) * 512))) (some (.int .i64 ((x : Int) * 512 + 512))) none).run Tryd.prog W = .ok (.string (sect s x)) W := by
  rw [run_slice_string W 9 s .i64 .i64 _ _ Tryd.underlying9 (by omega) (by omega) (by omega), show ((x : Int) * 512).toNat = x * 512 by omega, show ((x : Int) * 512 + 512).toNat = x * 512 + 512 by omega]
  rfl
/-- What a device holds once some sectors were written. -/
def wrL (f : Nat → ByteArray) (first : Nat) (s : ByteArray) {m : Nat} (pre : List (Fin m)) : Nat → ByteArray := pre.foldl (fun f i => fput f (first + i.val) (sect s i.val)) f
theorem wrL_snoc (f : Nat → ByteArray) (first : Nat) (s : ByteArray) {m : Nat} (pre : List (Fin m)) (x : Fin m) : wrL f first s (pre ++ [x]) = fput (wrL f first s pre) (first + x.val) (sect s x.val) := by simp [wrL]
/-- Worlds of which the second one has all blocks of the first one as they were, but some. -/
structure KeptBut (P : Nat → Prop) (w w' : World) : Prop where
  os : w'.os = w.os
  tape : w'.tape = w.tape
  output : w'.output = w.output
  size : w.heap.size ≤ w'.heap.size
  block : ∀ k, k < w.heap.size → ¬ P k → w'.heap[k]? = w.heap[k]?
theorem KeptBut.of_below {P : Nat → Prop} {w w' : World} (h : Below w.heap.size w w') : KeptBut P w w' := ⟨h.os, h.tape, h.output, h.size, fun k hk _ => h.block k hk⟩
theorem KeptBut.trans {P : Nat → Prop} {a b c : World} (h : KeptBut P a b) (k : KeptBut P b c) : KeptBut P a c := ⟨k.os.trans h.os, k.tape.trans h.tape, k.output.trans h.output, Nat.le_trans h.size k.size, fun i hi hn => (k.block i (Nat.lt_of_lt_of_le hi h.size) hn).trans (h.block i hi hn)⟩
theorem KeptBut.below {P : Nat → Prop} {w w' : World} {B : Nat} (h : KeptBut P w w') (hB : B ≤ w.heap.size) (hP : ∀ k, P k → B ≤ k) : Below B w w' := ⟨h.os, h.tape, h.output, h.size, fun k hk => h.block k (by omega) (fun hp => by have := hP k hp; omega)⟩
theorem KeptBut.own {P : Nat → Prop} {a b c : World} {row : Option Nat} (h : KeptBut P a b) (hg : b.grownBy c row) (hr : ∀ r, row = some r → a.heap.size ≤ r) : KeptBut P a c := ⟨hg.os.trans h.os, hg.tape.trans h.tape, hg.output.trans h.output, Nat.le_trans h.size hg.size, fun k hk hn => (hg.block k (Nat.lt_of_lt_of_le hk h.size) (fun e => by have := hr k e.symm; omega)).trans (h.block k hk hn)⟩
theorem DevKept.but {P : Nat → Prop} {g : Nat} {w w' : World} (h : DevKept P g w w') : KeptBut P w w' := by
  obtain ⟨h1, h2, h3, h4, gm, h5, h6, -, -, h7, -⟩ := h
  exact ⟨h1, h2, h3, by omega, fun k hk hn => h7 k (fun e => hn (e ▸ h5)) (fun e => hn (e ▸ h6))⟩
theorem DevKept.from_ {P : Nat → Prop} {T g : Nat} {w w' : World} (h : DevKept (fun k => P k ∧ k < T) g w w') : KeepsFrom T w w' := by
  obtain ⟨h1, h2, h3, h4, gm, h5, h6, -, -, h7, -⟩ := h
  exact ⟨by omega, fun k o hB hk hc => (h7 k (by have := h5.2; omega) (by have := h6.2; omega)).trans hk⟩
theorem Dev.same {P : Nat → Prop} {w w' : World} {g n c : Nat} {f : Nat → ByteArray} (h : Dev P w g n c f) (keep : ∀ k, P k → w'.heap[k]? = w.heap[k]?) : Dev P w' g n c f := by
  obtain ⟨gs, cap, gm, gb, cur, S, F, wr, ⟨h1, h2, h3, h4, h5, h6⟩, q1, q2, q3, q4⟩ := h
  exact ⟨gs, cap, gm, gb, cur, S, F, wr, ⟨(keep g q1).trans h1, (keep gs q3).trans h2, h3, h4.same (keep gm q2), h5.same (keep gb q4), h6⟩, q1, q2, q3, q4⟩
theorem keepsFrom_weaken {B B' : Nat} {W W' : World} (h : KeepsFrom B W W') (hB : B ≤ B') : KeepsFrom B' W W' := ⟨h.size, fun k o hk => h.same k o (Nat.le_trans hB hk)⟩
theorem DevKept.boxed {P : Nat → Prop} {T g b : Nat} {t : TypeId} {v : Value} {w w' : World} (h : DevKept (fun k => P k ∧ k < T) g w w') (hb : Boxed w b t v) (hT : T ≤ b) : Boxed w' b t v := by
  obtain ⟨h1, h2, h3, h4, gm, h5, h6, -, -, h7, -⟩ := h
  exact (h7 b (by have := h5.2; omega) (by have := h6.2; omega)).trans hb
theorem heap_new (W : World) (o : Obj) {q : Nat} (e : q = W.heap.size) : (W.alloc o).heap[q]? = some o := by rw [e]; exact World.alloc_heap_new W o
theorem heap_old {W : World} (o : Obj) {q : Nat} {x : Obj} (h : W.heap[q]? = some x) : (W.alloc o).heap[q]? = some x := (Below.heap_alloc W o q (Array.getElem?_eq_some_iff.1 h).1).trans h
/-- Four new blocks of a world. -/
theorem four_boxes (w : World) (o0 o1 o2 o3 : Obj) : ((((w.alloc o0).alloc o1).alloc o2).alloc o3).heap[w.heap.size]? = some o0 ∧ ((((w.alloc o0).alloc o1).alloc o2).alloc o3).heap[w.heap.size + 1]? = some o1 ∧ ((((w.alloc o0).alloc o1).alloc o2).alloc o3).heap[w.heap.size + 2]? = some o2 ∧ ((((w.alloc o0).alloc o1).alloc o2).alloc o3).heap[w.heap.size + 3]? = some o3 ∧ ((((w.alloc o0).alloc o1).alloc o2).alloc o3).heap.size = w.heap.size + 4 ∧ Below w.heap.size w ((((w.alloc o0).alloc o1).alloc o2).alloc o3) :=
  ⟨heap_old _ (heap_old _ (heap_old _ (heap_new _ _ rfl))), heap_old _ (heap_old _ (heap_new _ _ (by simp))), heap_old _ (heap_new _ _ (by simp)), heap_new _ _ (by simp), by simp, (((Below.refl _ w).alloc (Nat.le_refl _) _).alloc (by simp) _).alloc (by simp; omega) _ |>.alloc (by simp; omega) _⟩
/-- Between two rounds of Write's loop: a device at g, whose blocks lie below T. -/
structure WriteI (P : Nat → Prop) (g n c : Nat) (f : Nat → ByteArray) (first : Nat) (s : ByteArray) (q1 : Nat) (w : World) {m : Nat} (pre : List (Fin m)) (W : World) : Prop where
  dev : Dev (fun k => P k ∧ k < w.heap.size) W g n (c + pre.length) (wrL f first s pre)
  bd : Boxed W w.heap.size 26 (.pointer (some ⟨g, 0, none⟩))
  bs : Boxed W (w.heap.size + 2) 9 (.string s)
  be : Boxed W (w.heap.size + 3) 27 (.int .i64 0)
  bf : Boxed W q1 3 (.int .i64 first)
  bel : KeptBut P w W
theorem writeI_own {P : Nat → Prop} {g n c : Nat} {f : Nat → ByteArray} {first : Nat} {s : ByteArray} {q1 : Nat} {w : World} {m B : Nat} (hB : w.heap.size ≤ B) : OwnFrom B (WriteI P g n c f first s q1 w (m := m)) := fun pre X Y row h hg hr => by
  have hr' : ∀ r, row = some r → ∃ o : Obj, X.heap[r]? = some o ∧ o.isCells = false := fun r e => (hr r e).2
  have hbox : ∀ {b t v}, Boxed X b t v → Boxed Y b t v := fun {b t v} hb => hb.kept hg (fun e' => by obtain ⟨o, ho, hc⟩ := hr' b e'.symm; rw [show X.heap[b]? = _ from hb] at ho; cases ho; cases hc)
  exact ⟨h.dev.own hg (fun r e hp => by have := (hr r e).1; have := hp.2; omega), hbox h.bd, hbox h.bs, hbox h.be, hbox h.bf, h.bel.own hg (fun r e => Nat.le_trans hB (hr r e).1)⟩
set_option maxRecDepth 100000 in
set_option maxHeartbeats 4000000 in
theorem cwrite_calls {P : Nat → Prop} {w : World} {g n c0 : Nat} {f : Nat → ByteArray} (hD : Dev P w g n c0 f) (k : Nat) (a b c d ata : Int) (first z m : Nat) (s : ByteArray) (hS : geom_Size.f k a b c d = some (z : Int)) (hF : geom_First.f k a b c d ata = some ((first : Int), 0)) (hz : z = m * 512) (hm : m ≤ 2147483648) (hs : s.size = z) (hfm : first + m ≤ n) (hc : c0 + m < 1000000) :
    Calls Tryd.prog 13 #[.pointer (some ⟨g, 0, none⟩), .agg #[.int .i64 a, .int .i64 b, .int .i64 c, .int .i64 d], .int .i64 ata, .string s] w fun e w' => e = .returned (.int .i64 0) ∧ Dev P w' g n (c0 + m) (wrL f first s (List.finRange m)) ∧ KeptBut P w w' := by
  refine (callsIn_wide (n := 3)).1 ?_
  have hro : Fence.wide.round = none := rfl
  have h1 : 1 ≤ 3 := by decide
  have hfol : Tryd.prog.follows Departure.mixedOrders = true := by kernel_rfl
  have HD := Aside0.mk hD.lt
  have HSz := Aside0.mk (fun W => geom_Size.calls k a b c d (z : Int) W hS)
  have HFi := Aside0.mk (fun W => geom_First.calls k a b c d ata (first : Int) 0 W hF)
  have b1 : ((s.size : Int) != (z : Int)) = false := by rw [hs]; exact bne_self_eq_false _
  clear hD
  refine callsIn_of_wp_marks Tryd.func13 rfl trivial ?_ hro
  simp only [Tryd.ntmps13, List.size_toArray, List.length_cons, List.length_nil, Nat.reduceAdd, Nat.reduceSub, Array.replicate_succ, Array.replicate_zero, List.push_toArray, List.append_toArray, List.nil_append, List.cons_append]
  gi_wp2_with (refine ⟨trivial, ?_⟩; gi_at_call 10; refine (callsIn_wide.2 (HFi.out _)).mono ?_; rintro e w1 ⟨rfl, hb⟩; have HB1 := Aside0.mk hb; clear hb)
  obtain ⟨f0, f1, f2, f3, f4, f5⟩ := four_boxes w (.cells #[.pointer (some ⟨g, 0, none⟩)] 26) (.cells #[.int .i64 a, .int .i64 b, .int .i64 c, .int .i64 d] 23) (.cells #[.string s] 9) (.cells #[.int .i64 0] 27)
  have hA1 := HB1.out.alloc (HB1.out.size) (.cells #[.int .i64 (first : Int)] 3)
  rw [f4] at hA1
  have sz1 : w.heap.size + 4 ≤ w1.heap.size := by have := HB1.out.size; omega
  have g4 := heap_new w1 (.cells #[.int .i64 (first : Int)] 3) rfl
  have gz : (w1.alloc (.cells #[.int .i64 (first : Int)] 3)).heap.size = w1.heap.size + 1 := by simp
  obtain ⟨W1, hW1⟩ : ∃ W, W = w1.alloc (.cells #[.int .i64 (first : Int)] 3) := ⟨_, rfl⟩
  rw [← hW1] at hA1 g4 gz ⊢
  have g0 := (hA1.block w.heap.size (by omega)).trans f0
  have g1 := (hA1.block (w.heap.size + 1) (by omega)).trans f1
  have g2 := (hA1.block (w.heap.size + 2) (by omega)).trans f2
  have g3 := (hA1.block (w.heap.size + 3) (by omega)).trans f3
  have hW := f5.trans (hA1.mono (by omega))
  have hDev := HD.out.below hW
  obtain ⟨q1, hq1⟩ : ∃ q, q = w1.heap.size := ⟨_, rfl⟩
  rw [← hq1] at g4 gz sz1 ⊢
  have G0 := Aside0.mk g0
  have G1 := Aside0.mk g1
  have G2 := Aside0.mk g2
  have G3 := Aside0.mk g3
  have G4 := Aside0.mk g4
  have GZ := Aside0.mk gz
  have SZ := Aside0.mk sz1
  have HW := Aside0.mk hW
  have HDev := Aside0.mk hDev
  have facts : ∀ W : World, Below W1.heap.size W1 W → W.cell? ⟨w.heap.size + 1 + 1, 0, none⟩ = some (.string s) ∧ W.cell? ⟨w.heap.size + 1, 0, none⟩ = some (.int .i64 a) ∧ W.cell? ⟨w.heap.size + 1, 1, none⟩ = some (.int .i64 b) ∧ W.cell? ⟨w.heap.size + 1, 2, none⟩ = some (.int .i64 c) ∧ W.cell? ⟨w.heap.size + 1, 3, none⟩ = some (.int .i64 d) := fun W hb => by
    have e1 := (hb.block (w.heap.size + 1) (by omega)).trans g1
    have e2 := (hb.block (w.heap.size + 2) (by omega)).trans g2
    refine ⟨?_, ?_, ?_, ?_, ?_⟩
    · rw [blk_cell e2]; rfl
    · rw [blk_cell e1]; rfl
    · rw [blk_cell e1]; rfl
    · rw [blk_cell e1]; rfl
    · rw [blk_cell e1]; rfl
  have FA := Aside0.mk facts
  obtain ⟨x0, x1, x2, x3, x4⟩ := facts W1 (Below.refl _ _)
  obtain ⟨y0, y1, y2, y3, y4⟩ := facts W1.drew (Below.refl _ _).drew
  clear g0 g1 g2 g3 g4 gz hDev facts hA1 f0 f1 f2 f3 f4 f5 HB1 hq1 hW1 sz1 hW
  gi_cut [24] from 25 (fun v24 wc => v24 = .bool false ∧ Aside0 (Below W1.heap.size W1 wc))
  case first =>
    refine then_only ?_
    gi_region_with_o (refine ⟨trivial, ?_⟩; gi_at_call 22; refine (callsIn_wide.2 (HSz.out _)).mono ?_; rintro e w2 ⟨rfl, hb⟩; have HB2 := Aside0.mk (show Below W1.heap.size W1 w2 from (Below.refl W1.heap.size W1).drew.trans hb); obtain ⟨z0, z1, z2, z3, z4⟩ := FA.out w2 HB2.out; clear hb)
    all_goals
      gi_wp2
      gi_meet
      case rel => exact ⟨rfl, HB2⟩
  case rest =>
    obtain ⟨rfl, HBc⟩ := hcut
    clear x0 x1 x2 x3 x4 y0 y1 y2 y3 y4
    obtain ⟨x0, x1, x2, x3, x4⟩ := FA.out wc HBc.out
    clear x0
    gi_wp2_with (refine ⟨trivial, ?_⟩; gi_at_call 31; refine (parts_in _ _ _ _ _ _).mono ?_; rintro e w' ⟨rfl, rfl⟩)
    have HBW := Aside0.mk ((Below.refl W1.heap.size W1).trans (HBc.out.alloc HBc.out.size (.cells #[.int .i64 a, .int .i64 b, .int .i64 c, .int .i64 d] 23)))
    have hgz : (wc.alloc (.cells #[.int .i64 a, .int .i64 b, .int .i64 c, .int .i64 d] 23)).heap.size = wc.heap.size + 1 := by simp
    have hnew := heap_new wc (.cells #[.int .i64 a, .int .i64 b, .int .i64 c, .int .i64 d] 23) rfl
    obtain ⟨W2, hW2⟩ : ∃ W, W = wc.alloc (.cells #[.int .i64 a, .int .i64 b, .int .i64 c, .int .i64 d] 23) := ⟨_, rfl⟩
    rw [← hW2] at HBW hgz hnew ⊢
    have hz2 : w.heap.size + 4 ≤ q1 := SZ.out
    have hz3 : q1 + 1 ≤ wc.heap.size := by have := HBc.out.size; have := GZ.out; omega
    have hI0 : WriteI P g n c0 f first s q1 w (m := m) [] W2 := ⟨HDev.out.below HBW.out, (HBW.out.block _ (by have := GZ.out; omega)).trans G0.out, (HBW.out.block _ (by have := GZ.out; omega)).trans G2.out, (HBW.out.block _ (by have := GZ.out; omega)).trans G3.out, (HBW.out.block _ (by have := GZ.out; omega)).trans G4.out, (KeptBut.of_below HW.out).trans (KeptBut.of_below HBW.out)⟩
    refine wpIn_rangeFunc_ownG hro h1 (gf := 45) (lb := #[.pointer (some ⟨wc.heap.size, 0, none⟩)]) rfl trivial (enters_of Tryd.func45 (by kernel_rfl) rfl)
      (parts_stops (3 - 1) (by decide) wc.heap.size k m z a b c d hS (by omega) (by omega) W2 hnew)
      kpP_t kpP_b (Below.refl _ _) (fun _ => rfl)
      (WriteI P g n c0 f first s q1 w (m := m))
      (fun _ _ _ => False)
      (writeI_own (by rw [hgz]; omega))
      (fun _ _ _ _ _ hs _ _ => hs)
      hI0
      (fun x => { tmps := #[.pointer (some ⟨g, 0, none⟩), .agg #[.int .i64 a, .int .i64 b, .int .i64 c, .int .i64 d], .int .i64 ata, .string s, .pointer (some ⟨w.heap.size, 0, none⟩), .pointer (some ⟨w.heap.size + 1, 0, none⟩), undef, .pointer (some ⟨w.heap.size + 1 + 1, 0, none⟩), .pointer (some ⟨w.heap.size + 1 + 1 + 1, 0, none⟩), .pointer (some ⟨q1, 0, none⟩), .int .i64 0, .int .i64 (x.val : Int), .int .i64 ((x.val : Int) * 512), undef, .tuple #[.int .i64 first, .int .i64 0], .agg #[.int .i64 a, .int .i64 b, .int .i64 c, .int .i64 d], .int .i64 ata, .tuple #[.int .i64 first, .int .i64 0], .int .i64 first, .int .i64 0, .bool false, .int .i64 0, .bool false, undef, .bool false, u25, u26, u27, u28, u29, .agg #[.int .i64 a, .int .i64 b, .int .i64 c, .int .i64 d], .func (.func 45) #[] #[.pointer (some ⟨wc.heap.size, 0, none⟩)], .int .i64 (x.val : Int), .int .i64 ((x.val : Int) * 512), u34, u35, u36, u37, u38, u39, u40, u41, u42, u43, u44, u45, u46], defers := [] }) ?assign ?body ?done ?stop
    case assign =>
      intro l x W K hK
      dsimp only [pencs]
      gi_wp2
      exact hK
    case body =>
      rintro l pre x W hI hlt
      dsimp only
      have hx := x.isLt
      have hn := hI.dev.n_le
      have HDW := Aside0.mk hI.dev
      have HI := Aside0.mk hI
      have k1 := hI.bd.cell
      have k2 : W.cell? ⟨w.heap.size + 1 + 1, 0, none⟩ = some (.string s) := hI.bs.cell
      have k3 := hI.bf.cell
      have l1 : W.drew.cell? ⟨w.heap.size, 0, none⟩ = some (.pointer (some ⟨g, 0, none⟩)) := k1
      have l2 : W.drew.cell? ⟨w.heap.size + 1 + 1, 0, none⟩ = some (.string s) := k2
      have l3 : W.drew.cell? ⟨q1, 0, none⟩ = some (.int .i64 first) := k3
      have hd2 : Dev (fun k => P k ∧ k < w.heap.size) W.drew g n (c0 + pre.length) (wrL f first s pre) := hI.dev
      have hw := write_calls (i := first + x.val) (s := sect s x.val) hd2 (by omega) (sect_size (m := m) (by omega) hx) (by omega)
      rw [Int.natCast_add] at hw
      have HWr := Aside0.mk hw
      have sz : (s.size : Int) = (m : Int) * 512 := by omega
      have b2 : (x.val : Int) * 512 + 512 ≤ (m : Int) * 512 := by omega
      have b3 : (x.val : Int) * 512 ≤ (x.val : Int) * 512 + 512 := by omega
      have b4 : 0 ≤ (x.val : Int) * 512 := by omega
      have u1 : IntKind.i64.wrap ((first : Int) + (x.val : Int)) = (first : Int) + (x.val : Int) := by rw [IntKind.wrap_i64]; omega
      have u2 : IntKind.i64.wrap ((x.val : Int) * 512 + 512) = (x.val : Int) * 512 + 512 := by rw [IntKind.wrap_i64]; omega
      have u3 := slice_sect W.drew s x.val m (by omega) hx
      clear hI hd2 hw b2 b3 b4 sz hn
      gi_wp2
      refine StillInR.wpIn_region_still_tail 9 (by kernel_rfl) hfol (by kernel_rfl) ?_
      simp only [List.take_succ_cons, List.take_zero, List.drop_succ_cons, List.drop_zero]
      repeat still_step
      try refine wpStill_nil ?_
      change wpListIn (Fence.wide.inRound l) 1 Tryd.prog _ _ _ _ W.drew
      gi_wp2_with (refine ⟨trivial, ?_⟩; gi_at_call 23; (with_reducible refine ((callsIn_wide.2 HWr.out).inRound _).mono ?_); rintro e w2 ⟨rfl, hb⟩; have HB2 := Aside0.mk hb; clear hb)
      have hk : DevKept (fun k => P k ∧ k < w.heap.size) g W w2 := HB2.out.2
      have hI := HI.out
      refine ⟨keepsFrom_weaken hk.from_ (by rw [hgz]; omega), trivial, ⟨?_, hk.boxed hI.bd (Nat.le_refl _), hk.boxed hI.bs (by omega), hk.boxed hI.be (by omega), hk.boxed hI.bf (by omega), hI.bel.trans ?_⟩⟩
      · have := HB2.out.1
        rw [List.length_append, wrL_snoc]
        exact this
      · obtain ⟨r1, r2, r3, r4, gm, r5, r6, -, -, r7, -⟩ := hk
        exact ⟨r1, r2, r3, by omega, fun k hk hn => r7 k (fun e => hn (e ▸ r5.1)) (fun e => hn (e ▸ r6.1))⟩
    case done =>
      rintro D ys W hD rfl hI hK
      have k1 : W.cell? ⟨w.heap.size + 1 + 1 + 1, 0, none⟩ = some (.int .i64 0) := hI.be.cell
      have k2 : W.frozen? ⟨w.heap.size + 1 + 1 + 1, 0, none⟩ = false := hI.be.frozen
      have HI := Aside0.mk hI
      have HK := Aside0.mk hK
      clear hI hK
      gi_wp2
      have hB3 := HI.out.be.set (.int .i64 0)
      have hD3 : w.heap.size + 3 < D := by rw [hgz] at hD; omega
      have hKD : (W.setCell ⟨w.heap.size + 1 + 1 + 1, 0, none⟩ (.int .i64 0)).heap[D]? = some (.deferred (some [])) := by
        rw [Below.heap_setCell _ _ _ _ (by show D ≠ w.heap.size + 1 + 1 + 1; omega)]; exact HK.out
      refine ⟨by simp, .inl ⟨_, _, rfl, run_takeDeferred hKD, ?_⟩⟩
      have hcell : ((W.setCell ⟨w.heap.size + 1 + 1 + 1, 0, none⟩ (.int .i64 0)).putObj D (.deferred none)).cell? ⟨w.heap.size + 1 + 1 + 1, 0, none⟩ = some (.int .i64 0) := by
        have : Boxed ((W.setCell ⟨w.heap.size + 1 + 1 + 1, 0, none⟩ (.int .i64 0)).putObj D (.deferred none)) (w.heap.size + 3) 27 (.int .i64 0) := (World.putObj_heap_other (by omega)).trans hB3
        exact this.cell
      have hsame : ∀ k, k < w.heap.size → ((W.setCell ⟨w.heap.size + 1 + 1 + 1, 0, none⟩ (.int .i64 0)).putObj D (.deferred none)).heap[k]? = W.heap[k]? := fun k hk => by
        rw [World.putObj_heap_other (by omega), Below.heap_setCell _ _ _ _ (by show k ≠ w.heap.size + 1 + 1 + 1; omega)]
      have hI := HI.out
      have hl : (List.finRange m).length = m := List.length_finRange
      refine ⟨.int .i64 0, ?_, rfl, ?_, ?_⟩
      · simp [results, Tryd.results13, go_sem, hcell]
      · have := hI.dev
        rw [hl] at this
        exact (this.same (fun k hk => hsame k hk.2)).mono (fun k hk => hk.1)
      · exact ⟨hI.bel.os, hI.bel.tape, hI.bel.output, Nat.le_trans hI.bel.size (by simp [World.putObj, World.setCell]), fun k hk hn => (hsame k hk).trans (hI.bel.block k hk hn)⟩
    case stop =>
      rintro D c pre W _ _ h _
      exact h.elim
end Go.Proofs.YtnhigoffkmfccaaDoor.G
