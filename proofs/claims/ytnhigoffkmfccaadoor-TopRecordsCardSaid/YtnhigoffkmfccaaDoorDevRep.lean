/- slices.Repeat of one text over this seat's program. Conditions: each lemma's own. -/
import Derived.Test.YtnhigoffkmfccaaDoorDevNew
namespace Go.Proofs.YtnhigoffkmfccaaDoor.G
open Go.RowKit Go.ChangeMaps Go.MapKept Go.Proofs.YtnhigoffkmfccaaDoorW.PrintWords Go.Proofs.YtnhigoffkmfccaaDoorW.PrintLast Go.Proofs.YtnhigoffkmfccaaDoorW.PrintMore
set_option linter.unusedVariables false
set_option linter.unusedSimpArgs false

set_option maxRecDepth 100000 in
set_option maxHeartbeats 4000000 in
/-- slices.Repeat of one text. -/
theorem repeat_calls {w : World} {gx cx n : Nat} {s : ByteArray} (hx : w.cell? ⟨gx, 0, none⟩ = some (.string s)) (h1 : 1 ≤ n) (h2 : n ≤ 32768) :
    Calls Tryd.prog 28 #[.slice (some ⟨gx, 0, none⟩) 1 cx, .int .i64 n] w fun e w' => ∃ g, w.heap.size ≤ g ∧ e = .returned (.slice (some ⟨g, 0, none⟩) n n) ∧ w'.heap[g]? = some (.cells (repC s n n) 9 (0, 0)) ∧ Below w.heap.size w w' := by
  have hm := mul_one64 h2
  have HMU := fun W => bits_Mul.calls 1 (n : Int) 0 (n : Int) W hm
  have k2 := print_make_of (P := Tryd.prog) 61 9 (.string ⟨#[]⟩) 16 Tryd.underlying61 (by kernel_rfl) rfl (by decide) n (by omega)
  have b1 : ¬ ((n : Int) < 0) := by omega
  have b2 : ¬ ((n : Int) > 9223372036854775807) := by omega
  have hgx : gx < w.heap.size := World.block_lt_of_cell? w _ hx
  have hx2 : ∀ nd o, ((w.drewN nd).alloc o).cell? ⟨gx, 0, none⟩ = some (.string s) := fun nd o => ((pw_below_drewN (Below.refl w.heap.size w) nd).alloc (Nat.le_refl _) o).cell (p := ⟨gx, 0, none⟩) hgx |>.trans hx
  have hrow : ∀ nd, ((w.drewN nd).alloc (.cells (repC s n 0) 9)).heap[w.heap.size]? = some (.cells (repC s n 0) 9 (0, 0)) := fun nd => blk_new (w.drewN nd) _
  have hz : madeCells #[.string ⟨#[]⟩] n = repC s n 0 := repC_zero s n
  rw [hz] at k2
  have hcp := fun nd => rep_copy (dc := n) (sc := cx) (ty := 3) (a := ⟨gx, 0, none⟩) (sLen := 1) (k := 1) (m := 0) (hrow nd) (by omega) (by show 1 = Nat.min 1 (n - 0); exact (Nat.min_eq_left (by omega)).symm) (.inr rfl) (fun j hj => by
    have : j = 0 := by omega
    subst this
    exact hx2 nd _)
  have HCP := Aside0.mk hcp
  clear hcp hrow hx2 hx hm hz
  go_enter Tryd.func28, Tryd.ntmps28
  go_wp2_with (go_at_call 43; (with_reducible refine (HMU _).mono ?_); rintro e w1 ⟨rfl, ⟨nd, rfl⟩⟩; obtain ⟨w3, hr3, hb3, hg3⟩ := HCP.out nd; rw [Nat.sub_zero] at hr3; have HB3 := Aside0.mk hb3; have HG3 := Aside0.mk (show Below w.heap.size w w3 from Below.grown ((pw_below_drewN (Below.refl w.heap.size w) nd).alloc (Nat.le_refl _) _) hg3 (by simp) (fun q hq => by injection hq with hq; omega)); clear hb3 hg3)
  go_loopw [8] (fun v wr => ∃ m : Nat, v = .int .i64 m ∧ Aside0 (1 ≤ m ∧ m ≤ n) ∧ Aside0 (wr.heap[w.heap.size]? = some (.cells (repC s n m) 9 (0, 0))) ∧ Aside0 (Below w.heap.size w wr)) (fun v _ => n - (intOf v).toNat)
  case atStart => exact ⟨1, rfl, ⟨by omega, h1⟩, HB3, HG3⟩
  case round =>
    obtain ⟨m, rfl, HM, HB, HW⟩ := hrel
    have hm1 := HM.out.1
    have hm2 := HM.out.2
    by_cases hlt : m < n
    · obtain ⟨k, hk⟩ : ∃ k, k = min m (n - m) := ⟨_, rfl⟩
      have hd : wr.drew.heap[w.heap.size]? = some (.cells (repC s n m) 9 (0, 0)) := HB.out
      obtain ⟨w3, hr3, hb3, hg3⟩ := rep_copy (dc := n - m) (sc := n) (ty := 3) (a := ⟨w.heap.size, 0, none⟩) (sLen := m) (k := k) (m := m) hd (by omega) hk (.inl (by omega)) (fun j hj => by
        have e : (⟨w.heap.size, 0, none⟩ : Addr).add j = ⟨w.heap.size, j, none⟩ := by simp [Addr.add]; omega
        rw [e, blk_cell hd, repC_get s (by omega)])
      have HR3 := Aside0.mk (show (Builtin.copy_ #[61, 61] 3 #[.slice (if n = m then some (⟨w.heap.size, 0, none⟩ : Addr) else some (⟨w.heap.size, m, none⟩ : Addr)) (n - m) (n - m), .slice (some ⟨w.heap.size, 0, none⟩) m n]).run Tryd.prog wr.drew = .ok (goInt k) w3 from by rw [if_neg (by omega)]; exact hr3)
      have HB3' := Aside0.mk hb3
      have HG3' := Aside0.mk (show Below w.heap.size w w3 from Below.grown HW.out.drew hg3 HW.out.size (fun q hq => by injection hq with hq; omega))
      have c1 : (m : Int) < (n : Int) := by omega
      have w0 : wrap64 ((m : Int) + (k : Int)) = (m : Int) + (k : Int) := by unfold wrap64; omega
      have W1 := Aside0.mk (show IntKind.i64.wrap ((m : Int) + (k : Int)) = (m : Int) + (k : Int) from by rw [IntKind.wrap_i64]; omega)
      have hmk : 1 ≤ m + k ∧ m + k ≤ n := by omega
      have hme : n - (m + k) < n - m := by omega
      have HMK := Aside0.mk hmk
      have HME := Aside0.mk hme
      have hm3 : (m : Int) ≤ (n : Int) := by omega
      clear hr3 hb3 hg3 hd hk hmk hme hm1 HM HB HW
      go_wp2
      go_region_law (refine step_copy (v' := goInt k) (w' := w3) rfl (.tmp 41) (.tmp 44) 61 61 rfl (.slice (if n = m then some (⟨w.heap.size, 0, none⟩ : Addr) else some (⟨w.heap.size, m, none⟩ : Addr)) (n - m) (n - m)) (.slice (some ⟨w.heap.size, 0, none⟩) m n) ?hd ?hs ?hr ?_; (case hd => first | with_reducible rfl | (go_simp; done)); (case hs => first | with_reducible rfl | (go_simp; done)); (case hr => with_reducible exact HR3.out))
      all_goals
        go_wp2
        go_roundw
        case rel => exact ⟨m + k, by rw [W1.out]; omega, HMK, HB3'⟩
        case measure => simp only [intOf]; rw [W1.out]; have := HME.out; omega
    · have hme : m = n := by omega
      subst hme
      go_wp2
      go_ret
      exact ⟨w.heap.size, Nat.le_refl _, rfl, HB.out, HW.out⟩
end Go.Proofs.YtnhigoffkmfccaaDoor.G
