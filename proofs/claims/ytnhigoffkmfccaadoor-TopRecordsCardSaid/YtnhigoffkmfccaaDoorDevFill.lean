/- cluster.Fill over this seat's program. Conditions: each lemma's own. -/
import Derived.Test.YtnhigoffkmfccaaDoorGx
import Derived.Deep.WholeRow
import Derived.Lib.SlBuf
import Derived.Lib.BufferWrite
namespace Go.Proofs.YtnhigoffkmfccaaDoor.G
open Go.RowKit Go.Proofs.YtnhigoffkmfccaaDoorW.PrintWords Go.Proofs.YtnhigoffkmfccaaDoorW.PrintLast Go.Proofs.YtnhigoffkmfccaaDoorW.PrintMore
set_option linter.unusedVariables false
set_option linter.unusedSimpArgs false

/-- A text, filled up to so many bytes. -/
def fillX (n : Nat) (s : ByteArray) : ByteArray := strOfNums (bytesOf s ++ List.replicate (n - s.size) 0)
theorem fill_row (n : Nat) (s : ByteArray) (hs : s.size ≤ n) : (((madeCells #[.int .u8 0] n).toList.take 0) ++ Lib.byteCells s.data.toList ++ (madeCells #[.int .u8 0] n).toList.drop (0 + s.size)).toArray = ((bytesOf s ++ List.replicate (n - s.size) 0).map (Value.int .u8)).toArray := by
  apply Array.ext'
  have h1 : (madeCells #[Value.int .u8 0] n).toList = List.replicate n (Value.int .u8 0) := by
    apply List.ext_getElem
    · simp [madeCells]
    · intro i h1 h2
      simp [madeCells, Nat.mod_one]
  have h2 : Lib.byteCells s.data.toList = (bytesOf s).map (Value.int .u8) := by unfold Lib.byteCells bytesOf; simp
  rw [h1, h2]
  simp
theorem fill_copy {W : World} {g n ty : Nat} {s : ByteArray} (hg : W.heap[g]? = some (.cells (madeCells #[.int .u8 0] n) 5 (0, 0))) (hs : s.size ≤ n) :
    (Builtin.copy_ #[53, 9] ty #[.slice (some ⟨g, 0, none⟩) n n, .string s]).run Tryd.prog W = .ok (goInt s.size) (W.setRow g ((bytesOf s ++ List.replicate (n - s.size) 0).map (Value.int .u8)).toArray) := by
  have h := Lib.run_copy_row_string (P := Tryd.prog) W 53 9 ty 5 g 0 n n s (madeCells #[.int .u8 0] n) 5 Tryd.underlying53 (by kernel_rfl) hg hs (by simp [size_madeCells]; exact hs)
  rw [fill_row n s hs] at h
  exact h
theorem fill_conv {W : World} {g n : Nat} {s : ByteArray} (hg : W.heap[g]? = some (.cells ((bytesOf s ++ List.replicate (n - s.size) 0).map (Value.int .u8)).toArray 5 (0, 0))) (hs : s.size ≤ n) :
    (convert 53 9 (.slice (some ⟨g, 0, none⟩) n n)).run Tryd.prog W = .ok (.string (fillX n s)) W := by
  refine run_convert_bytes_arg W 53 5 Tryd.underlying53 Tryd.underlying5 g 0 n n (bytesOf s ++ List.replicate (n - s.size) 0) (by simp [bytesOf_length]; omega) (fun i hi => ?_) 9 Tryd.underlying9
  rw [blk_cell hg, Nat.zero_add]
  have hl : i < (bytesOf s ++ List.replicate (n - s.size) (0 : Int)).length := by simp [bytesOf_length]; omega
  simp only [List.getElem?_toArray, List.getElem?_map, List.getElem?_eq_getElem hl, Option.map_some, List.getD_eq_getElem?_getD, Option.getD_some]
set_option maxRecDepth 100000 in
set_option maxHeartbeats 4000000 in
theorem fill_none (k : Nat) (a b c d : Int) (s : ByteArray) (w : World) (h : geom_Size.f k a b c d = some 0) :
    Calls Tryd.prog 9 #[.agg #[.int .i64 a, .int .i64 b, .int .i64 c, .int .i64 d], .string s] w fun e w' => e = .returned (.tuple #[.string ⟨#[]⟩, .int .i64 2]) ∧ Below w.heap.size w w' := by
  have hu23 := Tryd.underlying23
  have HC := Aside0.mk (fun W => geom_Size.calls k a b c d 0 W h)
  have HB1 := Aside0.mk (below_alloc (Below.refl w.heap.size w) (.cells #[.int .i64 a, .int .i64 b, .int .i64 c, .int .i64 d] 23))
  clear h
  go_enter Tryd.func9, Tryd.ntmps9
  go_wp2_with (go_at_call 22; (with_reducible refine (HC.out _).mono ?_); rintro e w1 ⟨rfl, hb⟩; have HB2 := Aside0.mk (HB1.out.trans (hb.mono (by simp))); clear hb)
  go_ret2
  exact ⟨rfl, HB2.out⟩
set_option maxRecDepth 100000 in
set_option maxHeartbeats 4000000 in
theorem fill_long (k n : Nat) (a b c d : Int) (s : ByteArray) (w : World) (h : geom_Size.f k a b c d = some (n : Int)) (hn : n ≠ 0) (hs : n < s.size) :
    Calls Tryd.prog 9 #[.agg #[.int .i64 a, .int .i64 b, .int .i64 c, .int .i64 d], .string s] w fun e w' => e = .returned (.tuple #[.string ⟨#[]⟩, .int .i64 7]) ∧ Below w.heap.size w w' := by
  have hu23 := Tryd.underlying23
  have HC := Aside0.mk (fun W => geom_Size.calls k a b c d n W h)
  have HB1 := Aside0.mk (below_alloc (Below.refl w.heap.size w) (.cells #[.int .i64 a, .int .i64 b, .int .i64 c, .int .i64 d] 23))
  have b1 : ((n : Int) == 0) = false := beq_eq_false_iff_ne.mpr (by omega)
  have b2 : decide ((s.size : Int) > (n : Int)) = true := decide_eq_true (by omega)
  have b3 : decide (n < s.size) = true := decide_eq_true hs
  clear h hn hs
  go_enter Tryd.func9, Tryd.ntmps9
  go_wp2_with (go_at_call 22; (with_reducible refine (HC.out _).mono ?_); rintro e w1 ⟨rfl, hb⟩; have HB2 := Aside0.mk (HB1.out.trans (hb.mono (by simp))); clear hb)
  go_ret2
  exact ⟨rfl, HB2.out⟩
set_option maxRecDepth 100000 in
set_option maxHeartbeats 4000000 in
theorem fill_calls (k n : Nat) (a b c d : Int) (s : ByteArray) (w : World) (h : geom_Size.f k a b c d = some (n : Int)) (hn : n ≠ 0) (hn2 : n ≤ 1000000) (hs : s.size ≤ n) :
    Calls Tryd.prog 9 #[.agg #[.int .i64 a, .int .i64 b, .int .i64 c, .int .i64 d], .string s] w fun e w' => e = .returned (.tuple #[.string (fillX n s), .int .i64 0]) ∧ Below w.heap.size w w' := by
  have hu23 := Tryd.underlying23
  have HC := Aside0.mk (fun W => geom_Size.calls k a b c d n W h)
  have HB1 := Aside0.mk (below_alloc (Below.refl w.heap.size w) (.cells #[.int .i64 a, .int .i64 b, .int .i64 c, .int .i64 d] 23))
  have b1 : ((n : Int) == 0) = false := beq_eq_false_iff_ne.mpr (by omega)
  have b2 : decide ((s.size : Int) > (n : Int)) = false := decide_eq_false (by omega)
  have b3 : decide (n < s.size) = false := decide_eq_false (by omega)
  have k1 := print_make (P := Tryd.prog) 53 5 .u8 1 Tryd.underlying53 (by kernel_rfl) (by decide) n (by omega)
  have hcp : ∀ W : World, (Builtin.copy_ #[53, 9] 3 #[.slice (some ⟨W.heap.size, 0, none⟩) n n, .string s]).run Tryd.prog (W.alloc (.cells (madeCells #[.int .u8 0] n) 5)) = .ok (goInt s.size) (W.alloc (.cells ((bytesOf s ++ List.replicate (n - s.size) 0).map (Value.int .u8)).toArray 5)) := fun W => by
    have h := fill_copy (ty := 3) (blk_new W (.cells (madeCells #[.int .u8 0] n) 5)) hs
    rw [World.setRow_alloc_new] at h
    exact h
  have hcv : ∀ W : World, (convert 53 9 (.slice (some ⟨W.heap.size, 0, none⟩) n n)).run Tryd.prog (W.alloc (.cells ((bytesOf s ++ List.replicate (n - s.size) 0).map (Value.int .u8)).toArray 5)) = .ok (.string (fillX n s)) (W.alloc (.cells ((bytesOf s ++ List.replicate (n - s.size) 0).map (Value.int .u8)).toArray 5)) := fun W => fill_conv (blk_new W _) hs
  obtain ⟨cs, hcs⟩ : ∃ cs, cs = ((bytesOf s ++ List.replicate (n - s.size) 0).map (Value.int .u8)).toArray := ⟨_, rfl⟩
  rw [← hcs] at hcp hcv
  clear h hn hs hcs
  go_enter Tryd.func9, Tryd.ntmps9
  go_wp2_with (go_at_call 22; (with_reducible refine (HC.out _).mono ?_); rintro e w1 ⟨rfl, hb⟩; have HB2 := Aside0.mk (HB1.out.trans (hb.mono (by simp))); clear hb)
  go_ret2
  exact ⟨rfl, HB2.out.alloc HB2.out.size _⟩
end Go.Proofs.YtnhigoffkmfccaaDoor.G
