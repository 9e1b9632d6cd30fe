/- A literal of two rows of two bytes, as it is read. No condition. -/
import Derived.Test.YtlobaomleocpjaaMatSame
namespace Go.Proofs.Ytlobaomleocpjaa.G
open Go.RowKit Go.Proofs.YtlobaomleocpjaaW.PrintWords Go.Proofs.YtlobaomleocpjaaW.PrintLast Go.Proofs.YtlobaomleocpjaaW.PrintMore
set_option linter.unusedVariables false
set_option linter.unusedSimpArgs false
theorem two_C {W : World} {g : Nat} {a b : Int} (h : W.heap[g]? = some (.cells #[.int .u8 a, .int .u8 b] 5 (0, 0))) : Kd.C (Kd.int .u8) W (some ⟨g, 0, none⟩) 2 [a, b] := by
  refine Kd.C_of_reads (enc := Value.int .u8) (d := (0 : Int)) ⟨rfl, by decide, fun _ => ⟨_, rfl, fun j hj => ?_⟩⟩
  have e : (⟨g, 0, none⟩ : Addr).add j = ⟨g, j, none⟩ := add_plain g j
  rw [e, blk_cell h]
  match j, hj with
  | 0, _ => rfl
  | 1, _ => rfl
theorem lit22_C (w0 : World) (a b c d : Int) : Kd.C (Kd.slice 5 (Kd.int .u8)) (((w0.alloc (.cells #[.int .u8 a, .int .u8 b] 5)).alloc (.cells #[.int .u8 c, .int .u8 d] 5)).alloc (.cells #[.slice (some ⟨w0.heap.size, 0, none⟩) 2 2, .slice (some ⟨w0.heap.size + 1, 0, none⟩) 2 2] 37)) (some ⟨w0.heap.size + 1 + 1, 0, none⟩) ([[a, b], [c, d]] : List (List Int)).length [[a, b], [c, d]] := by
  obtain ⟨W, hW⟩ : ∃ W, W = (((w0.alloc (.cells #[.int .u8 a, .int .u8 b] 5)).alloc (.cells #[.int .u8 c, .int .u8 d] 5)).alloc (.cells #[.slice (some ⟨w0.heap.size, 0, none⟩) 2 2, .slice (some ⟨w0.heap.size + 1, 0, none⟩) 2 2] 37)) := ⟨_, rfl⟩
  have h0 : W.heap[w0.heap.size]? = some (.cells #[.int .u8 a, .int .u8 b] 5 (0, 0)) := by rw [hW]; exact blk_alloc (blk_alloc (blk_new w0 _) _) _
  have h1 : W.heap[w0.heap.size + 1]? = some (.cells #[.int .u8 c, .int .u8 d] 5 (0, 0)) := by
    rw [hW]
    have := blk_new (w0.alloc (.cells #[.int .u8 a, .int .u8 b] 5)) (.cells #[.int .u8 c, .int .u8 d] 5)
    rw [World.size_alloc] at this
    exact blk_alloc this _
  have h2 : W.heap[w0.heap.size + 1 + 1]? = some (.cells #[.slice (some ⟨w0.heap.size, 0, none⟩) 2 2, .slice (some ⟨w0.heap.size + 1, 0, none⟩) 2 2] 37 (0, 0)) := by
    rw [hW]
    have := blk_new ((w0.alloc (.cells #[.int .u8 a, .int .u8 b] 5)).alloc (.cells #[.int .u8 c, .int .u8 d] 5)) (.cells #[.slice (some ⟨w0.heap.size, 0, none⟩) 2 2, .slice (some ⟨w0.heap.size + 1, 0, none⟩) 2 2] 37)
    rw [World.size_alloc, World.size_alloc] at this
    exact this
  rw [← hW]
  refine ⟨rfl, by simp, fun _ => ⟨_, rfl, fun j p hj => ?_⟩⟩
  match j, hj with
  | 0, hj =>
    obtain rfl : [a, b] = p := by simpa using hj
    refine ⟨[.slice (some ⟨w0.heap.size, 0, none⟩) 2 2], rfl, ⟨_, 2, rfl, Nat.le_refl _, two_C h0⟩, fun i u hu => ?_⟩
    match i, hu with
    | 0, hu =>
      obtain rfl := Option.some.inj hu
      exact (blk_cell h2 0).trans rfl
  | 1, hj =>
    obtain rfl : [c, d] = p := by simpa using hj
    refine ⟨[.slice (some ⟨w0.heap.size + 1, 0, none⟩) 2 2], rfl, ⟨_, 2, rfl, Nat.le_refl _, two_C h1⟩, fun i u hu => ?_⟩
    match i, hu with
    | 0, hu =>
      obtain rfl := Option.some.inj hu
      have e : (⟨w0.heap.size + 1 + 1, 0, none⟩ : Addr).add (1 * 1 + 0) = ⟨w0.heap.size + 1 + 1, 1, none⟩ := add_plain _ _
      show W.cell? ((⟨w0.heap.size + 1 + 1, 0, none⟩ : Addr).add (1 * 1 + 0)) = _
      rw [e]
      exact (blk_cell h2 1).trans rfl
end Go.Proofs.Ytlobaomleocpjaa.G
