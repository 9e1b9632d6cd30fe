/- What is read of the program's own variables: crc's table, and that internal/bytealg.MaxLen holds some number. No condition. -/
import Derived.Test.YtoglapodcejocaaDoorGx0
import Derived.Test.YtoglapodcejocaaDoorCrcMath
namespace Go.Proofs.YtoglapodcejocaaDoor.G
open Go.RowKit Go.Proofs.YtoglapodcejocaaDoorW.PrintWords Go.Proofs.YtoglapodcejocaaDoorW.PrintLast Go.Proofs.YtoglapodcejocaaDoorW.PrintMore
def tabI (i : Nat) : Int := ((CrcM.table.getD i 0 : Nat) : Int)
def GTc (w : World) : Prop := ∀ i, i < 16 → w.cell? ⟨0, i, none⟩ = some (.int .u32 (tabI i))
def GTm (w : World) : Prop := ∃ m : Int, w.cell? ⟨1, 0, none⟩ = some (.int .i64 m)
def GT (w : World) : Prop := GTc w ∧ GTm w
theorem GT.below {w w1 : World} (h : GT w) (hb : Below w.heap.size w w1) : GT w1 := ⟨fun i hi => pw_cell_below hb (h.1 i hi), h.2.imp fun _ hm => pw_cell_below hb hm⟩
theorem GT.drewN {w : World} {n : Nat} (h : GT w) : GT (w.drewN n) := h
theorem GT.drew {w : World} (h : GT w) : GT w.drew := h
end Go.Proofs.YtoglapodcejocaaDoor.G
