/- A device is made over this seat's program: of, slices.Repeat of one text. Conditions: each lemma's own. -/
import Derived.Test.YtnhigoffkmfccaaDoorDevFn
import Derived.Carry
import Derived.Laws.CopyRow
import Derived.Deep.WholeRow
import Derived.Lib.SlBuf
namespace Go.Proofs.YtnhigoffkmfccaaDoor.G
open Go.RowKit Go.ChangeMaps Go.MapKept Go.Proofs.YtnhigoffkmfccaaDoorW.PrintWords Go.Proofs.YtnhigoffkmfccaaDoorW.PrintLast Go.Proofs.YtnhigoffkmfccaaDoorW.PrintMore
set_option linter.unusedVariables false
set_option linter.unusedSimpArgs false

/-- The operation copy where its run is known, as a step of a region. -/
theorem step_copy {P : Program} {ops : Array Oper} {o : Oper} {a : Act} {w : World} {K : Act → World → Prop} {Q : Exit → Act → World → Prop} {E : Prop} (hg : o.guard = none) (d s : Operand) (t t' : TypeId)
    (ho : o.op = .call { callee := .builtin .copy, args := #[d, s], argTypes := #[t, t'] }) (v u : Value) (hd : a.eval d = v) (hs : a.eval s = u) {v' : Value} {w' : World}
    (hr : (Builtin.copy_ #[t, t'] o.type #[v, u]).run P w = .ok v' w') (h : K (a.put o.dst v') w') : if Region.wanted o (yielded ops a.tmps) = true then Oper.wp P o a w K Q else E := by
  have hw : Region.wanted o (yielded ops a.tmps) = true := by simp [Region.wanted, hg]
  rw [if_pos hw]
  exact Lib.wp_copy_run w d s t t' ho v u hd hs hr h
set_option maxRecDepth 100000 in
set_option maxHeartbeats 4000000 in
theorem of_calls (w : World) (gs n cap : Nat) :
    Calls Tryd.prog 27 #[.slice (some ⟨gs, 0, none⟩) n cap] w fun e w' => e = .returned (.pointer (some ⟨w.heap.size + 2, 0, none⟩)) ∧ w' = ((w.alloc (.map #[] 0)).alloc (.map #[] 0)).alloc (.cells #[.slice (some ⟨gs, 0, none⟩) n cap, .map (some w.heap.size), .map (some (w.heap.size + 1)), .bool false, .int .i64 (-1), .int .i64 0] 76) := by
  have m3 := fun W : World => run_makeMap (P := Tryd.prog) 73 W
  have m4 := fun W : World => run_makeMap (P := Tryd.prog) 74 W
  go_enter Tryd.func27, Tryd.ntmps27
  go_wp2
  go_ret
  exact ⟨rfl, rfl⟩
/-- A row of n texts, of which the first m are s, the others empty. -/
def repC (s : ByteArray) (n m : Nat) : Array Value := (List.replicate m (Value.string s) ++ List.replicate (n - m) (Value.string ⟨#[]⟩)).toArray
theorem repC_size (s : ByteArray) {n m : Nat} (h : m ≤ n) : (repC s n m).size = n := by simp [repC]; omega
theorem repC_get (s : ByteArray) {n m i : Nat} (h : i < m) : (repC s n m)[i]? = some (.string s) := by
  unfold repC
  simp [List.getElem?_append, h]
theorem repC_zero (s : ByteArray) (n : Nat) : madeCells #[.string ⟨#[]⟩] n = repC s n 0 := by
  apply Array.ext'
  unfold repC madeCells
  simp [Nat.mod_one]
  apply List.ext_getElem
  · simp
  · intro i h1 h2
    simp [Nat.mod_one]
theorem repC_step (s : ByteArray) {n m k : Nat} (h : m + k ≤ n) (hk : k ≤ m ∨ m = 0) : ((repC s n m).toList.take m ++ List.replicate k (Value.string s) ++ (repC s n m).toList.drop (m + k)).toArray = repC s n (m + k) := by
  apply Array.ext'
  unfold repC
  simp only [List.take_append, List.length_replicate, List.drop_append, List.take_replicate, List.drop_replicate]
  rw [Nat.min_self, Nat.sub_self, Nat.zero_min, List.replicate_zero, List.append_nil, show m - (m + k) = 0 from by omega, List.replicate_zero, List.nil_append, List.replicate_append_replicate, show n - m - (m + k - m) = n - (m + k) from by omega]
theorem mul_one64 {n : Nat} (h : n ≤ 32768) : bits_Mul.f 1 (n : Int) = some (0, (n : Int)) := by
  have hwr : ∀ x : Int, 0 ≤ x → x < 18446744073709551616 → IntKind.u64.wrap x = x := fun x h0 h1 => by
    rw [IntKind.wrap_u64]; omega
  have hand : ∀ x : Int, 0 ≤ x → x < 4294967296 → Go.bits .and .u64 x 4294967295 = x := fun x h0 h1 => by
    have := Go.bits_mask .u64 32 (by decide) (fun n h0 h1 => hwr n h0 (by omega)) 32 (by decide) x (by omega) (by omega)
    rw [show ((2 : Int) ^ 32 - 1) = 4294967295 from by decide] at this
    rw [this]; omega
  have e1 : (1 : Int) / 4294967296 = 0 := by decide
  have e2 : (n : Int) / 4294967296 = 0 := by omega
  have e3 : IntKind.u64.wrap 0 = 0 := hwr 0 (by omega) (by omega)
  have e4 : IntKind.u64.wrap (n : Int) = (n : Int) := hwr _ (by omega) (by omega)
  unfold bits_Mul.f bits_Mul64.f
  rw [hand 1 (by omega) (by omega), hand (n : Int) (by omega) (by omega), e1, e2]
  simp only [Int.zero_mul, Int.mul_zero, Int.one_mul, e3, e4, e2, Int.add_zero, Int.zero_add, Option.bind_some]
  rw [hand 0 (by omega) (by omega)]
  simp only [e3, Int.add_zero, Int.zero_add]
  rfl
theorem rep_copy {W : World} {g n m k dc sLen sc ty : Nat} {s : ByteArray} {a : Addr} (hg : W.heap[g]? = some (.cells (repC s n m) 9 (0, 0))) (hm : m + k ≤ n) (hk : k = Nat.min sLen (n - m)) (hkm : k ≤ m ∨ m = 0) (hs : ∀ j, j < k → W.cell? (a.add j) = some (.string s)) :
    ∃ w', (Builtin.copy_ #[61, 61] ty #[.slice (some ⟨g, m, none⟩) (n - m) dc, .slice (some a) sLen sc]).run Tryd.prog W = .ok (goInt k) w' ∧ w'.heap[g]? = some (.cells (repC s n (m + k)) 9 (0, 0)) ∧ W.grownBy w' (some g) := by
  have hl : (List.replicate k (Value.string s)).length = k := List.length_replicate
  have hrun := run_copy_row (P := Tryd.prog) W 61 61 ty 9 g m (n - m) dc a sLen sc (repC s n m) 9 (List.replicate k (Value.string s)) Tryd.underlying61 (by kernel_rfl) hg (by rw [hl]; exact hk) (fun j v hv => by
    rw [List.getElem?_replicate] at hv
    split at hv
    · rename_i hj
      injection hv with hv
      rw [← hv]; exact hs j hj
    · cases hv) (by rw [hl, repC_size s (by omega)]; exact hm) (fun v hv => by
    rw [(List.mem_replicate.1 hv).2]
    rfl)
  rw [hl, repC_step s hm hkm] at hrun
  refine ⟨_, hrun, ?_, rfl, rfl, rfl, by simp [World.setRow], fun i _ hi => ?_⟩
  · simp [World.setRow, Array.getElem?_modify, hg]
  · simp only [World.setRow, Array.getElem?_modify]
    rw [if_neg (fun e => hi (by rw [e]))]
end Go.Proofs.YtnhigoffkmfccaaDoor.G
