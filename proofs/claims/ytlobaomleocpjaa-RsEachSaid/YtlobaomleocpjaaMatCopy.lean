/- copy into a row of a matrix over this seat's program. Conditions: each lemma's own. -/
import Derived.Test.YtlobaomleocpjaaMatFn
import Derived.Laws.CopyRow
import Derived.Lib.BufferWrite
import Derived.Lib.SlBuf
import Derived.Deep.RegionLaw
namespace Go.Proofs.Ytlobaomleocpjaa.G
open Go.RowKit Go.Proofs.YtlobaomleocpjaaW.PrintWords Go.Proofs.YtlobaomleocpjaaW.PrintLast Go.Proofs.YtlobaomleocpjaaW.PrintMore
set_option linter.unusedVariables false
set_option linter.unusedSimpArgs false

theorem Mat.after_copy {B gm cm n p : Nat} {w : World} {g o c : Nat → Nat} {A : GfM.Mx} (h : Mat B w gm cm n p g o c A) {i : Nat} (hi : i < n) {cur : Array Value} (h0 : w.heap[g i]? = some (.cells cur 5 (0, 0))) (hf : o i + p ≤ cur.size) (f : Nat → GfM.F) :
    w.grownBy (w.setRow (g i) (cur.toList.take (o i) ++ nums .u8 (rowL p f) ++ cur.toList.drop (o i + p)).toArray) (some (g i)) ∧ Mat B (w.setRow (g i) (cur.toList.take (o i) ++ nums .u8 (rowL p f) ++ cur.toList.drop (o i + p)).toArray) gm cm n p g o c (fun r k => if r = i then f k else A r k) := by
  have e : (cur.toList.take (o i) ++ nums .u8 (rowL p f) ++ cur.toList.drop (o i + p)).toArray = rowIn cur (o i) (rowL p f) := by unfold rowIn; rw [rowL_length]
  rw [e]
  have hf' : o i + (rowL p f).length ≤ cur.size := by rw [rowL_length]; exact hf
  have hg : w.grownBy (w.setRow (g i) (rowIn cur (o i) (rowL p f))) (some (g i)) := ⟨rfl, rfl, rfl, by simp [World.setRow], fun k _ hk => setRow_other w (g i) k _ (fun e => hk (by rw [e]))⟩
  refine ⟨hg, h.setRow hi h0 (setRow_heap w (g i) _ _ _ _ h0) (fun k hk hlt => hg.block k hlt (by simpa using hk)) (fun k hk => ?_) (fun j hj => ?_)⟩
  · exact rowIn_out _ _ _ hf' k (by rw [rowL_length]; exact hk)
  · rw [rowIn_get _ _ _ hf' j (by rw [rowL_length]; exact hj), rowL_get p f j hj]
theorem nums_get {l : List Int} {j : Nat} {v : Value} (h : (nums .u8 l)[j]? = some v) : j < l.length ∧ v = .int .u8 (l.getD j 0) := by
  have hl : j < l.length := by have := (List.getElem?_eq_some_iff.1 h).1; simpa [nums] using this
  refine ⟨hl, ?_⟩
  simp [nums, List.getElem?_eq_getElem hl] at h
  rw [← h, List.getD_eq_getElem?_getD, List.getElem?_eq_getElem hl]; rfl
/-- copy(m[i], s), s a row as long. -/
theorem Mat.copy_run {B gm cm n p : Nat} {w : World} {g o c : Nat → Nat} {A : GfM.Mx} (h : Mat B w gm cm n p g o c A) {i : Nat} (hi : i < n) (hp : 0 < p) (f : Nat → GfM.F) (a : Addr) (da ty : Nat) (hs : ∀ j, j < p → w.cell? (a.add j) = some (.int .u8 ((f j).toNat : Int))) :
    ∃ w', (Builtin.copy_ #[37, 37] ty #[.slice (some ⟨g i, o i, none⟩) p (c i), .slice (some a) p da]).run Try.prog w = .ok (goInt p) w' ∧ w.grownBy w' (some (g i)) ∧ Mat B w' gm cm n p g o c (fun r k => if r = i then f k else A r k) := by
  obtain ⟨cur, h0, hR⟩ := h.rowAt hi hp
  have hf := hR.fit
  rw [rowL_length] at hf
  have hl : (nums .u8 (rowL p f)).length = p := by simp [nums, rowL_length]
  have hrun := run_copy_row (P := Try.prog) w 37 37 ty 5 (g i) (o i) p (c i) a p da cur 5 (nums .u8 (rowL p f)) Try.underlying37 (by kernel_rfl) h0 (by rw [hl]; exact (Nat.min_self p).symm) (fun j v hv => by
    obtain ⟨h1, rfl⟩ := nums_get hv
    rw [rowL_length] at h1
    rw [hs j h1, rowL_get p f j h1]) (by rw [hl]; exact hf) (fun v hv => by
    obtain ⟨x, _, rfl⟩ := List.mem_map.1 hv
    rfl)
  rw [hl] at hrun
  exact ⟨_, hrun, h.after_copy hi h0 hf f⟩
theorem byteCells_nums (s : ByteArray) : Lib.byteCells s.data.toList = nums .u8 (bytesOf s) := by unfold Lib.byteCells bytesOf nums; simp
/-- copy(m[i], s), s a text as long. -/
theorem Mat.copy_str {B gm cm n p : Nat} {w : World} {g o c : Nat → Nat} {A : GfM.Mx} (h : Mat B w gm cm n p g o c A) {i : Nat} (hi : i < n) (hp : 0 < p) (f : Nat → GfM.F) (ty : Nat) :
    ∃ w', (Builtin.copy_ #[37, 9] ty #[.slice (some ⟨g i, o i, none⟩) p (c i), .string (strX p f)]).run Try.prog w = .ok (goInt p) w' ∧ w.grownBy w' (some (g i)) ∧ Mat B w' gm cm n p g o c (fun r k => if r = i then f k else A r k) := by
  obtain ⟨cur, h0, hR⟩ := h.rowAt hi hp
  have hf := hR.fit
  rw [rowL_length] at hf
  have hrun := Lib.run_copy_row_string (P := Try.prog) w 37 9 ty 5 (g i) (o i) p (c i) (strX p f) cur 5 Try.underlying37 (by kernel_rfl) h0 (by rw [strX_size]; exact Nat.le_refl _) (by rw [strX_size]; exact hf)
  rw [strX_size, byteCells_nums, strX_bytes] at hrun
  exact ⟨_, hrun, h.after_copy hi h0 hf f⟩
/-- The operation copy where its run is known, as a step of a region. -/
theorem step_copy {P : Program} {ops : Array Oper} {o : Oper} {a : Act} {w : World} {K : Act → World → Prop} {Q : Exit → Act → World → Prop} {E : Prop} (hg : o.guard = none) (d s : Operand) (t t' : TypeId)
    (ho : o.op = .call { callee := .builtin .copy, args := #[d, s], argTypes := #[t, t'] }) (v u : Value) (hd : a.eval d = v) (hs : a.eval s = u) {v' : Value} {w' : World}
    (hr : (Builtin.copy_ #[t, t'] o.type #[v, u]).run P w = .ok v' w') (h : K (a.put o.dst v') w') : if Region.wanted o (yielded ops a.tmps) = true then Oper.wp P o a w K Q else E := by
  have hw : Region.wanted o (yielded ops a.tmps) = true := by simp [Region.wanted, hg]
  rw [if_pos hw]
  exact Lib.wp_copy_run w d s t t' ho v u hd hs hr h
end Go.Proofs.Ytlobaomleocpjaa.G
