/- A device in memory over this seat's program: its sectors as a function, what is read and written. Conditions: each lemma's own. -/
import Derived.Test.YtnhigoffkmfccaaDoorGx
import Derived.Maps.OwnSet
import Derived.Maps.Views
namespace Go.Proofs.YtnhigoffkmfccaaDoor.G
open Go.RowKit Go.Proofs.YtnhigoffkmfccaaDoorW.PrintWords Go.Proofs.YtnhigoffkmfccaaDoorW.PrintLast Go.Proofs.YtnhigoffkmfccaaDoorW.PrintMore
set_option linter.unusedVariables false
set_option linter.unusedSimpArgs false
set_option maxRecDepth 100000

theorem nat_wf {i : Nat} (h : i < 1099511627776) : (Lit.int .i64 (i : Int)).wf = true := by
  have e0 : IntKind.min .i64 = -9223372036854775808 := by decide
  have e1 : IntKind.max .i64 = 9223372036854775807 := by decide
  simp only [Lit.wf, e0, e1, Bool.and_eq_true, decide_eq_true_eq]
  omega
theorem key3 {i : Nat} (h : i < 1099511627776) : keyOf Tryd.prog 3 (.int .i64 (i : Int)) = some (.int .i64 (i : Int)) := by simp [keyOf, mapKey, Tryd.underlying3, nat_wf h]
theorem keyLit (i : Int) : Go.WideAt.IsKeyLit (.int .i64 i) := by simp [Go.WideAt.IsKeyLit]
theorem keyed3 : Go.Maps.Keyed Tryd.prog 3 := Go.Maps.int_keyed Tryd.underlying3
theorem plain_string_inv {v : Value} {z : DataW Unit × List MemPlace} (h : plainElem Tryd.prog 9 v = some z) : ∃ s, v = .string s ∧ z = (.lit (.string s.data.toList), []) := by
  unfold plainElem at h
  rw [Tryd.underlying9] at h
  cases v <;> simp at h
  rename_i s
  exact ⟨s, rfl, h.2.symm⟩
/-- A map of texts under numbers, as a function; at most n were put in. -/
def MapS (w : World) (b n : Nat) (F : Nat → Option ByteArray) : Prop :=
  ∃ D : DataW Unit, w.ownsMap Tryd.prog 3 (plainElem Tryd.prog 9) b n D ∧ Go.Maps.IsMap D ∧ (∀ i : Nat, i < 1099511627776 → Go.Maps.has D (.int .i64 i) = (F i).isSome ∧ ∀ s, F i = some s → ∀ zd, D.atKey (.int .i64 i) zd = .lit (.string s.data.toList)) ∧ ∀ kl, Go.Maps.has D kl = true → ∃ i : Nat, i < 1099511627776 ∧ kl = .int .i64 i
/-- An empty map of marks under numbers. -/
def MapB (w : World) (b : Nat) : Prop := w.ownsMap (H := Unit) Tryd.prog 3 (plainElem Tryd.prog 4) b 0 (.map [])
theorem MapS.same {w w' : World} {b n : Nat} {F : Nat → Option ByteArray} (h : MapS w b n F) (hb : w'.heap[b]? = w.heap[b]?) : MapS w' b n F := by
  obtain ⟨D, ⟨es, cl, h1, h2, h3, h4⟩, h5, h6⟩ := h
  exact ⟨D, ⟨es, cl, hb.trans h1, h2, h3, h4⟩, h5, h6⟩
theorem MapB.same {w w' : World} {b : Nat} (h : MapB w b) (hb : w'.heap[b]? = w.heap[b]?) : MapB w' b := by
  obtain ⟨es, cl, h1, h2, h3, h4⟩ := h
  exact ⟨es, cl, hb.trans h1, h2, h3, h4⟩
theorem MapS.lt {w : World} {b n : Nat} {F : Nat → Option ByteArray} (h : MapS w b n F) : b < w.heap.size := by
  obtain ⟨D, h1, -⟩ := h
  exact h1.lt
theorem ba_toList_inj {a b : ByteArray} (h : a.data.toList = b.data.toList) : a = b := by
  cases a; cases b
  exact congrArg ByteArray.mk (Array.toList_inj.1 h)
theorem MapS.look {w : World} {b n : Nat} {F : Nat → Option ByteArray} (h : MapS w b n F) (i : Nat) (hi : i < 1099511627776) :
    (F i = none ∧ ∃ s, (Instr.lookup 73 (.map (some b)) (.int .i64 i) true).run Tryd.prog w = .ok (.tuple #[.string s, .bool false]) w) ∨ ∃ s, F i = some s ∧ (Instr.lookup 73 (.map (some b)) (.int .i64 i) true).run Tryd.prog w = .ok (.tuple #[.string s, .bool true]) w := by
  obtain ⟨D, h1, h2, h3, -⟩ := h
  obtain ⟨hh, ha⟩ := h3 i hi
  obtain ⟨v, ps, hrun, hv⟩ := h1.look_ok keyed3 Tryd.underlying73 (z := .string ⟨#[]⟩) (by rfl) (zd := .lit (.string [])) (zp := []) (plainElem_string Tryd.underlying9 (by decide)) (key3 hi)
  obtain ⟨s, rfl, hz⟩ := plain_string_inv hv
  rw [hh] at hrun
  cases hF : F i with
  | none =>
    rw [hF] at hrun
    exact .inl ⟨rfl, s, hrun⟩
  | some t =>
    rw [hF] at hrun
    have h4 := congrArg Prod.fst hz
    rw [show (D.atKey (.int .i64 (i : Int)) (.lit (.string [])), ps).1 = D.atKey (.int .i64 (i : Int)) (.lit (.string [])) from rfl, ha t hF] at h4
    have h5 : t.data.toList = s.data.toList := by
      injection h4 with h4
      injection h4
    rw [← ba_toList_inj h5] at hrun
    exact .inr ⟨t, rfl, hrun⟩
theorem MapB.look {w : World} {b : Nat} (h : MapB w b) (i : Nat) (hi : i < 1099511627776) : (Instr.lookup 74 (.map (some b)) (.int .i64 i) false).run Tryd.prog w = .ok (.bool false) w := by
  obtain ⟨v, ps, hrun, hv⟩ := World.ownsMap.lookup h keyed3 Tryd.underlying74 (z := .bool false) (by rfl) (zd := .lit (.bool false)) (zp := []) (plainElem_bool Tryd.underlying4 false) (key3 hi)
  have e : (DataW.map [] : DataW Unit).atKey (.int .i64 (i : Int)) (.lit (.bool false)) = .lit (.bool false) := Go.Maps.atKey_of_not_has rfl _
  rw [e] at hv
  unfold plainElem at hv
  rw [Tryd.underlying4] at hv
  cases v <;> simp at hv
  rw [hv.1] at hrun
  exact hrun
/-- A function that is changed at one place. -/
def fput {α : Type} (F : Nat → α) (i : Nat) (x : α) : Nat → α := fun j => if j = i then x else F j
theorem MapS.put {w : World} {b n : Nat} {F : Nat → Option ByteArray} (h : MapS w b n F) (hn : n < 9223372036854775807) (i : Nat) (hi : i < 1099511627776) (s : ByteArray) (hs : s.size ≤ 9223372036854775807) :
    ∃ w', (Instr.mapUpdate 73 (.map (some b)) (.int .i64 i) (.string s)).run Tryd.prog w = .ok () w' ∧ MapS w' b (n + 1) (fput F i (some s)) ∧ w.mapTurned w' b := by
  obtain ⟨D, h1, h2, h3, h4⟩ := h
  obtain ⟨w', hrun, ho, ht⟩ := h1.store keyed3 Tryd.underlying73 hn (key3 hi) (plainElem_string Tryd.underlying9 hs)
  refine ⟨w', hrun, ⟨_, ho, h2.put _ _, fun j hj => ?_, fun kl hk => ?_⟩, ht⟩
  rotate_left
  · by_cases e : kl = .int .i64 (i : Int)
    · exact ⟨i, hi, e⟩
    · rw [Go.Maps.has_put_other e] at hk
      exact h4 kl hk
  unfold fput
  by_cases e : j = i
  · subst e
    rw [if_pos rfl, Go.Maps.has_put_same h2 (keyLit _)]
    refine ⟨rfl, fun t ht zd => ?_⟩
    injection ht with ht
    rw [← ht]
    exact Go.Maps.atKey_put_same h2 (keyLit _) _ zd
  · have hne : (Lit.int .i64 (j : Int)) ≠ Lit.int .i64 (i : Int) := fun h => e (by injection h with _ h; omega)
    rw [if_neg e, Go.Maps.has_put_other hne]
    refine ⟨(h3 j hj).1, fun t ht zd => ?_⟩
    rw [Go.Maps.atKey_put_other hne]
    exact (h3 j hj).2 t ht zd
end Go.Proofs.YtnhigoffkmfccaaDoor.G
