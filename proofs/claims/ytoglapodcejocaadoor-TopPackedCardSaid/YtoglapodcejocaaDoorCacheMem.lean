/- A cache's ring of nodes and its map of places, over this seat's program: what they hold, as functions. Conditions: each lemma's own. -/
import Derived.Test.YtoglapodcejocaaDoorGx
import Derived.Maps.OwnSet
import Derived.Maps.Views
import Derived.DeepKeys4
import Derived.Carry
namespace Go.Proofs.YtoglapodcejocaaDoor.G
open Go.RowKit Go.Proofs.YtoglapodcejocaaDoorW.PrintWords Go.Proofs.YtoglapodcejocaaDoorW.PrintLast Go.Proofs.YtoglapodcejocaaDoorW.PrintMore
set_option linter.unusedVariables false
set_option linter.unusedSimpArgs false
set_option maxRecDepth 100000

def fput {α : Type} (F : Nat → α) (i : Nat) (x : α) : Nat → α := fun j => if j = i then x else F j
theorem fput_same {α : Type} (F : Nat → α) (i : Nat) (x : α) : fput F i x i = x := if_pos rfl
theorem fput_ne {α : Type} (F : Nat → α) {i j : Nat} (x : α) (h : j ≠ i) : fput F i x j = F j := if_neg h
/-! #### places as keys -/
abbrev Pl := Int × Int
def plV (p : Pl) : Value := .agg #[.int .i64 p.1, .int .i64 p.2]
def plOk (p : Pl) : Prop := (Lit.int .i64 p.1).wf = true ∧ (Lit.int .i64 p.2).wf = true
theorem plV_inj {p q : Pl} (h : plV p = plV q) : p = q := by
  unfold plV at h
  injection h with h
  have h2 := congrArg Array.toList h
  simp at h2
  exact Prod.ext h2.1 h2.2
theorem lawPl : Go.WideMaps.KeyLaw Tryd.prog 36 := Go.deep_law_laid (by kernel_rfl) (m := 5) (by decide) (of_decide_eq_true (by kernel_rfl)) (by kernel_rfl) (by kernel_rfl)
theorem keyedPl : Go.Maps.Keyed Tryd.prog 36 := Go.Maps.Keyed.of_law lawPl
theorem pl_key {p : Pl} (h : plOk p) : ∃ l, keyOf Tryd.prog 36 (plV p) = some l := by
  obtain ⟨h1, h2⟩ := h
  have e2 : ∀ d (n : Int), (Lit.int .i64 n).wf = true → Tryd.prog.keyLits (d + 1) 3 [.int .i64 n] = some [.int .i64 n] := by
    intro d n hn
    unfold Program.keyLits
    rw [Tryd.underlying3]
    simp [hn]
  have c1 : Tryd.prog.cellsOf 36 = 2 := by kernel_rfl
  have c3 : Tryd.prog.cellsOf 3 = 1 := by kernel_rfl
  have e3 : ∀ d, Tryd.prog.keyLits (d + 2) 36 [.int .i64 p.1, .int .i64 p.2] = some [.int .i64 p.1, .int .i64 p.2] := by
    intro d
    unfold Program.keyLits
    rw [Tryd.underlying36]
    simp [c1, c3, e2 d p.1 h1, e2 d p.2 h2]
  have e4 : ∃ d, Tryd.prog.types.size + 1 = d + 2 := ⟨_, rfl⟩
  obtain ⟨d, hd⟩ := e4
  have e5 : Tryd.prog.keyType 36 = true := by kernel_rfl
  have e6 : (plV p).formed Tryd.prog 36 = true := by kernel_rfl
  refine ⟨.string (keyBytes [.int .i64 p.1, .int .i64 p.2]), ?_⟩
  unfold keyOf
  rw [Tryd.underlying36]
  dsimp only
  rw [e5, e6, hd]
  have e7 : (plV p).cells.toList = [.int .i64 p.1, .int .i64 p.2] := rfl
  rw [e7, e3 d]
  rfl
/-! #### the map of nodes -/
abbrev ptr (b : Nat) : Value := .pointer (some ⟨b, 0, none⟩)
/-- How an element reads: a pointer to a block's beginning. -/
def ptrElem : Value → Option (DataW Unit × List MemPlace)
  | .pointer none => some (.lit (.bool false), [])
  | .pointer (some a) => if a = ⟨a.block, 0, none⟩ then some (.lit (.int .i64 (a.block : Int)), []) else none
  | _ => none
theorem ptrElem_ptr (b : Nat) : ptrElem (ptr b) = some (.lit (.int .i64 (b : Int)), []) := by simp [ptrElem, ptr]
theorem ptrElem_none : ptrElem (.pointer none) = some (.lit (.bool false), []) := rfl
theorem ptrElem_some_inv {v : Value} {b : Nat} {ps : List MemPlace} (h : ptrElem v = some (.lit (.int .i64 (b : Int)), ps)) : v = ptr b := by
  unfold ptrElem at h
  split at h
  · injection h with h; injection h with h _; injection h with h; cases h
  · rename_i a
    split at h
    · rename_i ha
      injection h with h; injection h with h _; injection h with h; injection h with _ h
      have : a.block = b := by omega
      rw [ha, this]
    · cases h
  · cases h
theorem ptrElem_none_inv {v : Value} {ps : List MemPlace} (h : ptrElem v = some (.lit (.bool false), ps)) : v = .pointer none := by
  unfold ptrElem at h
  split at h
  · rfl
  · split at h
    · injection h with h; injection h with h _; injection h with h; cases h
    · cases h
  · cases h
def pput (F : Pl → Option Nat) (p : Pl) (x : Option Nat) : Pl → Option Nat := fun q => if q = p then x else F q
theorem ownsMap_tight {w : World} {k : TypeId} {R : Value → Option (DataW Unit × List MemPlace)} {b n : Nat} {D : DataW Unit} (h : w.ownsMap Tryd.prog k R b n D) : w.ownsMap Tryd.prog k R b (Go.Maps.size D) D := by
  obtain ⟨es, clock, hb, F, hs, rfl⟩ := h
  have e1 : Go.Maps.size (DataW.map ((es.toList.map (Go.WideElems.rg Tryd.prog k R)).foldr DataW.insert [])) = es.size := by simp [Go.Maps.size, length_sorted]
  exact ⟨es, clock, hb, F, by rw [e1]; exact Nat.le_refl _, rfl⟩
/-- A map of nodes under places, as a function; c are in it. -/
def MapP (w : World) (m c : Nat) (F : Pl → Option Nat) : Prop :=
  ∃ D : DataW Unit, w.ownsMap Tryd.prog 36 ptrElem m c D ∧ Go.Maps.Tidy D ∧ Go.Maps.size D = c ∧ ∀ p, plOk p → ∀ l, keyOf Tryd.prog 36 (plV p) = some l → Go.Maps.has D l = (F p).isSome ∧ ∀ b, F p = some b → ∀ zd, D.atKey l zd = .lit (.int .i64 (b : Int))
theorem MapP.same {w w' : World} {m c : Nat} {F : Pl → Option Nat} (h : MapP w m c F) (hb : w'.heap[m]? = w.heap[m]?) : MapP w' m c F := by
  obtain ⟨D, ⟨es, cl, h1, h2, h3, h4⟩, h5⟩ := h
  exact ⟨D, ⟨es, cl, hb.trans h1, h2, h3, h4⟩, h5⟩
theorem MapP.lt {w : World} {m c : Nat} {F : Pl → Option Nat} (h : MapP w m c F) : m < w.heap.size := by
  obtain ⟨D, h1, -⟩ := h
  exact h1.lt
theorem MapP.isMap {w : World} {m c : Nat} {F : Pl → Option Nat} (h : MapP w m c F) : ∃ es cl, w.heap[m]? = some (.map es cl) := by
  obtain ⟨D, ⟨es, cl, h1, -⟩, -⟩ := h
  exact ⟨es, cl, h1⟩
theorem MapP.empty {w : World} {m : Nat} (h : w.heap[m]? = some (.map #[] 0)) : MapP w m 0 (fun _ => none) := by
  obtain ⟨es, cl, h1, h2, h3, h4⟩ := World.ownsMap_made (H := Unit) w Tryd.prog 36 ptrElem
  rw [blk_new] at h1
  injection h1 with h1
  injection h1 with e1 e2
  subst e1 e2
  exact ⟨.map [], ⟨#[], 0, h, h2, h3, h4⟩, Go.Maps.tidy_empty, rfl, fun p _ l _ => ⟨rfl, fun b hb => by cases hb⟩⟩
theorem MapP.look {w : World} {m c : Nat} {F : Pl → Option Nat} (h : MapP w m c F) (p : Pl) (hp : plOk p) :
    (F p = none ∧ (Instr.lookup 82 (.map (some m)) (plV p) true).run Tryd.prog w = .ok (.tuple #[.pointer none, .bool false]) w) ∨ ∃ b, F p = some b ∧ (Instr.lookup 82 (.map (some m)) (plV p) true).run Tryd.prog w = .ok (.tuple #[ptr b, .bool true]) w := by
  obtain ⟨D, h1, h2, h3, h4⟩ := h
  obtain ⟨l, hl⟩ := pl_key hp
  obtain ⟨hh, ha⟩ := h4 p hp l hl
  obtain ⟨v, ps, hrun, hv⟩ := h1.look_ok keyedPl Tryd.underlying82 (z := .pointer none) (by rfl) (zd := .lit (.bool false)) (zp := []) ptrElem_none hl
  rw [hh] at hrun
  cases hF : F p with
  | none =>
    rw [hF] at hrun hh
    have hn : Go.Maps.has D l = false := hh
    rw [Go.Maps.atKey_of_not_has hn] at hv
    rw [ptrElem_none_inv hv] at hrun
    exact .inl ⟨rfl, hrun⟩
  | some b =>
    rw [hF] at hrun
    rw [ha b hF] at hv
    rw [ptrElem_some_inv hv] at hrun
    exact .inr ⟨b, rfl, hrun⟩
theorem MapP.len {w : World} {m c : Nat} {F : Pl → Option Nat} (h : MapP w m c F) (ty : TypeId) : (Builtin.len_ #[82] ty #[.map (some m)]).run Tryd.prog w = .ok (.int .i64 (c : Int)) w := by
  obtain ⟨D, h1, h2, h3, h4⟩ := h
  have := h1.len Tryd.underlying82 ty
  rw [h3] at this
  exact this
theorem MapP.put {w : World} {m c : Nat} {F : Pl → Option Nat} (h : MapP w m c F) (hc : c < 9223372036854775807) (p : Pl) (hp : plOk p) (hF : F p = none) (b : Nat) :
    ∃ w', (Instr.mapUpdate 82 (.map (some m)) (plV p) (ptr b)).run Tryd.prog w = .ok () w' ∧ MapP w' m (c + 1) (pput F p (some b)) ∧ w.mapTurned w' m := by
  obtain ⟨D, h1, h2, h3, h4⟩ := h
  obtain ⟨l, hl⟩ := pl_key hp
  have hkl := keyedPl.key hl
  obtain ⟨w', hrun, ho, ht⟩ := h1.store keyedPl Tryd.underlying82 hc hl (ptrElem_ptr b)
  refine ⟨w', hrun, ⟨_, ho, h2.put hkl _, ?_, fun q hq l' hl' => ?_⟩, ht⟩
  · have hn : Go.Maps.has D l = false := by rw [(h4 p hp l hl).1, hF]; rfl
    rw [Go.Maps.size_put h2, hn, h3]; rfl
  unfold pput
  by_cases e : q = p
  · subst e
    obtain rfl := Option.some.inj (hl.symm.trans hl')
    rw [if_pos rfl, Go.Maps.has_put_same h2.isMap hkl]
    refine ⟨rfl, fun t ht zd => ?_⟩
    injection ht with ht
    rw [← ht]
    exact Go.Maps.atKey_put_same h2.isMap hkl _ zd
  · have hne : l' ≠ l := fun e2 => e (plV_inj (keyedPl.inj (e2 ▸ hl') hl))
    rw [if_neg e, Go.Maps.has_put_other hne]
    refine ⟨(h4 q hq l' hl').1, fun t ht zd => ?_⟩
    rw [Go.Maps.atKey_put_other hne]
    exact (h4 q hq l' hl').2 t ht zd
theorem MapP.del {w : World} {m c : Nat} {F : Pl → Option Nat} (h : MapP w m (c + 1) F) (p : Pl) (hp : plOk p) {b : Nat} (hF : F p = some b) (ty : TypeId) :
    ∃ w', (Builtin.delete_ #[82, 36] ty #[.map (some m), plV p]).run Tryd.prog w = .ok (.tuple #[]) w' ∧ MapP w' m c (pput F p none) ∧ w.mapTurned w' m := by
  obtain ⟨D, h1, h2, h3, h4⟩ := h
  obtain ⟨l, hl⟩ := pl_key hp
  obtain ⟨w', hrun, ho, ht⟩ := h1.drop keyedPl Tryd.underlying82 hl ty
  have hn : Go.Maps.has D l = true := by rw [(h4 p hp l hl).1, hF]; rfl
  have hsz : Go.Maps.size (D.del l) = c := by
    have := Go.Maps.size_del (k := l) h2
    rw [hn, h3, if_pos rfl] at this
    omega
  have ho2 := ownsMap_tight ho
  rw [hsz] at ho2
  refine ⟨w', hrun, ⟨_, ho2, h2.del _, hsz, fun q hq l' hl' => ?_⟩, ht⟩
  unfold pput
  by_cases e : q = p
  · subst e
    obtain rfl := Option.some.inj (hl.symm.trans hl')
    rw [if_pos rfl, Go.Maps.has_del_same]
    exact ⟨rfl, fun t ht => by cases ht⟩
  · have hne : l' ≠ l := fun e2 => e (plV_inj (keyedPl.inj (e2 ▸ hl') hl))
    rw [if_neg e, Go.Maps.has_del_other hne]
    refine ⟨(h4 q hq l' hl').1, fun t ht zd => ?_⟩
    rw [Go.Maps.atKey_del_other hne]
    exact (h4 q hq l' hl').2 t ht zd
/-! #### the ring's blocks -/
def rootC (m a n : Nat) (room hit miss : Int) : Array Value := #[.int .i64 0, .int .i64 0, .string ⟨#[]⟩, ptr a, ptr n, .map (some m), .int .i64 room, .int .i64 hit, .int .i64 miss]
def nodeC (k : Pl) (v : ByteArray) (a n : Nat) : Array Value := #[.int .i64 k.1, .int .i64 k.2, .string v, ptr a, ptr n]
/-- The blocks of a ring: its root, in block g, and the nodes that S tells; who is ahead and who is next, as functions. -/
structure RM (w : World) (g m : Nat) (room hit miss : Int) (S : Nat → Prop) (K : Nat → Pl) (V : Nat → ByteArray) (A N : Nat → Nat) : Prop where
  root : w.heap[g]? = some (.cells (rootC m (A g) (N g) room hit miss) 86 (0, 0))
  node : ∀ b, S b → w.heap[b]? = some (.cells (nodeC (K b) (V b) (A b) (N b)) 81 (0, 0))
  apart : ¬ S g
theorem RM.lt {w g m room hit miss S K V A N} (h : RM w g m room hit miss S K V A N) {b : Nat} (hb : b = g ∨ S b) : b < w.heap.size := by
  rcases hb with rfl | hb
  · exact blk_lt h.root
  · exact blk_lt (h.node b hb)
theorem RM.ahead {w g m room hit miss S K V A N} (h : RM w g m room hit miss S K V A N) {b : Nat} (hb : b = g ∨ S b) : w.cell? ⟨b, 3, none⟩ = some (ptr (A b)) ∧ w.frozen? ⟨b, 3, none⟩ = false := by
  rcases hb with rfl | hb
  · exact ⟨(blk_cell h.root 3).trans rfl, blk_frozen h.root 3⟩
  · exact ⟨(blk_cell (h.node b hb) 3).trans rfl, blk_frozen (h.node b hb) 3⟩
theorem RM.next {w g m room hit miss S K V A N} (h : RM w g m room hit miss S K V A N) {b : Nat} (hb : b = g ∨ S b) : w.cell? ⟨b, 4, none⟩ = some (ptr (N b)) ∧ w.frozen? ⟨b, 4, none⟩ = false := by
  rcases hb with rfl | hb
  · exact ⟨(blk_cell h.root 4).trans rfl, blk_frozen h.root 4⟩
  · exact ⟨(blk_cell (h.node b hb) 4).trans rfl, blk_frozen (h.node b hb) 4⟩
theorem RM.setNext {w g m room hit miss S K V A N} (h : RM w g m room hit miss S K V A N) {b : Nat} (hb : b = g ∨ S b) (x : Nat) : RM (w.setCell ⟨b, 4, none⟩ (ptr x)) g m room hit miss S K V A (fput N b x) := by
  rcases hb with rfl | hb
  · refine ⟨?_, fun c hc => ?_, h.apart⟩
    · rw [fput_same]; exact blk_put h.root 4 _ rfl
    · have hne : c ≠ b := fun e => h.apart (e ▸ hc)
      rw [fput_ne _ _ hne]; exact blk_far (h.node c hc) hne _
  · have hgb : g ≠ b := fun e => h.apart (e ▸ hb)
    refine ⟨?_, fun c hc => ?_, h.apart⟩
    · rw [fput_ne _ _ hgb]; exact blk_far h.root hgb _
    · by_cases e : c = b
      · subst e; rw [fput_same]; exact blk_put (h.node c hc) 4 _ rfl
      · rw [fput_ne _ _ e]; exact blk_far (h.node c hc) e _
theorem RM.setAhead {w g m room hit miss S K V A N} (h : RM w g m room hit miss S K V A N) {b : Nat} (hb : b = g ∨ S b) (x : Nat) : RM (w.setCell ⟨b, 3, none⟩ (ptr x)) g m room hit miss S K V (fput A b x) N := by
  rcases hb with rfl | hb
  · refine ⟨?_, fun c hc => ?_, h.apart⟩
    · rw [fput_same]; exact blk_put h.root 3 _ rfl
    · have hne : c ≠ b := fun e => h.apart (e ▸ hc)
      rw [fput_ne _ _ hne]; exact blk_far (h.node c hc) hne _
  · have hgb : g ≠ b := fun e => h.apart (e ▸ hb)
    refine ⟨?_, fun c hc => ?_, h.apart⟩
    · rw [fput_ne _ _ hgb]; exact blk_far h.root hgb _
    · by_cases e : c = b
      · subst e; rw [fput_same]; exact blk_put (h.node c hc) 3 _ rfl
      · rw [fput_ne _ _ e]; exact blk_far (h.node c hc) e _
theorem RM.same {w w' g m room hit miss S K V A N} (h : RM w g m room hit miss S K V A N) (hk : ∀ b, b = g ∨ S b → w'.heap[b]? = w.heap[b]?) : RM w' g m room hit miss S K V A N :=
  ⟨(hk g (.inl rfl)).trans h.root, fun b hb => (hk b (.inr hb)).trans (h.node b hb), h.apart⟩
/-! #### chains -/
/-- From x by the nodes of l to e. -/
def Lk (A N : Nat → Nat) : Nat → List Nat → Nat → Prop
  | x, [], e => N x = e ∧ A e = x
  | x, y :: l, e => N x = y ∧ A y = x ∧ Lk A N y l e
theorem Lk.congr {A N A' N' : Nat → Nat} : ∀ {l : List Nat} {x e : Nat}, Lk A N x l e → (∀ z ∈ x :: l, N' z = N z) → (∀ z ∈ l ++ [e], A' z = A z) → Lk A' N' x l e
  | [], x, e, ⟨h1, h2⟩, hN, hA => ⟨(hN x (by simp)).trans h1, (hA e (by simp)).trans h2⟩
  | y :: l, x, e, ⟨h1, h2, h3⟩, hN, hA => ⟨(hN x (by simp)).trans h1, (hA y (by simp)).trans h2, h3.congr (fun z hz => hN z (List.mem_cons_of_mem _ hz)) (fun z hz => hA z (List.mem_cons_of_mem _ hz))⟩
theorem Lk.append {A N : Nat → Nat} : ∀ {l1 : List Nat} {x b e : Nat} {l2 : List Nat}, Lk A N x (l1 ++ b :: l2) e ↔ Lk A N x l1 b ∧ Lk A N b l2 e
  | [], x, b, e, l2 => ⟨fun ⟨h1, h2, h3⟩ => ⟨⟨h1, h2⟩, h3⟩, fun ⟨⟨h1, h2⟩, h3⟩ => ⟨h1, h2, h3⟩⟩
  | y :: l1, x, b, e, l2 => ⟨fun ⟨h1, h2, h3⟩ => ⟨⟨h1, h2, (Lk.append.1 h3).1⟩, (Lk.append.1 h3).2⟩, fun ⟨⟨h1, h2, h3⟩, h4⟩ => ⟨h1, h2, Lk.append.2 ⟨h3, h4⟩⟩⟩
theorem Lk.ahead_mem {A N : Nat → Nat} : ∀ {l : List Nat} {x e : Nat}, Lk A N x l e → A e ∈ x :: l
  | [], x, e, ⟨_, h⟩ => by rw [h]; simp
  | y :: l, x, e, ⟨_, _, h⟩ => List.mem_cons_of_mem _ h.ahead_mem
theorem Lk.next_mem {A N : Nat → Nat} : ∀ {l : List Nat} {x e : Nat}, Lk A N x l e → N x ∈ l ++ [e]
  | [], x, e, ⟨h, _⟩ => by rw [h]; simp
  | y :: l, x, e, ⟨h, _, _⟩ => by rw [h]; simp
/-- The last link of a chain is bent to another end. -/
theorem Lk.bend {A N A' N' : Nat → Nat} {q : Nat} : ∀ {l : List Nat} {x b : Nat}, Lk A N x l b → (x :: l).Nodup → q ∉ l → N' (A b) = q → A' q = A b → (∀ z, z ≠ A b → N' z = N z) → (∀ z, z ≠ q → A' z = A z) → Lk A' N' x l q
  | [], x, b, ⟨h1, h2⟩, hd, hq, e1, e2, f1, f2 => by rw [h2] at e1 e2; exact ⟨e1, e2⟩
  | y :: l, x, b, ⟨h1, h2, h3⟩, hd, hq, e1, e2, f1, f2 => by
    have hx : x ≠ A b := fun e => (List.nodup_cons.1 hd).1 (e ▸ h3.ahead_mem)
    have hy : y ≠ q := fun e => hq (by simp [e])
    exact ⟨(f1 x hx).trans h1, (f2 y hy).trans h2, h3.bend (List.nodup_cons.1 hd).2 (fun h => hq (List.mem_cons_of_mem _ h)) e1 e2 f1 f2⟩
theorem Lk.out {A N : Nat → Nat} {g b : Nat} {l1 l2 : List Nat} (h : Lk A N g (l1 ++ b :: l2) g) (hd : (g :: (l1 ++ b :: l2)).Nodup) : Lk (fput A (N b) (A b)) (fput N (A b) (N b)) g (l1 ++ l2) g := by
  obtain ⟨h1, h2⟩ := Lk.append.1 h
  rw [List.nodup_cons] at hd
  obtain ⟨hg, hd⟩ := hd
  rw [List.nodup_append] at hd
  obtain ⟨d1, d2, d3⟩ := hd
  obtain ⟨d4, d5⟩ := List.nodup_cons.1 d2
  have hgl1 : g ∉ l1 := fun h => hg (by simp [h])
  have hgl2 : g ∉ l2 := fun h => hg (by simp [h])
  have hd1 : (g :: l1).Nodup := List.nodup_cons.2 ⟨hgl1, d1⟩
  have hp := h1.ahead_mem
  cases l2 with
  | nil =>
    obtain ⟨n1, n2⟩ := h2
    rw [n1, List.append_nil]
    exact h1.bend hd1 hgl1 (fput_same _ _ _) (fput_same _ _ _) (fun z hz => fput_ne _ _ hz) (fun z hz => fput_ne _ _ hz)
  | cons q l3 =>
    obtain ⟨n1, n2, n3⟩ := h2
    obtain ⟨d6, d7⟩ := List.nodup_cons.1 d5
    have hql1 : q ∉ l1 := fun h => d3 q h q (by simp) rfl
    have hqg : g ≠ q := fun e => hgl2 (by simp [e])
    rw [n1]
    refine Lk.append.2 ⟨h1.bend hd1 hql1 (fput_same _ _ _) (fput_same _ _ _) (fun z hz => fput_ne _ _ hz) (fun z hz => fput_ne _ _ hz), n3.congr (fun z hz => fput_ne _ _ (fun e => ?_)) (fun z hz => fput_ne _ _ (fun e => ?_))⟩
    · rw [e] at hz
      rcases List.mem_cons.1 hp with h' | h'
      · rw [h'] at hz; exact hgl2 hz
      · exact d3 _ h' _ (List.mem_cons_of_mem _ hz) rfl
    · rw [e] at hz
      rcases List.mem_append.1 hz with h' | h'
      · exact d6 h'
      · exact hqg (List.mem_singleton.1 h').symm
theorem Lk.first {A N : Nat → Nat} {g n : Nat} {l : List Nat} (h : Lk A N g l g) (hd : (g :: l).Nodup) (hn : n ≠ g) (hnl : n ∉ l) : Lk (fput (fput A n g) (N g) n) (fput (fput N n (N g)) g n) g (n :: l) g := by
  obtain ⟨hg, hd⟩ := List.nodup_cons.1 hd
  have hx := h.next_mem
  have hnx : n ≠ N g := fun e => by
    rw [← e] at hx
    rcases List.mem_append.1 hx with h' | h'
    · exact hnl h'
    · exact hn (List.mem_singleton.1 h')
  refine ⟨fput_same _ _ _, by rw [fput_ne _ _ hnx, fput_same], ?_⟩
  cases l with
  | nil =>
    obtain ⟨n1, n2⟩ := h
    refine ⟨by rw [fput_ne _ _ hn, fput_same, n1], by rw [n1, fput_same]⟩
  | cons q l =>
    obtain ⟨n1, n2, n3⟩ := h
    obtain ⟨d1, d2⟩ := List.nodup_cons.1 hd
    refine ⟨by rw [fput_ne _ _ hn, fput_same, n1], by rw [n1, fput_same], n3.congr (fun z hz => ?_) (fun z hz => ?_)⟩
    · have z1 : z ≠ g := fun e => hg (e ▸ hz)
      have z2 : z ≠ n := fun e => hnl (e ▸ hz)
      rw [fput_ne _ _ z1, fput_ne _ _ z2]
    · have z2 : z ≠ n := fun e => by
        rw [e] at hz
        rcases List.mem_append.1 hz with h' | h'
        · exact hnl (List.mem_cons_of_mem _ h')
        · exact hn (List.mem_singleton.1 h')
      have z3 : z ≠ q := fun e => by
        rw [e] at hz
        rcases List.mem_append.1 hz with h' | h'
        · exact d1 h'
        · exact hg (by rw [← List.mem_singleton.1 h']; simp)
      rw [n1, fput_ne _ _ z3, fput_ne _ _ z2]
end Go.Proofs.YtoglapodcejocaaDoor.G
