/- What dedupe.First keeps: its map, its rows, and the plain function that it comes to. No condition. -/
import Derived.Test.YtgiaopmakkdojaaDoorGxC
import Derived.WideKeyEntry
import Derived.DeepKeys4
import Derived.WalkMore
import Derived.Carry
import Derived.Laws.MakeOwn
set_option linter.unusedVariables false
set_option linter.unusedSimpArgs false
namespace Go.Proofs.YtgiaopmakkdojaaDoor.DedMap
open Go.ChangeShapes Go.WideShapes Go.MapKept Go.ChangeMaps
open Go.WideMaps (KeyLaw)
open Go.WideElems (findIdx_born findIdx_arr modify_last set_self)
/-- A map nothing of which is deleted: entry j was born j-th. -/
def ents (E : List (Value × Value)) : List MapEntry := E.mapIdx fun j e => ⟨e.1, e.2, j⟩
theorem ents_length (E : List (Value × Value)) : (ents E).length = E.length := by simp [ents]
theorem ents_get (E : List (Value × Value)) (j : Nat) : (ents E)[j]? = E[j]?.map fun e => (⟨e.1, e.2, j⟩ : MapEntry) := by simp [ents]
theorem ents_born (E : List (Value × Value)) : (ents E).map (·.born) = List.range E.length := by
  apply List.ext_getElem?
  intro i
  rw [List.getElem?_map, ents_get]
  by_cases h : i < E.length
  · simp [h]
  · simp [h]
theorem ents_nodup (E : List (Value × Value)) : ((ents E).map (·.born)).Nodup := by rw [ents_born]; exact List.nodup_range
theorem ents_snoc (E : List (Value × Value)) (k v : Value) : ents (E ++ [(k, v)]) = ents E ++ [⟨k, v, E.length⟩] := by
  simp [ents, List.mapIdx_append]
theorem ents_set (E : List (Value × Value)) (j : Nat) (k v : Value) (h : j < E.length) : ents (E.set j (k, v)) = (ents E).set j ⟨k, v, j⟩ := by
  apply List.ext_getElem?
  intro i
  rw [ents_get]
  by_cases e : i = j
  · subst e
    rw [List.getElem?_set_self h, List.getElem?_set_self (by rw [ents_length]; exact h)]; rfl
  · rw [List.getElem?_set_ne (fun h => e h.symm), List.getElem?_set_ne (fun h => e h.symm), ents_get]
theorem mem_ents {E : List (Value × Value)} {x : MapEntry} (h : x ∈ ents E) : (x.key, x.val) ∈ E := by
  obtain ⟨j, hj⟩ := List.mem_iff_getElem?.1 h
  rw [ents_get] at hj
  obtain ⟨e, he, rfl⟩ := Option.map_eq_some_iff.1 hj
  exact List.mem_of_getElem? he
def At (w : World) (b : Nat) (E : List (Value × Value)) : Prop := w.heap[b]? = some (.map (ents E).toArray E.length)
section
variable {P : Program} {w : World} {t k e : TypeId} {b : Nat} {E : List (Value × Value)}
theorem lookup_run (K : KeyLaw P k) (ht : P.underlying t = some (.map k e)) {z : Value} (hz : ∀ u : World, (zeroValue e).run P u = .ok z u) (hb : At w b E) (hk : ∀ x ∈ E, ∃ l, keyOf P k x.1 = some l) {key : Value} {kl : Lit} (hkey : keyOf P k key = some kl) :
    ((∀ x ∈ E, x.1 ≠ key) ∧ (Instr.lookup t (.map (some b)) key false).run P w = .ok z w) ∨ ∃ (j : Nat) (v : Value), E[j]? = some (key, v) ∧ (Instr.lookup t (.map (some b)) key false).run P w = .ok v w := by
  rcases K.find w hkey (ents E) (fun x hx => hk _ (mem_ents hx)) with ⟨h1, h2⟩ | ⟨j, e0, h1, h2, h3⟩
  · left
    refine ⟨fun x hx hxk => ?_, ?_⟩
    · obtain ⟨j, hj⟩ := List.mem_iff_getElem?.1 hx
      have : (⟨x.1, x.2, j⟩ : MapEntry) ∈ ents E := List.mem_of_getElem? (by rw [ents_get, hj]; rfl)
      exact h2 _ this hxk
    · simp [Instr.lookup, run_underlying ht, MapKept.run_getObj_map hb, K.check w _ hkey, h1, hz, Result.andThen]
  · right
    rw [ents_get] at h2
    obtain ⟨e1, he1, rfl⟩ := Option.map_eq_some_iff.1 h2
    refine ⟨j, e1.2, by rw [he1, ← h3], ?_⟩
    simp [Instr.lookup, run_underlying ht, MapKept.run_getObj_map hb, K.check w _ hkey, h1, Result.andThen]
theorem entry_new (K : KeyLaw P k) (ht : P.underlying t = some (.map k e)) {z : Value} (hz : ∀ u : World, (zeroValue e).run P u = .ok z u) (hb : At w b E) (hk : ∀ x ∈ E, ∃ l, keyOf P k x.1 = some l) {key : Value} {kl : Lit} (hkey : keyOf P k key = some kl) (hn : ∀ x ∈ E, x.1 ≠ key) :
    (Instr.mapEntry t (.map (some b)) key).run P w = .ok (.tuple #[z, goInt E.length]) (setBlock w b (.map (ents (E ++ [(key, z)])).toArray (E.length + 1))) := by
  rcases K.find w hkey (ents E) (fun x hx => hk _ (mem_ents hx)) with ⟨h1, h2⟩ | ⟨j, e0, h1, h2, h3⟩
  · have hp : (ents (E ++ [(key, z)])).toArray = (ents E).toArray.push ⟨key, z, E.length⟩ := by rw [ents_snoc]; simp
    rw [hp]
    simp [Instr.mapEntry, run_underlying ht, MapKept.run_getObj_map hb, K.check w false hkey, h1, hz, MapKept.run_setObj_map _ hb, Result.andThen, setBlock]
  · rw [ents_get] at h2
    obtain ⟨e1, he1, rfl⟩ := Option.map_eq_some_iff.1 h2
    exact absurd h3 (hn _ (List.mem_of_getElem? he1))
theorem entry_old (K : KeyLaw P k) (ht : P.underlying t = some (.map k e)) (hb : At w b E) (hk : ∀ x ∈ E, ∃ l, keyOf P k x.1 = some l) (hd : (E.map (·.1)).Nodup) {key v : Value} {kl : Lit} (hkey : keyOf P k key = some kl) {j : Nat} (hj : E[j]? = some (key, v)) :
    (Instr.mapEntry t (.map (some b)) key).run P w = .ok (.tuple #[v, goInt j]) (setBlock w b (.map (ents E).toArray E.length)) := by
  have hj2 : (ents E)[j]? = some ⟨key, v, j⟩ := by rw [ents_get, hj]; rfl
  rcases K.find w hkey (ents E) (fun x hx => hk _ (mem_ents hx)) with ⟨h1, h2⟩ | ⟨j', e0, h1, h2, h3⟩
  · exact absurd rfl (h2 _ (List.mem_of_getElem? hj2))
  · have hjj : j' = j := by
      rw [ents_get] at h2
      obtain ⟨e1, he1, rfl⟩ := Option.map_eq_some_iff.1 h2
      have a1 : (E.map (·.1))[j']? = some key := by rw [List.getElem?_map, he1, ← h3]; rfl
      have a2 : (E.map (·.1))[j]? = some key := by rw [List.getElem?_map, hj]; rfl
      have l1 := (List.getElem?_eq_some_iff.1 a1).1
      exact (List.getElem?_inj l1 hd).1 (a1.trans a2.symm)
    subst hjj
    obtain rfl := Option.some.inj (h2.symm.trans hj2)
    have hsame : (ents E).modify j' (fun e => { e with key := key }) = ents E := by
      rw [modify_eq_set _ _ _ _ h2]
      exact set_self _ _ _ h2
    simp [Instr.mapEntry, run_underlying ht, MapKept.run_getObj_map hb, K.check w false hkey, h1, hj2, K.stays w hkey, hsame, MapKept.run_setObj_map _ hb, Result.andThen, setBlock]
theorem store_run (hb : At w b E) {j : Nat} {key v0 : Value} (hj : E[j]? = some (key, v0)) (v : Value) :
    (Instr.entryStore t (.map (some b)) (goInt j) v).run P w = .ok () (setBlock w b (.map (ents (E.set j (key, v))).toArray E.length)) := by
  have hj2 : (ents E)[j]? = some ⟨key, v0, j⟩ := by rw [ents_get, hj]; rfl
  have hl : j < E.length := (List.getElem?_eq_some_iff.1 hj).1
  have hidx : (ents E).toArray.findIdx? (fun e => ((e.born : Nat) : Int) == ((j : Nat) : Int)) = some j := by
    rw [findIdx_arr]
    exact findIdx_born (ents_nodup E) hj2
  have hmod : (ents E).toArray.modify j (fun e => { e with val := v }) = (ents (E.set j (key, v))).toArray := by
    apply Array.ext'
    rw [Array.toList_modify, modify_eq_set _ _ _ _ hj2, ents_set _ _ _ _ hl]
  simp [Instr.entryStore, MapKept.run_getObj_map hb, asInt, asIntOf, goInt, hidx, hmod, MapKept.run_setObj_map _ hb, Result.andThen, setBlock]
theorem at_set (hb : At w b E) {E' : List (Value × Value)} {n : Nat} (hn : n = E'.length) : At (setBlock w b (.map (ents E').toArray n)) b E' := by
  subst hn
  have hl : b < w.heap.size := (Array.getElem?_eq_some_iff.1 hb).1
  simp [At, setBlock, hl]
end
end Go.Proofs.YtgiaopmakkdojaaDoor.DedMap
namespace Go.Proofs.YtgiaopmakkdojaaDoor.G
namespace DD
open Go.Proofs.YtgiaopmakkdojaaDoor.G
/-- The sum of a text. -/
def crcS (s : ByteArray) : Int := (crc_Sum.f s).getD 0
def txt (l : List ByteArray) (i : Nat) : ByteArray := l.getD i ByteArray.empty
/-- The first text that is like the i-th. -/
def firstOf (l : List ByteArray) (i : Nat) : Nat := l.findIdx fun s => decide (s = txt l i)
theorem txt_get (l : List ByteArray) {i : Nat} (h : i < l.length) : txt l i = l[i] := by unfold txt; rw [List.getD_eq_getElem?_getD, List.getElem?_eq_getElem h]; rfl
theorem firstOf_lt {l : List ByteArray} {i : Nat} (h : i < l.length) : firstOf l i < l.length := by
  unfold firstOf
  exact List.findIdx_lt_length_of_exists ⟨l[i], List.getElem_mem h, by rw [txt_get l h]; simp⟩
theorem firstOf_txt {l : List ByteArray} {i : Nat} (h : i < l.length) : txt l (firstOf l i) = txt l i := by
  have hlt := firstOf_lt h
  have := List.findIdx_getElem (w := hlt)
  rw [txt_get l hlt]
  exact of_decide_eq_true this
theorem firstOf_min {l : List ByteArray} {i j : Nat} (h : j < firstOf l i) (hj : j < l.length) : txt l j ≠ txt l i := by
  have := List.not_of_lt_findIdx h
  rw [txt_get l hj]
  simpa using this
theorem firstOf_le {l : List ByteArray} {i : Nat} (h : i < l.length) : firstOf l i ≤ i := by
  by_cases e : firstOf l i ≤ i
  · exact e
  · exact absurd rfl (firstOf_min (Nat.lt_of_not_le e) h)
theorem firstOf_congr {l : List ByteArray} {i j : Nat} (h : txt l i = txt l j) : firstOf l i = firstOf l j := by unfold firstOf; rw [h]
theorem firstOf_idem {l : List ByteArray} {i : Nat} (h : i < l.length) : firstOf l (firstOf l i) = firstOf l i := firstOf_congr (firstOf_txt h)
/-- The first ones as far as i that have one print. -/
def reps (l : List ByteArray) (i : Nat) (x n : Int) : List Int := ((List.range i).filter fun (j : Nat) => decide (firstOf l j = j ∧ crcS (txt l j) = x ∧ ((txt l j).size : Int) = n)).map fun (j : Nat) => (j : Int)
theorem reps_mem {l : List ByteArray} {i : Nat} {x n : Int} {z : Int} : z ∈ reps l i x n ↔ ∃ j : Nat, z = (j : Int) ∧ j < i ∧ firstOf l j = j ∧ crcS (txt l j) = x ∧ ((txt l j).size : Int) = n := by
  unfold reps
  rw [List.mem_map]
  constructor
  · rintro ⟨j, hj, rfl⟩
    obtain ⟨h1, h2⟩ := List.mem_filter.1 hj
    exact ⟨j, rfl, List.mem_range.1 h1, of_decide_eq_true h2⟩
  · rintro ⟨j, rfl, h1, h2⟩
    exact ⟨j, List.mem_filter.2 ⟨List.mem_range.2 h1, decide_eq_true h2⟩, rfl⟩
theorem reps_len (l : List ByteArray) (i : Nat) (x n : Int) : (reps l i x n).length ≤ i := by
  unfold reps
  rw [List.length_map]
  have := List.length_filter_le (fun (j : Nat) => decide (firstOf l j = j ∧ crcS (txt l j) = x ∧ ((txt l j).size : Int) = n)) (List.range i)
  rwa [List.length_range] at this
theorem reps_succ (l : List ByteArray) (i : Nat) (x n : Int) : reps l (i + 1) x n = reps l i x n ++ (if firstOf l i = i ∧ crcS (txt l i) = x ∧ ((txt l i).size : Int) = n then [(i : Int)] else []) := by
  unfold reps
  rw [List.range_succ, List.filter_append, List.map_append]
  congr 1
  by_cases h : firstOf l i = i ∧ crcS (txt l i) = x ∧ ((txt l i).size : Int) = n
  · rw [if_pos h, List.filter_cons_of_pos (by simpa using h)]; rfl
  · rw [if_neg h, List.filter_cons_of_neg (by simpa using h)]; rfl
/-- One that is alike stands among them just if there is one at all. -/
theorem reps_hit {l : List ByteArray} {i : Nat} (hi : i < l.length) {j : Nat} (h : (j : Int) ∈ reps l i (crcS (txt l i)) ((txt l i).size : Int)) (e : txt l j = txt l i) : firstOf l i = j := by
  obtain ⟨j', hj, _, hf, _⟩ := reps_mem.1 h
  have : j' = j := by omega
  subst this
  rw [← hf]
  exact firstOf_congr e.symm
theorem reps_miss {l : List ByteArray} {i : Nat} (hi : i < l.length) (h : ∀ z ∈ reps l i (crcS (txt l i)) ((txt l i).size : Int), txt l z.toNat ≠ txt l i) : firstOf l i = i := by
  have hle := firstOf_le hi
  by_cases e : firstOf l i = i
  · exact e
  · exfalso
    have hlt : firstOf l i < i := by omega
    have ht := firstOf_txt hi
    refine h (firstOf l i : Int) (reps_mem.2 ⟨firstOf l i, rfl, hlt, firstOf_idem hi, by rw [ht], by rw [ht]⟩) ?_
    rw [Int.toNat_natCast]
    exact ht
def firstsL (l : List ByteArray) : List Int := (List.range l.length).map fun i => (firstOf l i : Int)
def outL (l : List ByteArray) (i : Nat) : List Int := (List.range l.length).map fun j => if j < i then (firstOf l j : Int) else 0
theorem outL_length (l : List ByteArray) (i : Nat) : (outL l i).length = l.length := by simp [outL]
theorem outL_zero (l : List ByteArray) : outL l 0 = List.replicate l.length 0 := by
  apply List.ext_getElem?
  intro j
  by_cases h : j < l.length
  · simp [outL, h]
  · rw [List.getElem?_eq_none (by rw [outL_length]; omega), List.getElem?_eq_none (by simp; omega)]
theorem outL_all (l : List ByteArray) : outL l l.length = firstsL l := by
  unfold outL firstsL
  apply List.map_congr_left
  intro j hj
  rw [if_pos (List.mem_range.1 hj)]
theorem outL_set (l : List ByteArray) (i : Nat) : (outL l i).set i (firstOf l i : Int) = outL l (i + 1) := by
  apply List.ext_getElem?
  intro j
  by_cases h : j < l.length
  · by_cases e : j = i
    · subst e
      rw [List.getElem?_set_self (by rw [outL_length]; exact h)]
      simp [outL, h]
    · rw [List.getElem?_set_ne (fun e' => e e'.symm)]
      have : (j < i + 1) = (j < i) := by apply propext; omega
      simp only [outL, List.getElem?_map, List.getElem?_range h, Option.map_some, this]
  · rw [List.getElem?_eq_none (by rw [List.length_set, outL_length]; omega), List.getElem?_eq_none (by rw [outL_length]; omega)]
end DD
end Go.Proofs.YtgiaopmakkdojaaDoor.G
namespace Go.Proofs.YtgiaopmakkdojaaDoor.G
open Go.RowKit Go.Proofs.YtgiaopmakkdojaaDoorW.PrintWords Go.Proofs.YtgiaopmakkdojaaDoorW.PrintLast Go.Proofs.YtgiaopmakkdojaaDoorW.PrintMore
open DD DedMap Go.ChangeMaps
set_option linter.unusedVariables false
set_option linter.unusedSimpArgs false
theorem lawK : Go.WideMaps.KeyLaw Tryd.prog 35 := Go.deep_law_laid (by kernel_rfl) (m := 5) (by decide) (of_decide_eq_true (by kernel_rfl)) (by kernel_rfl) (by kernel_rfl)
/-- A key. -/
def kv (cs n : Int) : Value := .agg #[.int .u32 cs, .int .i64 n]
def kwf (cs n : Int) : Prop := (Lit.int .u32 cs).wf = true ∧ (Lit.int .i64 n).wf = true
theorem kv_key {cs n : Int} (h : kwf cs n) : ∃ l, keyOf Tryd.prog 35 (kv cs n) = some l := by
  obtain ⟨h1, h2⟩ := h
  have e1 : ∀ d, Tryd.prog.keyLits (d + 1) 27 [.int .u32 cs] = some [.int .u32 cs] := by
    intro d
    unfold Program.keyLits
    rw [Tryd.underlying27]
    simp [h1]
  have e2 : ∀ d, Tryd.prog.keyLits (d + 1) 3 [.int .i64 n] = some [.int .i64 n] := by
    intro d
    unfold Program.keyLits
    rw [Tryd.underlying3]
    simp [h2]
  have c1 : Tryd.prog.cellsOf 35 = 2 := by kernel_rfl
  have c2 : Tryd.prog.cellsOf 27 = 1 := by kernel_rfl
  have c3 : Tryd.prog.cellsOf 3 = 1 := by kernel_rfl
  have e3 : ∀ d, Tryd.prog.keyLits (d + 2) 35 [.int .u32 cs, .int .i64 n] = some [.int .u32 cs, .int .i64 n] := by
    intro d
    unfold Program.keyLits
    rw [Tryd.underlying35]
    simp [c1, c2, c3, e1, e2]
  have e4 : ∃ d, Tryd.prog.types.size + 1 = d + 2 := ⟨_, rfl⟩
  obtain ⟨d, hd⟩ := e4
  have e5 : Tryd.prog.keyType 35 = true := by kernel_rfl
  have e6 : (kv cs n).formed Tryd.prog 35 = true := by kernel_rfl
  refine ⟨.string (keyBytes [.int .u32 cs, .int .i64 n]), ?_⟩
  unfold keyOf
  rw [Tryd.underlying35]
  dsimp only
  rw [e5, e6, hd]
  have e7 : (kv cs n).cells.toList = [.int .u32 cs, .int .i64 n] := rfl
  rw [e7, e3 d]
  rfl
theorem kv_inj {a b c d : Int} (h : kv a b = kv c d) : a = c ∧ b = d := by
  unfold kv at h
  injection h with h
  have h2 := congrArg Array.toList h
  simp at h2
  exact h2
/-- What is kept when i texts are done: the map's entries E, each with a row of its own. -/
structure Seen (l : List ByteArray) (i b gm go : Nat) (W : World) (E : List (Value × Value)) : Prop where
  at_ : DedMap.At W gm E
  nd : (E.map (·.1)).Nodup
  each : ∀ (j : Nat) (key v : Value), E[j]? = some (key, v) → ∃ cs n : Int, key = kv cs n ∧ kwf cs n ∧ reps l i cs n ≠ [] ∧ Kd.R (Kd.int .i64) 3 W b (fun k => k ≠ gm ∧ k ≠ go) v (reps l i cs n)
  apart : ∀ (j j' : Nat) (key v key' v' : Value), E[j]? = some (key, v) → E[j']? = some (key', v') → j ≠ j' → ∀ x, v.ownBlock = some x → v'.ownBlock ≠ some x
  none_ : ∀ cs n : Int, (∀ x ∈ E, x.1 ≠ kv cs n) → reps l i cs n = []
theorem Seen.keys {l i b gm go W E} (h : Seen l i b gm go W E) : ∀ x ∈ E, ∃ q, keyOf Tryd.prog 35 x.1 = some q := by
  intro x hx
  obtain ⟨j, hj⟩ := List.mem_iff_getElem?.1 hx
  obtain ⟨cs, n, hk, hw, _⟩ := h.each j x.1 x.2 hj
  rw [hk]
  exact kv_key hw
/-- Blocks that are not the map's stay. -/
theorem Seen.step {l i b gm go W W' E} (h : Seen l i b gm go W E) (hk : ∀ k, k < W.heap.size → k ≠ go → W'.heap[k]? = W.heap[k]?) (hgo : gm ≠ go) : Seen l i b gm go W' E where
  at_ := by
    have hl : gm < W.heap.size := (Array.getElem?_eq_some_iff.1 h.at_).1
    exact (hk gm hl hgo).trans h.at_
  nd := h.nd
  each := fun j key v hj => by
    obtain ⟨cs, n, e1, ew, e2, e3⟩ := h.each j key v hj
    exact ⟨cs, n, e1, ew, e2, Kd.R_step e3 (fun k ho hlt => hk k hlt ho.2)⟩
  apart := h.apart
  none_ := h.none_
theorem Seen.below {l i b gm go W W' E} (h : Seen l i b gm go W E) (hk : Below W.heap.size W W') (hgo : gm ≠ go) : Seen l i b gm go W' E := h.step (fun k hl _ => hk.block k hl) hgo
theorem reps_skip {l : List ByteArray} {i : Nat} (h : firstOf l i ≠ i) (x n : Int) : reps l (i + 1) x n = reps l i x n := by
  rw [reps_succ, if_neg (fun e => h e.1), List.append_nil]
theorem reps_other {l : List ByteArray} {i : Nat} {x n : Int} (h : crcS (txt l i) ≠ x ∨ ((txt l i).size : Int) ≠ n) : reps l (i + 1) x n = reps l i x n := by
  rw [reps_succ, if_neg (fun e => h.elim (fun h => h e.2.1) (fun h => h e.2.2)), List.append_nil]
theorem reps_own {l : List ByteArray} {i : Nat} (h : firstOf l i = i) : reps l (i + 1) (crcS (txt l i)) ((txt l i).size : Int) = reps l i (crcS (txt l i)) ((txt l i).size : Int) ++ [(i : Int)] := by
  rw [reps_succ, if_pos ⟨h, rfl, rfl⟩]
theorem Seen.skip {l i b gm go W E} (h : Seen l i b gm go W E) (hf : firstOf l i ≠ i) : Seen l (i + 1) b gm go W E where
  at_ := h.at_
  nd := h.nd
  each := fun j key v hj => by
    obtain ⟨cs, n, e1, ew, e2, e3⟩ := h.each j key v hj
    exact ⟨cs, n, e1, ew, by rw [reps_skip hf]; exact e2, by rw [reps_skip hf]; exact e3⟩
  apart := h.apart
  none_ := fun cs n hn => by rw [reps_skip hf]; exact h.none_ cs n hn
theorem R_hasblock {W : World} {b : Nat} {ok : Nat → Prop} {v : Value} {xs : List Int} (h : Kd.R (Kd.int .i64) 3 W b ok v xs) (hn : xs ≠ []) : ∃ x, v.ownBlock = some x ∧ x < W.heap.size ∧ ok x := by
  obtain ⟨g, c, e, hb, hl, _⟩ := Kd.R_form h (List.length_pos_iff.2 hn)
  subst e
  exact ⟨g, by simp [Value.ownBlock], hl, h.1 g (by simp [Value.ownBlock])⟩
/-- A new key. -/
theorem Seen.snoc {l i b gm go W W' E} (h : Seen l i b gm go W E) (hf : firstOf l i = i) (hwf : kwf (crcS (txt l i)) ((txt l i).size : Int)) {v : Value}
    (hn : ∀ x ∈ E, x.1 ≠ kv (crcS (txt l i)) ((txt l i).size : Int))
    (ha : DedMap.At W' gm (E ++ [(kv (crcS (txt l i)) ((txt l i).size : Int), v)]))
    (hR : Kd.R (Kd.int .i64) 3 W' b (fun k => k ≠ gm ∧ k ≠ go) v [(i : Int)])
    (hv : ∀ x, v.ownBlock = some x → W.heap.size ≤ x)
    (hk : ∀ k, k < W.heap.size → k ≠ gm → k ≠ go → W'.heap[k]? = W.heap[k]?) : Seen l (i + 1) b gm go W' (E ++ [(kv (crcS (txt l i)) ((txt l i).size : Int), v)]) where
  at_ := ha
  nd := by
    rw [List.map_append]
    refine List.nodup_append.2 ⟨h.nd, by simp, fun a ha c hc e1 => ?_⟩
    obtain ⟨x, hx, rfl⟩ := List.mem_map.1 ha
    simp only [List.map_cons, List.map_nil, List.mem_singleton] at hc
    exact hn x hx (e1.trans hc)
  each := fun j key u hj => by
    rcases Nat.lt_trichotomy j E.length with hl | hl | hl
    · rw [List.getElem?_append_left hl] at hj
      obtain ⟨cs, n, e1, ew, e2, e3⟩ := h.each j key u hj
      have hne : crcS (txt l i) ≠ cs ∨ ((txt l i).size : Int) ≠ n := by
        by_cases c1 : crcS (txt l i) = cs
        · by_cases c2 : ((txt l i).size : Int) = n
          · exact absurd (e1.trans (by rw [c1, c2])) (hn _ (List.mem_of_getElem? hj))
          · exact .inr c2
        · exact .inl c1
      exact ⟨cs, n, e1, ew, by rw [reps_other hne]; exact e2, by rw [reps_other hne]; exact Kd.R_step e3 (fun k ho hlt => hk k hlt ho.1 ho.2)⟩
    · subst hl
      rw [List.getElem?_append_right (Nat.le_refl _), Nat.sub_self] at hj
      obtain ⟨rfl, rfl⟩ : kv (crcS (txt l i)) ((txt l i).size : Int) = key ∧ v = u := by simpa using hj
      refine ⟨_, _, rfl, hwf, ?_, ?_⟩
      · rw [reps_own hf]; simp
      · rw [reps_own hf, h.none_ _ _ hn]; exact hR
    · rw [List.getElem?_eq_none (by simp; omega)] at hj
      cases hj
  apart := fun j j' key u key' u' hj hj' hne x hx hx' => by
    have hle : ∀ (j : Nat) (key u : Value), (E ++ [(kv (crcS (txt l i)) ((txt l i).size : Int), v)])[j]? = some (key, u) → (E[j]? = some (key, u) ∧ j < E.length) ∨ (j = E.length ∧ u = v) := by
      intro j key u hj
      rcases Nat.lt_trichotomy j E.length with hl | hl | hl
      · exact .inl ⟨by rwa [List.getElem?_append_left hl] at hj, hl⟩
      · subst hl
        rw [List.getElem?_append_right (Nat.le_refl _), Nat.sub_self] at hj
        have : kv (crcS (txt l i)) ((txt l i).size : Int) = key ∧ v = u := by simpa using hj
        exact .inr ⟨rfl, this.2.symm⟩
      · rw [List.getElem?_eq_none (by simp; omega)] at hj
        cases hj
    have hold : ∀ (j : Nat) (key u : Value), E[j]? = some (key, u) → ∀ x, u.ownBlock = some x → x < W.heap.size := by
      intro j key u hj x hx
      obtain ⟨cs, n, _, _, e2, e3⟩ := h.each j key u hj
      obtain ⟨y, hy, hlt, _⟩ := R_hasblock e3 e2
      rw [hx] at hy
      injection hy with hy
      omega
    rcases hle j key u hj with ⟨a1, a2⟩ | ⟨a1, a2⟩ <;> rcases hle j' key' u' hj' with ⟨b1, b2⟩ | ⟨b1, b2⟩
    · exact h.apart j j' key u key' u' a1 b1 hne x hx hx'
    · have := hold j key u a1 x hx
      have := hv x (by rw [← b2]; exact hx')
      omega
    · have := hold j' key' u' b1 x hx'
      have := hv x (by rw [← a2]; exact hx)
      omega
    · omega
  none_ := fun cs n hnn => by
    have hne : crcS (txt l i) ≠ cs ∨ ((txt l i).size : Int) ≠ n := by
      by_cases c1 : crcS (txt l i) = cs
      · by_cases c2 : ((txt l i).size : Int) = n
        · exact absurd (show kv (crcS (txt l i)) ((txt l i).size : Int) = kv cs n by rw [c1, c2]) (hnn (kv (crcS (txt l i)) ((txt l i).size : Int), v) (by simp))
        · exact .inr c2
      · exact .inl c1
    rw [reps_other hne]
    exact h.none_ cs n (fun x hx => hnn x (List.mem_append_left _ hx))
/-- A key that was there. -/
theorem Seen.set_ {l i b gm go W W' E} (h : Seen l i b gm go W E) (hf : firstOf l i = i) (hwf : kwf (crcS (txt l i)) ((txt l i).size : Int)) {j : Nat} {v0 v : Value}
    (hj : E[j]? = some (kv (crcS (txt l i)) ((txt l i).size : Int), v0))
    (ha : DedMap.At W' gm (E.set j (kv (crcS (txt l i)) ((txt l i).size : Int), v)))
    (hR : Kd.R (Kd.int .i64) 3 W' b (fun k => k ≠ gm ∧ k ≠ go) v (reps l i (crcS (txt l i)) ((txt l i).size : Int) ++ [(i : Int)]))
    (hv : v.ownBlock = v0.ownBlock ∨ ∃ x, v.ownBlock = some x ∧ W.heap.size ≤ x)
    (hk : ∀ k, k < W.heap.size → k ≠ gm → k ≠ go → some k ≠ v0.ownBlock → W'.heap[k]? = W.heap[k]?) : Seen l (i + 1) b gm go W' (E.set j (kv (crcS (txt l i)) ((txt l i).size : Int), v)) where
  at_ := ha
  nd := by
    have : (E.set j (kv (crcS (txt l i)) ((txt l i).size : Int), v)).map (·.1) = E.map (·.1) := by
      rw [List.map_set]
      apply Go.WideElems.set_self
      rw [List.getElem?_map, hj]; rfl
    rw [this]
    exact h.nd
  each := fun j' key u hj' => by
    by_cases e : j' = j
    · subst e
      rw [List.getElem?_set_self (List.getElem?_eq_some_iff.1 hj).1] at hj'
      obtain ⟨rfl, rfl⟩ : kv (crcS (txt l i)) ((txt l i).size : Int) = key ∧ v = u := by simpa using hj'
      refine ⟨_, _, rfl, hwf, ?_, ?_⟩
      · rw [reps_own hf]; simp
      · rw [reps_own hf]; exact hR
    · rw [List.getElem?_set_ne (fun h => e h.symm)] at hj'
      obtain ⟨cs, n, e1, ew, e2, e3⟩ := h.each j' key u hj'
      have hne : crcS (txt l i) ≠ cs ∨ ((txt l i).size : Int) ≠ n := by
        by_cases c1 : crcS (txt l i) = cs
        · by_cases c2 : ((txt l i).size : Int) = n
          · exfalso
            subst c1 c2
            have a1 : (E.map (·.1))[j']? = some key := by rw [List.getElem?_map, hj']; rfl
            have a2 : (E.map (·.1))[j]? = some key := by rw [List.getElem?_map, hj, e1]; rfl
            have l1 := (List.getElem?_eq_some_iff.1 a1).1
            exact e ((List.getElem?_inj l1 h.nd).1 (a1.trans a2.symm))
          · exact .inr c2
        · exact .inl c1
      obtain ⟨y, hy, hlt, _⟩ := R_hasblock e3 e2
      refine ⟨cs, n, e1, ew, by rw [reps_other hne]; exact e2, ?_⟩
      rw [reps_other hne]
      refine Kd.R_mono (Kd.R_step (Kd.R_mono (Kd.R_tight2 rfl e3) (ok' := fun k => k ≠ gm ∧ k ≠ go ∧ some k ≠ v0.ownBlock) (fun k hk => ⟨hk.2.1, hk.2.2, fun hh => ?_⟩)) (fun k ho hlt => hk k hlt ho.1 ho.2.1 ho.2.2)) (fun k hk => ⟨hk.1, hk.2.1⟩)
      exact h.apart j' j key u _ v0 hj' hj e k hk.1.symm hh.symm
  apart := fun p p' key u key' u' hp hp' hne x hx hx' => by
    have hold : ∀ (j : Nat) (key u : Value), E[j]? = some (key, u) → ∀ x, u.ownBlock = some x → x < W.heap.size := by
      intro j key u hj x hx
      obtain ⟨cs, n, _, _, e2, e3⟩ := h.each j key u hj
      obtain ⟨y, hy, hlt, _⟩ := R_hasblock e3 e2
      rw [hx] at hy
      injection hy with hy
      omega
    by_cases e : p = j
    · subst e
      rw [List.getElem?_set_self (List.getElem?_eq_some_iff.1 hj).1] at hp
      rw [List.getElem?_set_ne hne] at hp'
      obtain ⟨_, rfl⟩ : kv (crcS (txt l i)) ((txt l i).size : Int) = key ∧ v = u := by simpa using hp
      rcases hv with hv | ⟨y, hy, hle⟩
      · exact h.apart p p' _ v0 _ u' hj hp' hne x (by rw [← hv]; exact hx) hx'
      · rw [hx] at hy
        injection hy with hy
        have := hold p' _ u' hp' x hx'
        omega
    · rw [List.getElem?_set_ne (fun h => e h.symm)] at hp
      by_cases e' : p' = j
      · subst e'
        rw [List.getElem?_set_self (List.getElem?_eq_some_iff.1 hj).1] at hp'
        obtain ⟨_, rfl⟩ : kv (crcS (txt l i)) ((txt l i).size : Int) = key' ∧ v = u' := by simpa using hp'
        rcases hv with hv | ⟨y, hy, hle⟩
        · exact h.apart p p' _ u _ v0 hp hj hne x hx (by rw [← hv]; exact hx')
        · rw [hx'] at hy
          injection hy with hy
          have := hold p _ u hp x hx
          omega
      · rw [List.getElem?_set_ne (fun h => e' h.symm)] at hp'
        exact h.apart p p' _ u _ u' hp hp' hne x hx hx'
  none_ := fun cs n hnn => by
    have hl := (List.getElem?_eq_some_iff.1 hj).1
    have hne : crcS (txt l i) ≠ cs ∨ ((txt l i).size : Int) ≠ n := by
      by_cases c1 : crcS (txt l i) = cs
      · by_cases c2 : ((txt l i).size : Int) = n
        · exact absurd (show kv (crcS (txt l i)) ((txt l i).size : Int) = kv cs n by rw [c1, c2]) (hnn (kv (crcS (txt l i)) ((txt l i).size : Int), v) (List.mem_of_getElem? (List.getElem?_set_self hl)))
        · exact .inr c2
      · exact .inl c1
    rw [reps_other hne]
    refine h.none_ cs n (fun x hx hxk => ?_)
    obtain ⟨p, hp⟩ := List.mem_iff_getElem?.1 hx
    by_cases e : p = j
    · subst e
      rw [hj] at hp
      injection hp with hp
      rw [← hp] at hxk
      obtain ⟨q1, q2⟩ := kv_inj hxk
      exact hne.elim (fun h => h q1) (fun h => h q2)
    · exact hnn x (List.mem_of_getElem? (by rw [List.getElem?_set_ne (fun h => e h.symm)]; exact hp)) hxk
theorem Seen.start {l b go} (W : World) (gm : Nat) (h : W.heap[gm]? = some (.map #[] 0)) : Seen l 0 b gm go W [] where
  at_ := h
  nd := by simp
  each := fun j key v hj => by simp at hj
  apart := fun j j' key v key' v' hj => by simp at hj
  none_ := fun cs n _ => by simp [reps]
end Go.Proofs.YtgiaopmakkdojaaDoor.G
