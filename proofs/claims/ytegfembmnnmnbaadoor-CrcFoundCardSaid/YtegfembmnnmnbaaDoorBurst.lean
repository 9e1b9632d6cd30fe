/- The contract of caulklaw01.burst over this seat's program: bytes in which up to 32 bits in a row were turned. Condition: the sizes. -/
import Derived.Test.YtegfembmnnmnbaaDoorCrcAdd
import Derived.Lib.ConvBytes
import Derived.StillTailTactics
namespace Go.Proofs.YtegfembmnnmnbaaDoor.G
open Go.RowKit Go.Proofs.YtegfembmnnmnbaaDoorW.PrintWords Go.Proofs.YtegfembmnnmnbaaDoorW.PrintLast Go.Proofs.YtegfembmnnmnbaaDoorW.PrintMore
set_option linter.unusedVariables false
set_option linter.unusedSimpArgs false

def turn (l : List Int) (p : Nat) : List Int := l.set (p / 8) (Go.bits .xor .u8 (l.getD (p / 8) 0) ((2 ^ (p % 8) : Nat) : Int))
def turns (b bit : Nat) (l : List Int) : Nat → List Int
  | 0 => l
  | i + 1 => if b / 2 ^ i % 2 = 1 ∧ bit + i < 8 * l.length then turn (turns b bit l i) (bit + i) else turns b bit l i
theorem turns_length (b bit : Nat) (l : List Int) : ∀ i, (turns b bit l i).length = l.length
  | 0 => rfl
  | i + 1 => by
    simp only [turns]
    split
    · simp [turn, turns_length b bit l i]
    · exact turns_length b bit l i
def caulklaw01_burst.f (s : ByteArray) (bit b : Int) : Option ByteArray :=
  if 0 ≤ bit ∧ bit < 1099511627776 ∧ 0 ≤ b ∧ b ≤ 4294967295 ∧ s.size ≤ 1099511627776 then some (strOfNums (turns b.toNat bit.toNat (bytesOf s) 32)) else none

/-- What the round keeps: the row's cells, none of them marked. -/
def Row8 (g : Nat) (xs : List Int) (w : World) : Prop := ∀ j, j < xs.length → w.cell? ⟨g, j, none⟩ = some (.int .u8 (xs.getD j 0)) ∧ w.frozen? ⟨g, j, none⟩ = false

theorem turn_yes {c n k : Nat} {l : List Int} (h : c / 2 ^ k % 2 = 1) (h2 : n + k < 8 * l.length) : turns c n l (k + 1) = turn (turns c n l k) (n + k) := if_pos ⟨h, h2⟩
theorem turn_no {c n k : Nat} {l : List Int} (h : ¬ (c / 2 ^ k % 2 = 1 ∧ n + k < 8 * l.length)) : turns c n l (k + 1) = turns c n l k := if_neg h
theorem bit_iff {c k : Nat} {q : Int} (hc : (c : Int) ≤ 4294967295) (hq : (c : Int) / 2 ^ k = q) : Go.bits .and .u32 q 1 = 1 ↔ c / 2 ^ k % 2 = 1 := by
  have e : q = ((c / 2 ^ k : Nat) : Int) := by rw [← hq]; simp
  have hle : c / 2 ^ k ≤ c := Nat.div_le_self _ _
  have hle2 : ((c / 2 ^ k : Nat) : Int) < 2 ^ 32 := by
    clear e hq
    generalize c / 2 ^ k = m at *
    omega
  have := Go.bits_mask .u32 32 (by decide) (fun n h0 h1 => by rw [IntKind.wrap_u32]; omega) 1 (by decide) ((c / 2 ^ k : Nat) : Int) (Int.natCast_nonneg _) hle2
  rw [show ((2 : Int) ^ 1 - 1) = 1 from rfl] at this
  rw [e, this]
  clear this e hq hle
  generalize c / 2 ^ k = m
  omega
theorem Row8.turned {g : Nat} {xs : List Int} {w : World} (h : Row8 g xs w) {p : Nat} (hp : p / 8 < xs.length) {v : Int} (hv : v = Go.bits .xor .u8 (xs.getD (p / 8) 0) ((2 ^ (p % 8) : Nat) : Int)) : Row8 g (turn xs p) (w.setCell ⟨g, p / 8, none⟩ (.int .u8 v)) := by
  intro j hj
  have hj' : j < xs.length := by simpa [turn] using hj
  obtain ⟨a, b⟩ := h j hj'
  refine ⟨?_, by rw [World.frozen?_setCell]; exact b⟩
  unfold turn
  by_cases e : j = p / 8
  · subst e
    rw [World.cell?_setCell_same _ _ _ a, hv]
    simp [List.getD_eq_getElem?_getD, List.getElem?_set, hp]
  · rw [World.cell?_setCell_other _ _ _ _ (by intro h'; injection h' with _ h''; exact e h''.symm), a]
    simp [List.getD_eq_getElem?_getD, List.getElem?_set, Ne.symm e]
theorem Row8.drew {g : Nat} {xs : List Int} {w : World} (h : Row8 g xs w) : Row8 g xs w.drew := h

set_option maxHeartbeats 4000000 in
set_option maxRecDepth 100000 in
theorem caulklaw01_burst.calls (s : ByteArray) (bit b : Int) (r : ByteArray) (w : World) (h : caulklaw01_burst.f s bit b = some r) :
    Calls Tryd.prog 20 #[.string s, .int .i64 bit, .int .u32 b] w fun e w' => e = .returned (.string r) ∧ Below w.heap.size w w' := by
  unfold caulklaw01_burst.f at h
  by_cases hc : 0 ≤ bit ∧ bit < 1099511627776 ∧ 0 ≤ b ∧ b ≤ 4294967295 ∧ s.size ≤ 1099511627776
  · rw [if_pos hc] at h
    obtain rfl := Option.some.inj h
    clear h
    obtain ⟨h0, h1, h2, h3, hs⟩ := hc
    obtain ⟨n, rfl⟩ := Int.eq_ofNat_of_zero_le h0
    obtain ⟨c, rfl⟩ := Int.eq_ofNat_of_zero_le h2
    simp only [Int.toNat_natCast]
    obtain ⟨l, hl⟩ : ∃ l, l = bytesOf s := ⟨_, rfl⟩
    have hlen : l.length = s.size := by rw [hl]; exact bytesOf_length s
    rw [← hl]
    have kb := fun W => print_bytes (P := Tryd.prog) 9 35 5 Tryd.underlying9 Tryd.underlying35 Tryd.underlying5 s W
    have start : Row8 w.heap.size l (Lib.bytesWorld w 5 s) := by
      intro j hj
      rw [hlen] at hj
      refine ⟨?_, ?_⟩
      · rw [Lib.bytesWorld_cell w 5 s j hj, hl]
        have h' : j < s.data.toList.length := by rw [data_length]; exact hj
        simp [bytesOf, List.getD_eq_getElem?_getD, List.getElem?_eq_getElem h']
      · have hn := Lib.bytesWorld_at_new w 5 s
        have hsz : s.size ≤ (Lib.bytesCells w 5 s).size := by simp [Lib.bytesCells]
        simp [World.frozen?, hn]
        omega
    have hb := bytes_below (Below.refl w.heap.size w) (Nat.le_refl _) 5 s
    have start' := Lib.hid start
    have hb' := Lib.hid hb
    clear start hb
    go_enter Tryd.func20, Tryd.ntmps20
    go_wp2
    clear kb
    clear hl
    go_loopw [8] (fun i wr => ∃ k : Nat, k ≤ 32 ∧ i = .int .i64 k ∧ Row8 w.heap.size (turns c n l k) wr ∧ Below w.heap.size w wr) (fun i _ => 32 - (intOf i).toNat)
    case atStart => exact ⟨0, by omega, rfl, start'.out, hb'.out⟩
    case round =>
      obtain ⟨k, hk, rfl, hrow, hbel⟩ := hrel
      have HR := Lib.hid hrow
      have HB := Lib.hid hbel
      clear hrow hbel start' hb'
      by_cases hlt : k < 32
      · have e1 : IntKind.i64.wrap ((n : Int) + k) = ((n + k : Nat) : Int) := by rw [IntKind.wrap_i64]; omega
        have e2 : IntKind.i64.wrap (8 * (s.size : Int)) = ((8 * s.size : Nat) : Int) := by rw [IntKind.wrap_i64]; omega
        have c1 : decide ((k : Int) < 32) = true := decide_eq_true (by omega)
        have c2 : (k : Int) < 32 := by omega
        have HK := Lib.hid hk
        have HL := Lib.hid hlt
        have H1 := Lib.hid h1
        have H3 := Lib.hid h3
        have HS := Lib.hid hs
        have HLEN := Lib.hid hlen
        clear hk hlt h0 h1 h2 h3 hs hlen
        obtain ⟨q, hq⟩ : ∃ q : Int, (c : Int) / 2 ^ k = q := ⟨_, rfl⟩
        by_cases c3 : Go.bits .and .u32 q 1 = 1
        · have c3b : (Go.bits .and .u32 q 1 == 1) = true := beq_iff_eq.mpr c3
          have C3 := Lib.hid c3
          clear c3
          by_cases c4 : (n : Int) + k < 8 * s.size
          · have c4b : decide ((n : Int) + k < 8 * s.size) = true := decide_eq_true c4
            have C4 := Lib.hid c4
            clear c4
            have c5 : Int.tdiv ((n : Int) + k) 8 = (((n + k) / 8 : Nat) : Int) := by rw [Int.tdiv_eq_ediv_of_nonneg (by omega)]; omega
            have c6 : Int.tmod ((n : Int) + k) 8 = (((n + k) % 8 : Nat) : Int) := by rw [Int.tmod_eq_emod_of_nonneg (by omega)]; omega
            have c7 : (n + k) / 8 < s.size := by have := C4.out; omega
            have c8 := (HR.out ((n + k) / 8) (by rw [turns_length, HLEN.out]; exact c7))
            have c9 := c8.1
            have c10 := c8.2
            clear c8
            have hp : (n + k) % 8 < 8 := Nat.mod_lt _ (by decide)
            obtain ⟨P, hP⟩ : ∃ P, P = (n + k) / 8 := ⟨_, rfl⟩
            obtain ⟨R, hR⟩ : ∃ R, R = (n + k) % 8 := ⟨_, rfl⟩
            rw [← hP] at c5 c7 c9 c10
            rw [← hR] at c6 hp
            have HP := Lib.hid hP
            have HR8 := Lib.hid hR
            clear hP hR
            have c11 : IntKind.i64.wrap (P : Int) = P := by rw [IntKind.wrap_i64]; have := HS.out; omega
            have c12 : IntKind.i64.wrap (R : Int) = R := by rw [IntKind.wrap_i64]; omega
            have c13 : (P : Int) < s.size := by omega
            have c14 : ∀ d, World.cell? { heap := wr.heap, tape := wr.tape, drawn := d, os := wr.os, output := wr.output } ⟨w.heap.size, P, none⟩ = some (.int .u8 ((turns c n l k).getD P 0)) := fun _ => c9
            have c15 : ∀ d, World.frozen? { heap := wr.heap, tape := wr.tape, drawn := d, os := wr.os, output := wr.output } ⟨w.heap.size, P, none⟩ = false := fun _ => c10
            go_wp2
            go_still_tail 10, (by kernel_rfl)
            change wpList _ _ _ _ _ wr.drew
            obtain ⟨V, hV⟩ : ∃ V : Int, V = Go.bits .xor .u8 ((turns c n l k)[P]?.getD 0) (IntKind.u8.wrap (2 ^ R)) := ⟨_, rfl⟩
            rw [← hV]
            have row : Row8 w.heap.size (turns c n l (k + 1)) (wr.drew.setCell ⟨w.heap.size, P, none⟩ (.int .u8 V)) := by
              have hw : IntKind.u8.wrap (2 ^ R) = ((2 ^ R : Nat) : Int) := by
                rcases (by omega : R = 0 ∨ R = 1 ∨ R = 2 ∨ R = 3 ∨ R = 4 ∨ R = 5 ∨ R = 6 ∨ R = 7) with rfl | rfl | rfl | rfl | rfl | rfl | rfl | rfl <;> decide
              rw [turn_yes ((bit_iff H3.out hq).mp C3.out) (by have := C4.out; have := HLEN.out; omega)]
              have := Row8.turned (HR.out.drew) (p := n + k) (v := V) (by rw [turns_length, HLEN.out, ← HP.out]; exact c7) (by rw [hV, hw, ← HP.out, ← HR8.out, List.getD_eq_getElem?_getD])
              rw [← HP.out] at this
              exact this
            have bel : Below w.heap.size w (wr.drew.setCell ⟨w.heap.size, P, none⟩ (.int .u8 V)) := Below.setCell (below_drew1 HB.out) (Nat.le_refl _) _
            have ROW := Lib.hid row
            have BEL := Lib.hid bel
            have d9 : wr.drew.cell? ⟨w.heap.size, P, none⟩ = some (.int .u8 ((turns c n l k).getD P 0)) := c9
            have d10 : wr.drew.frozen? ⟨w.heap.size, P, none⟩ = false := c10
            clear row bel c9 c10 c14 c15 hV
            generalize wr.drew = w2 at *
            go_wp2
            go_roundw
            case rel => exact ⟨k + 1, by have := HL.out; omega, by go_num, ROW.out, BEL.out⟩
            case measure => have := HL.out; simp [intOf]; omega
          · have c4b : decide ((n : Int) + k < 8 * s.size) = false := decide_eq_false c4
            have C4 := Lib.hid c4
            clear c4
            go_wp2
            go_roundw
            case rel => exact ⟨k + 1, by have := HL.out; omega, by go_num, by rw [turn_no (by have := C4.out; have := HLEN.out; omega)]; exact HR.out, HB.out⟩
            case measure => have := HL.out; simp [intOf]; omega
        · have c3b : (Go.bits .and .u32 q 1 == 1) = false := by simpa using c3
          have C3 := Lib.hid c3
          clear c3
          go_wp2
          go_roundw
          case rel => exact ⟨k + 1, by have := HL.out; omega, by go_num, by rw [turn_no (fun h => C3.out ((bit_iff H3.out hq).mpr h.1))]; exact HR.out, HB.out⟩
          case measure => have := HL.out; simp [intOf]; omega
      · have c1 : decide ((k : Int) < 32) = false := decide_eq_false (by omega)
        have c2 : ¬ (k : Int) < 32 := by omega
        have HK := Lib.hid hk
        have HL := Lib.hid hlt
        have H1 := Lib.hid h1
        have H3 := Lib.hid h3
        have HS := Lib.hid hs
        have HLEN := Lib.hid hlen
        clear hk hlt h0 h1 h2 h3 hs hlen
        obtain rfl : k = 32 := by have := HK.out; have := HL.out; omega
        have cv : (convert 35 9 (.slice (some ⟨w.heap.size, 0, none⟩) s.size (grownCap w s.size 0 5))).run Tryd.prog wr = .ok (.string (strOfNums (turns c n l 32))) wr := by
          refine run_convert_bytes_arg wr 35 5 Tryd.underlying35 Tryd.underlying5 w.heap.size 0 s.size _ (turns c n l 32) (by rw [turns_length, HLEN.out]) (fun i hi => ?_) 9 Tryd.underlying9
          rw [Nat.zero_add]
          exact (HR.out i (by rw [turns_length, HLEN.out]; exact hi)).1
        go_wp2
        go_ret
        exact ⟨rfl, HB.out⟩
  · rw [if_neg hc] at h; cases h
end Go.Proofs.YtegfembmnnmnbaaDoor.G
