/- The contract of caulklaw04.put over this seat's program. Conditions: its own. -/
import Derived.Test.YtlobaomleocpjaaGfArr
namespace Go.Proofs.Ytlobaomleocpjaa.G
open Go.RowKit Go.Proofs.YtlobaomleocpjaaW.PrintWords Go.Proofs.YtlobaomleocpjaaW.PrintLast Go.Proofs.YtlobaomleocpjaaW.PrintMore
set_option linter.unusedVariables false
set_option linter.unusedSimpArgs false
/-- Two texts' bytes put together, as far as k rounds have come. -/
def putB (l s : List Int) : Nat → List Int
  | 0 => l
  | k + 1 => (putB l s k).set k (Go.bits .xor .u8 (l.getD k 0) (s.getD k 0))
theorem putB_length (l s : List Int) : ∀ k, (putB l s k).length = l.length
  | 0 => rfl
  | k + 1 => by simp [putB, putB_length l s k]
theorem putB_get (l s : List Int) : ∀ k j, k ≤ j → (putB l s k).getD j 0 = l.getD j 0
  | 0, _, _ => rfl
  | k + 1, j, h => by
    rw [← putB_get l s k j (by omega)]
    simp only [putB, List.getD_eq_getElem?_getD]
    rw [List.getElem?_set_ne (by omega)]
def caulklaw04_put.f (a0 a1 : ByteArray) : Option ByteArray := if a0.size ≤ 1099511627776 ∧ a1.size ≤ 1099511627776 then some (strOfNums (putB (bytesOf a0) (bytesOf a1) (min a0.size a1.size))) else none
set_option maxHeartbeats 4000000 in
set_option maxRecDepth 100000 in
theorem caulklaw04_put.calls (a0 a1 : ByteArray) (r : ByteArray) (w : World) (h : caulklaw04_put.f a0 a1 = some r) :
    Calls Try.prog 38 #[.string a0, .string a1] w fun e w' => e = .returned (.string r) ∧ Below w.heap.size w w' := by
  unfold caulklaw04_put.f at h
  by_cases hc : a0.size ≤ 1099511627776 ∧ a1.size ≤ 1099511627776
  · rw [if_pos hc] at h
    obtain rfl := Option.some.inj h
    clear h
    obtain ⟨hs, hs1⟩ := hc
    have HS := Aside0.mk hs
    have HS1 := Aside0.mk hs1
    clear hs hs1
    have kb := fun W => print_bytes (P := Try.prog) 9 37 5 Try.underlying9 Try.underlying37 Try.underlying5 a0 W
    obtain ⟨l, hl⟩ : ∃ l, l = bytesOf a0 := ⟨_, rfl⟩
    have hlen : l.length = a0.size := by rw [hl]; exact bytesOf_length a0
    have hrng : ∀ k, k < l.length → 0 ≤ l.getD k 0 ∧ l.getD k 0 ≤ 255 := by
      intro k hk
      have := bt_range a0 k
      rw [← rd_bytesOf] at this
      unfold rd at this
      rwa [Int.toNat_natCast, ← hl] at this
    rw [← hl]
    have HL := Aside0.mk hl
    have HLEN := Aside0.mk hlen
    have HRNG := Aside0.mk hrng
    clear hl hlen hrng
    have start := bytes_row w a0
    rw [← HL.out] at start
    have START := Aside0.mk start
    have HB2 := Aside0.mk (bytes_below (Below.refl w.heap.size w) (Nat.le_refl _) 5 a0)
    clear start
    go_enter Try.func38, Try.ntmps38
    go_wp2
    clear kb
    go_loopw [11] (fun i wr => ∃ k : Nat, k ≤ a0.size ∧ i = .int .i64 k ∧ Aside0 (RowB w.heap.size 0 (putB l (bytesOf a1) (min k a1.size)) wr) ∧ Aside0 (Below w.heap.size w wr)) (fun i _ => a0.size - (intOf i).toNat)
    case atStart => exact ⟨0, Nat.zero_le _, rfl, ⟨by simpa [putB] using START.out⟩, HB2⟩
    case round =>
      obtain ⟨k, hk, rfl, HR, HB⟩ := hrel
      have hsz := HS.out
      have hsz1 := HS1.out
      by_cases hlt : k < a0.size
      · have w0 : wrap64 ((k : Int) + 1) = (k : Int) + 1 := by unfold wrap64; omega
        by_cases hlt1 : k < a1.size
        · have em : min k a1.size = k := Nat.min_eq_left (Nat.le_of_lt hlt1)
          have em1 : min (k + 1) a1.size = k + 1 := Nat.min_eq_left hlt1
          obtain ⟨cc, cf⟩ := HR.out k (by rw [putB_length, HLEN.out]; exact hlt)
          rw [em, putB_get _ _ _ _ (Nat.le_refl _), Nat.zero_add] at cc
          rw [Nat.zero_add] at cf
          obtain ⟨x, hx⟩ : ∃ x, x = l.getD k 0 := ⟨_, rfl⟩
          rw [← hx] at cc
          have h2 := RowB.set_ HR.out k (by rw [putB_length, HLEN.out]; exact hlt) (Go.bits .xor .u8 x (a1[k].toNat : Int))
          have hsk : (bytesOf a1).getD k 0 = (a1[k].toNat : Int) := by
            have h' : k < a1.data.toList.length := by rw [data_length]; exact hlt1
            simp [bytesOf, List.getD_eq_getElem?_getD, List.getElem?_eq_getElem h']; rfl
          rw [em, hx, ← hsk, Nat.zero_add] at h2
          have H2 : Aside0 (RowB w.heap.size 0 (putB l (bytesOf a1) (min (k + 1) a1.size)) (wr.setCell ⟨w.heap.size, k, none⟩ (.int .u8 (Go.bits .xor .u8 x (a1[k].toNat : Int))))) := ⟨by rw [em1]; unfold putB; rw [hx, ← hsk]; exact h2⟩
          have b1 : decide ((k : Int) < (a1.size : Int)) = true := by simp; omega
          clear hx h2 hsk em em1
          go_wp2
          go_region
          all_goals
            go_wp2
            go_roundw
            case rel => exact ⟨k + 1, by omega, by go_num, ⟨by have := H2.out; exact fun j hj => this j hj⟩, ⟨HB.out.drew.setCell (p := ⟨w.heap.size, k, none⟩) (Nat.le_refl _) _⟩⟩
            case measure => simp [intOf]; omega
        · have em : min (k + 1) a1.size = min k a1.size := by omega
          have b1 : decide ((k : Int) < (a1.size : Int)) = false := by simp; omega
          have H2 : Aside0 (RowB w.heap.size 0 (putB l (bytesOf a1) (min (k + 1) a1.size)) wr) := ⟨by rw [em]; exact HR.out⟩
          clear em
          go_wp2
          go_roundw
          case rel => exact ⟨k + 1, by omega, by go_num, H2, HB⟩
          case measure => simp [intOf]; omega
      · have hke : k = a0.size := by omega
        have cv : (convert 37 9 (.slice (some ⟨w.heap.size, 0, none⟩) a0.size (grownCap w a0.size 0 5))).run Try.prog wr = .ok (.string (strOfNums (putB l (bytesOf a1) (min a0.size a1.size)))) wr := by
          refine run_convert_bytes_arg wr 37 5 Try.underlying37 Try.underlying5 w.heap.size 0 a0.size _ (putB l (bytesOf a1) (min a0.size a1.size)) (by rw [putB_length, HLEN.out]) (fun i hi => ?_) 9 Try.underlying9
          rw [← hke]
          have := (HR.out i (by rw [putB_length, HLEN.out]; exact hi)).1
          exact this
        clear hke
        go_wp2
        go_ret
        exact ⟨rfl, HB.out⟩
  · rw [if_neg hc] at h; cases h
end Go.Proofs.Ytlobaomleocpjaa.G
