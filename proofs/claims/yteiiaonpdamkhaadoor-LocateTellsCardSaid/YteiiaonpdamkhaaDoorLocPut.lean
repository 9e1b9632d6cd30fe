/- The contracts of gf.Put by cells (a row with a mark behind it) and of locate.put over this seat's program. Conditions: each lemma's own. -/
import Derived.Test.YteiiaonpdamkhaaDoorGfArr
namespace Go.Proofs.YteiiaonpdamkhaaDoor.G
open Go.RowKit Go.Proofs.YteiiaonpdamkhaaDoorW.PrintWords Go.Proofs.YteiiaonpdamkhaaDoorW.PrintLast Go.Proofs.YteiiaonpdamkhaaDoorW.PrintMore
set_option linter.unusedVariables false
set_option linter.unusedSimpArgs false
theorem RowB.below {g off : Nat} {xs : List Int} {w w1 : World} (h : RowB g off xs w) (hg : g < w.heap.size) (hb : Below w.heap.size w w1) : RowB g off xs w1 := by
  intro j hj
  obtain ⟨c, f⟩ := h j hj
  exact ⟨(hb.cell (p := ⟨g, off + j, none⟩) hg).trans c, (hb.frozen (p := ⟨g, off + j, none⟩) hg).trans f⟩
set_option maxHeartbeats 4000000 in
set_option maxRecDepth 100000 in
theorem put_cells (g off cap : Nat) (l : List Int) (c : Int) (s : ByteArray) (w : World) (hR : RowB g off l w) (hl : ∀ k, k < l.length → isB (l.getD k 0)) (hg : g < w.heap.size) (hcap : l.length ≤ cap)
    (hlen : l.length ≤ 1099511627776) (hs : s.size ≤ 1099511627776) (h0 : 0 ≤ c) (h1 : c ≤ 255) :
    Calls Tryd.prog 46 #[.slice (some ⟨g, off, none⟩) l.length cap, .int .u8 c, .string s] w fun e w' => e = .returned (.tuple #[]) ∧ w.grownBy w' (some g) ∧ RowB g off (putL c (bytesOf s) l (min l.length s.size)) w' := by
  have HR0 := Aside0.mk hR
  have HLR := Aside0.mk hl
  have HG := Aside0.mk hg
  have HC := Aside0.mk hcap
  have HLN := Aside0.mk hlen
  have HS := Aside0.mk hs
  have H0 := Aside0.mk h0
  have H1 := Aside0.mk h1
  clear hR hl hg hcap hlen hs h0 h1
  go_enter Tryd.func46, Tryd.ntmps46
  go_wp2_with (first | (go_at_call 60; refine (of_calls c _ H0.out H1.out).mono ?_; rintro e w1 ⟨rfl, hb⟩; have HB1 := Aside0.mk hb; clear hb) | (refine gf_store_new rfl 93 (.tmp 6) (.tmp 9) rfl _ rfl _ (tabV c 16) rfl rfl 93 (by rw [tabV_size]; kernel_rfl) (by rw [tabV_size]; rfl) (by simp [tabV, Value.oneCell']) ?_))
  have hr1 : RowB g off l (w1.alloc (.cells (tabV c 16) 93)) := HR0.out.below HG.out (below_alloc HB1.out _)
  have ht1 : TabAt (w1.alloc (.cells (tabV c 16) 93)) w1.heap.size c := blk_new w1 _
  have hg1 : w.grownBy (w1.alloc (.cells (tabV c 16) 93)) (some g) := grown_of_below (below_alloc HB1.out _) _
  have hw1 : g < w1.heap.size := Nat.lt_of_lt_of_le HG.out HB1.out.size
  have HR1 := Aside0.mk hr1
  have HT1 := Aside0.mk ht1
  have HG1 := Aside0.mk hg1
  have HW1 := Aside0.mk hw1
  clear hr1 ht1 hg1 hw1
  go_loopw [15] (fun i wr => ∃ k : Nat, k ≤ min l.length s.size ∧ i = .int .i64 k ∧ Aside0 (RowB g off (putL c (bytesOf s) l k) wr) ∧ Aside0 (TabAt wr w1.heap.size c) ∧ Aside0 (w.grownBy wr (some g))) (fun i _ => min l.length s.size - (intOf i).toNat)
  case atStart => exact ⟨0, Nat.zero_le _, rfl, HR1, HT1, HG1⟩
  case round =>
    obtain ⟨k, hk, rfl, HR, HT, HB⟩ := hrel
    have hln := HLN.out
    have hss := HS.out
    have hcp := HC.out
    by_cases hlt : k < min l.length s.size
    · have k1 : k < l.length := by omega
      have k2 : k < s.size := by omega
      have kpl : k < (putL c (bytesOf s) l k).length := by rw [putL_length]; exact k1
      obtain ⟨cc, cf⟩ := HR.out k kpl
      rw [putL_get _ _ _ _ _ (Nat.le_refl _)] at cc
      have KPL := Aside0.mk kpl
      obtain ⟨y, hy⟩ : ∃ y, y = l.getD k 0 := ⟨_, rfl⟩
      have hyb := HLR.out k k1
      rw [← hy] at cc hyb
      obtain ⟨y0, y1⟩ := hyb
      have HY := Aside0.mk hy
      clear hy kpl
      have x0 : (0 : Int) ≤ (s[k].toNat : Int) := by omega
      have x1 : (s[k].toNat : Int) ≤ 255 := by have := s[k].toNat_lt; omega
      have hsk : (bytesOf s).getD k 0 = (s[k].toNat : Int) := by
        have h' : k < s.data.toList.length := by rw [data_length]; exact k2
        simp [bytesOf, List.getD_eq_getElem?_getD, List.getElem?_eq_getElem h']; rfl
      have HSK := Aside0.mk hsk
      clear hsk
      have hlt2 : (k : Int) < min (l.length : Int) (s.size : Int) := by omega
      go_wp2
      go_region_with (go_at_call 61; refine (tmul_calls w1.heap.size c _ _ ?hT x0 x1).mono ?_; (case hT => exact HT); rintro e w2 ⟨rfl, ⟨nd, rfl⟩⟩)
      all_goals
        go_wp2
        go_roundw
        case rel =>
          have h2 := RowB.set_ HR.out k KPL.out (Go.bits .xor .u8 y (mulI c (s[k].toNat : Int)))
          refine ⟨k + 1, by omega, by go_num, ⟨?_⟩, ⟨blk_far HT.out (by have := HW1.out; simp; omega) _⟩, ⟨gb_set (gb_drewN HB.out _) _ _⟩⟩
          show RowB g off ((putL c (bytesOf s) l k).set k (Go.bits .xor .u8 (l.getD k 0) (mulI c ((bytesOf s).getD k 0)))) _
          rw [← HY.out, HSK.out]
          exact h2
        case measure => simp [intOf]; omega
    · have hke : k = min l.length s.size := by omega
      have HKE := Aside0.mk hke
      clear hke
      have hlt2 : ¬ (k : Int) < min (l.length : Int) (s.size : Int) := by omega
      go_wp2
      go_end0
      exact ⟨rfl, HB.out, by rw [← HKE.out]; exact HR.out⟩
theorem RowB.conv {g : Nat} {xs : List Int} {W : World} (h : RowB g 0 xs W) (n c : Nat) (hn : xs.length = n) : (convert 76 9 (.slice (some ⟨g, 0, none⟩) n c)).run Tryd.prog W = .ok (.string (strOfNums xs)) W := by
  refine run_convert_bytes_arg W 76 5 Tryd.underlying76 Tryd.underlying5 g 0 n c xs hn (fun i hi => ?_) 9 Tryd.underlying9
  exact (h i (by omega)).1
/-- Two texts, put together. -/
def putX (a b : ByteArray) : ByteArray := strOfNums (putL 1 (bytesOf b) (bytesOf a) (min a.size b.size))
def locate_put.f (a0 a1 : ByteArray) : Option ByteArray := if a0.size ≤ 1099511627776 ∧ a1.size ≤ 1099511627776 then some (putX a0 a1) else none
set_option maxHeartbeats 4000000 in
set_option maxRecDepth 100000 in
theorem locate_put.calls (a0 a1 : ByteArray) (r : ByteArray) (w : World) (h : locate_put.f a0 a1 = some r) :
    Calls Tryd.prog 29 #[.string a0, .string a1] w fun e w' => e = .returned (.string r) ∧ Below w.heap.size w w' := by
  unfold locate_put.f at h
  by_cases hc : a0.size ≤ 1099511627776 ∧ a1.size ≤ 1099511627776
  · rw [if_pos hc] at h
    obtain rfl := Option.some.inj h
    clear h
    obtain ⟨hs, hs1⟩ := hc
    have kb := fun W => print_bytes (P := Tryd.prog) 9 76 5 Tryd.underlying9 Tryd.underlying76 Tryd.underlying5 a0 W
    have hlen : (bytesOf a0).length = a0.size := bytesOf_length a0
    have hrng : ∀ k, k < (bytesOf a0).length → isB ((bytesOf a0).getD k 0) := by
      intro k hk
      have := bt_range a0 k
      rw [← rd_bytesOf] at this
      unfold rd at this
      rwa [Int.toNat_natCast] at this
    have start := bytes_row w a0
    have hb := bytes_below (Below.refl w.heap.size w) (Nat.le_refl _) 5 a0
    have hz : (Lib.bytesWorld w 5 a0).heap.size = w.heap.size + 1 := Lib.bytesWorld_size _ _ _
    have hp := put_cells w.heap.size 0 (grownCap w a0.size 0 5) (bytesOf a0) 1 a1 (Lib.bytesWorld w 5 a0) start hrng (by omega)
    rw [hlen] at hp
    have HP := Aside0.mk hp
    have HB := Aside0.mk hb
    have HS := Aside0.mk hs
    have HS1 := Aside0.mk hs1
    have HZ := Aside0.mk hz
    clear hp hb hs hs1 hz start hrng hlen
    go_enter Tryd.func29, Tryd.ntmps29
    go_wp2_with (go_at_call 46; refine (HP.out (grownCap_ge _ _ _ _) HS.out HS1.out (by decide) (by decide)).mono ?_; rintro e w1 ⟨rfl, hg, hr⟩; have HG := Aside0.mk hg; have cv := hr.conv a0.size (grownCap w a0.size 0 5) (by rw [putL_length, bytesOf_length]); clear hg hr)
    go_ret
    exact ⟨rfl, HB.out.grown HG.out (by have := HZ.out; omega) (fun k hk => by injection hk with hk; omega)⟩
  · rw [if_neg hc] at h; cases h
end Go.Proofs.YteiiaonpdamkhaaDoor.G
