/- The contracts of strings.TrimLeft (at a cutset of the byte 00 alone) and strings.Index over this seat's program, out of the library's own; internal/bytealg.MaxLen holds some number. Conditions: each lemma's own. -/
import Derived.Test.YtoglapodcejocaaDoorGTBoth
import Derived.Shelf.LaysM
import Derived.Shelf.Strings.Trim
import Derived.Shelf.Strings.Search3
namespace Go.Proofs.YtoglapodcejocaaDoor.G
open Go.Proofs Go.RowKit Go.Proofs.YtoglapodcejocaaDoorW.PrintWords Go.Proofs.YtoglapodcejocaaDoorW.PrintLast Go.Proofs.YtoglapodcejocaaDoorW.PrintMore
set_option linter.unusedVariables false
set_option linter.unusedSimpArgs false
def lTrim_ren : Go.Shelf.Ren := ⟨fun | 161 => 57 | 231 => 69 | 227 => 70 | 233 => 71 | 235 => 72 | 228 => 76 | 197 => 77 | 151 => 78 | 260 => 83 | 152 => 84 | 137 => 87 | 119 => 88 | 224 => 81 | 225 => 80 | 217 => 79 | 266 => 85 | n => n, fun | 9 => 9 | 4 => 4 | 3 => 3 | 5 => 5 | 117 => 139 | 116 => 138 | 0 => 0 | 124 => 142 | 105 => 146 | 21 => 21 | 119 => 154 | 46 => 119 | 139 => 157 | 138 => 156 | n => n, fun | 3 => 2 | 4 => 3 | n => n⟩
theorem lTrim : Go.Proofs.Lays.n161 Tryd.prog lTrim_ren := {
  mixed := by kernel_rfl
  f119 := Tryd.func88.trans (congrArg some (by kernel_rfl))
  f137 := Tryd.func87.trans (congrArg some (by kernel_rfl))
  f151 := Tryd.func78.trans (congrArg some (by kernel_rfl))
  f152 := Tryd.func84.trans (congrArg some (by kernel_rfl))
  f161 := Tryd.func57.trans (congrArg some (by kernel_rfl))
  f197 := Tryd.func77.trans (congrArg some (by kernel_rfl))
  f217 := Tryd.func79.trans (congrArg some (by kernel_rfl))
  f224 := Tryd.func81.trans (congrArg some (by kernel_rfl))
  f225 := Tryd.func80.trans (congrArg some (by kernel_rfl))
  f227 := Tryd.func70.trans (congrArg some (by kernel_rfl))
  f228 := Tryd.func76.trans (congrArg some (by kernel_rfl))
  f231 := Tryd.func69.trans (congrArg some (by kernel_rfl))
  f233 := Tryd.func71.trans (congrArg some (by kernel_rfl))
  f235 := Tryd.func72.trans (congrArg some (by kernel_rfl))
  f260 := Tryd.func83.trans (congrArg some (by kernel_rfl))
  f266 := Tryd.func85.trans (congrArg some (by kernel_rfl))
  t0 := Tryd.underlying0
  a0 := Tryd.isAgg0
  z0 := Tryd.sizeOf0
  v0 := Tryd.zeroValue0
  t3 := Tryd.underlying3
  a3 := Tryd.isAgg3
  z3 := Tryd.sizeOf3
  v3 := Tryd.zeroValue3
  t4 := Tryd.underlying4
  a4 := Tryd.isAgg4
  z4 := Tryd.sizeOf4
  v4 := Tryd.zeroValue4
  t5 := Tryd.underlying5
  a5 := Tryd.isAgg5
  z5 := Tryd.sizeOf5
  v5 := Tryd.zeroValue5
  t9 := Tryd.underlying9
  a9 := Tryd.isAgg9
  z9 := Tryd.sizeOf9
  v9 := Tryd.zeroValue9
  t21 := Tryd.underlying21
  a21 := Tryd.isAgg21
  z21 := Tryd.sizeOf21
  v21 := Tryd.zeroValue21
  t46 := Tryd.underlying119
  a46 := Tryd.isAgg119
  z46 := Tryd.sizeOf119
  v46 := Tryd.zeroValue119
  t105 := Tryd.underlying146
  a105 := Tryd.isAgg146
  z105 := Tryd.sizeOf146
  v105 := Tryd.zeroValue146
  t116 := Tryd.underlying138
  a116 := Tryd.isAgg138
  z116 := Tryd.sizeOf138
  t117 := Tryd.underlying139
  a117 := Tryd.isAgg139
  z117 := Tryd.sizeOf139
  v117 := Tryd.zeroValue139
  t119 := Tryd.underlying154
  a119 := Tryd.isAgg154
  z119 := Tryd.sizeOf154
  t124 := Tryd.underlying142
  a124 := Tryd.isAgg142
  z124 := Tryd.sizeOf142
  v124 := Tryd.zeroValue142
  t138 := Tryd.underlying156
  a138 := Tryd.isAgg156
  z138 := Tryd.sizeOf156
  v138 := Tryd.zeroValue156
  t139 := Tryd.underlying157
  a139 := Tryd.isAgg157
  z139 := Tryd.sizeOf157
  v139 := Tryd.zeroValue157
  g3 := by kernel_rfl
  g4 := by kernel_rfl }
def lIndex_ren : Go.Shelf.Ren := ⟨fun | 143 => 58 | 219 => 73 | 217 => 79 | 225 => 80 | 224 => 81 | 267 => 82 | 266 => 85 | 314 => 86 | n => n, fun | 9 => 9 | 3 => 3 | 4 => 4 | 5 => 5 | 46 => 119 | 146 => 152 | 51 => 64 | n => n, fun | 1 => 1 | n => n⟩
theorem lIndex : Go.Proofs.LaysM.n143 Tryd.prog lIndex_ren := {
  mixed := by kernel_rfl
  f143 := Tryd.func58.trans (congrArg some (by kernel_rfl))
  f217 := Tryd.func79.trans (congrArg some (by kernel_rfl))
  f219 := Tryd.func73.trans (congrArg some (by kernel_rfl))
  f224 := Tryd.func81.trans (congrArg some (by kernel_rfl))
  f225 := Tryd.func80.trans (congrArg some (by kernel_rfl))
  f266 := Tryd.func85.trans (congrArg some (by kernel_rfl))
  f267 := Tryd.func82.trans (congrArg some (by kernel_rfl))
  f314 := Tryd.func86.trans (congrArg some (by kernel_rfl))
  t3 := Tryd.underlying3
  a3 := Tryd.isAgg3
  z3 := Tryd.sizeOf3
  v3 := Tryd.zeroValue3
  t4 := Tryd.underlying4
  a4 := Tryd.isAgg4
  z4 := Tryd.sizeOf4
  v4 := Tryd.zeroValue4
  t5 := Tryd.underlying5
  a5 := Tryd.isAgg5
  z5 := Tryd.sizeOf5
  v5 := Tryd.zeroValue5
  t9 := Tryd.underlying9
  a9 := Tryd.isAgg9
  z9 := Tryd.sizeOf9
  v9 := Tryd.zeroValue9
  t46 := Tryd.underlying119
  a46 := Tryd.isAgg119
  z46 := Tryd.sizeOf119
  v46 := Tryd.zeroValue119
  t51 := Tryd.underlying64
  a51 := Tryd.isAgg64
  z51 := Tryd.sizeOf64
  v51 := Tryd.zeroValue64
  t146 := Tryd.underlying152
  a146 := Tryd.isAgg152
  z146 := Tryd.sizeOf152
  v146 := Tryd.zeroValue152
  g1 := by kernel_rfl
  i3 := by kernel_rfl
  i4 := by kernel_rfl
  i5 := by kernel_rfl
  i9 := by kernel_rfl
  i46 := by kernel_rfl
  i51 := by kernel_rfl
  i146 := by kernel_rfl
  m1 := by kernel_rfl
  s1_3 := fun w h => Go.Proofs.cell_of_shapedOpen_int (zero := #[.int .i64 0]) (t := 3) h (of_decide_eq_true (by kernel_rfl)) (by kernel_rfl) rfl (by kernel_rfl) (by kernel_rfl) Tryd.underlying3 }
theorem GTm.of_shape {w : World} (h : w.ShapedOpen Tryd.prog) : GTm w := lIndex.s1_3 w h
def strings_TrimLeft.f (a0 a1 : ByteArray) : Option ByteArray := if a1.data = #[0] then some ⟨(Lib.trimLeftB a0.data.toList 0).toArray⟩ else none
theorem strings_TrimLeft.calls (a0 a1 : ByteArray) (r : ByteArray) (w : World) (h : strings_TrimLeft.f a0 a1 = some r) :
    Calls Tryd.prog 57 #[.string a0, .string a1] w fun e w' => e = .returned (.string r) ∧ Drawn0 w w' := by
  unfold strings_TrimLeft.f at h
  by_cases hc : a1.data = #[0]
  · rw [if_pos hc] at h
    obtain rfl := Option.some.inj h
    obtain rfl : a1 = ⟨#[0]⟩ := congrArg ByteArray.mk hc
    refine (Any.strings_TrimLeft_one lTrim a0 0 (by decide) w).mono ?_
    rintro e w' ⟨rfl, rfl⟩
    exact ⟨rfl, Drawn0.refl _⟩
  · rw [if_neg hc] at h; cases h
def strings_Index.f (a0 a1 : ByteArray) : Option Int := if a0.size < 4294967281 then some (Lib.index a0.data.toList a1.data.toList) else none
theorem strings_Index.calls (a0 a1 : ByteArray) (r : Int) (w : World) (hG : GT w) (h : strings_Index.f a0 a1 = some r) :
    Calls Tryd.prog 58 #[.string a0, .string a1] w fun e w' => e = .returned (.int .i64 r) ∧ Drawn0 w w' := by
  unfold strings_Index.f at h
  by_cases hc : a0.size < 4294967281
  · rw [if_pos hc] at h
    obtain rfl := Option.some.inj h
    obtain ⟨m, hm⟩ := hG.2
    refine (Any.strings_Index { lIndex with } a0 a1 m w hc hm).mono ?_
    rintro e w' ⟨rfl, rfl⟩
    exact ⟨rfl, Drawn0.refl _⟩
  · rw [if_neg hc] at h; cases h
/-! zeros.first -/
/-- How many bytes 00 a text begins with, as far as 65535. -/
def fM (s : ByteArray) : Nat := min s.size 65535
def fT (s : ByteArray) : ByteArray := ⟨(Lib.trimLeftB (s.extract 0 (fM s)).data.toList 0).toArray⟩
def fZ (s : ByteArray) : Nat := fM s - (fT s).size
def fS (s : ByteArray) : ByteArray := s.extract (fZ s) s.size
def fI (s : ByteArray) : Int := Lib.index (fS s).data.toList [0, 0, 0, 0]
def fN (s : ByteArray) : Nat := if 0 ≤ fI s then min (min (fS s).size 65535) (fI s).toNat else min (fS s).size 65535
def zeros_first.f (a0 : ByteArray) : Option (Int × ByteArray × ByteArray) := if a0.size < 4294967281 then some ((fZ a0 : Int), (fS a0).extract 0 (fN a0), (fS a0).extract (fN a0) (fS a0).size) else none
theorem fT_le (s : ByteArray) : (fT s).size ≤ fM s := by
  show (Lib.trimLeftB (s.extract 0 (fM s)).data.toList 0).length ≤ fM s
  unfold Lib.trimLeftB
  refine Nat.le_trans (List.dropWhile_suffix _).length_le ?_
  have : (s.extract 0 (fM s)).data.toList.length = (s.extract 0 (fM s)).size := rfl
  rw [this, ByteArray.size_extract]
  unfold fM
  omega
set_option maxHeartbeats 4000000 in
set_option maxRecDepth 100000 in
theorem zeros_first.calls (a0 : ByteArray) (r1 : Int) (r2 : ByteArray) (r3 : ByteArray) (w : World) (hG : GT w) (h : zeros_first.f a0 = some (r1, r2, r3)) :
    Calls Tryd.prog 32 #[.string a0] w fun e w' => e = .returned (.tuple #[.agg #[.int .i64 r1, .string r2], .string r3]) ∧ Below w.heap.size w w' := by
  unfold zeros_first.f at h
  by_cases hc : a0.size < 4294967281
  · rw [if_pos hc] at h
    simp only [Option.some.injEq, Prod.mk.injEq] at h
    obtain ⟨rfl, rfl, rfl⟩ := h
    obtain ⟨mx, hmx⟩ := hG.2
    have HMX := Aside0.mk hmx
    have hle := fT_le a0
    obtain ⟨m, hm⟩ : ∃ m, m = fM a0 := ⟨_, rfl⟩
    obtain ⟨t, ht⟩ : ∃ t, t = fT a0 := ⟨_, rfl⟩
    obtain ⟨z, hz⟩ : ∃ z, z = fZ a0 := ⟨_, rfl⟩
    obtain ⟨s, hs⟩ : ∃ s, s = fS a0 := ⟨_, rfl⟩
    obtain ⟨n, hn⟩ : ∃ n, n = fN a0 := ⟨_, rfl⟩
    obtain ⟨ix, hix⟩ : ∃ ix, ix = fI a0 := ⟨_, rfl⟩
    obtain ⟨q, hq⟩ : ∃ q, q = min s.size 65535 := ⟨_, rfl⟩
    have hm1 : m ≤ a0.size ∧ m ≤ 65535 := by unfold fM at hm; omega
    have hz1 : z = m - t.size := by rw [hz, hm, ht]; rfl
    have hz2 : z ≤ m := by omega
    have e1 : min (a0.size : Int) 65535 = (m : Int) := by unfold fM at hm; omega
    have e2 : IntKind.i64.wrap ((m : Int) - (t.size : Int)) = (z : Int) := by
      rw [← hm, ← ht] at hle
      rw [show IntKind.i64.wrap ((m : Int) - (t.size : Int)) = wrap64 ((m : Int) - (t.size : Int)) from i64_w _]
      unfold wrap64; omega
    have hss : s.size = a0.size - z := by rw [hs, hz]; unfold fS; simp
    have e3 : min (s.size : Int) 65535 = (q : Int) := by omega
    have hT : ∀ W : World, Calls Tryd.prog 57 #[.string (a0.extract 0 m), .string ⟨#[0]⟩] W fun e w' => e = .returned (.string t) ∧ w' = W := fun W => by
      have := Any.strings_TrimLeft_one lTrim (a0.extract 0 m) 0 (by decide) W
      rwa [show (⟨(Lib.trimLeftB (a0.extract 0 m).data.toList 0).toArray⟩ : ByteArray) = t from by rw [ht, hm]; rfl] at this
    have hI : ∀ W : World, W.cell? ⟨1, 0, none⟩ = some (.int .i64 mx) → Calls Tryd.prog 58 #[.string s, .string ⟨#[0, 0, 0, 0]⟩] W fun e w' => e = .returned (.int .i64 ix) ∧ w' = W := fun W hW => by
      have := Any.strings_Index { lIndex with } s ⟨#[0, 0, 0, 0]⟩ mx W (by omega) hW
      rwa [show Lib.index s.data.toList (⟨#[0, 0, 0, 0]⟩ : ByteArray).data.toList = ix from by rw [hix, hs]; rfl] at this
    rw [← hs, ← hn, ← hz]
    have es : a0.extract z a0.size = s := by rw [hs, hz]; rfl
    have hq1 : q ≤ s.size := by omega
    have HT := Aside0.mk hT
    have HI := Aside0.mk hI
    by_cases hpos : 0 ≤ ix
    · have hn1 : min (q : Int) ix = (n : Int) := by
        have : n = min (min s.size 65535) ix.toNat := by rw [hn, hs, hix]; unfold fN; rw [if_pos (by rw [← hix]; exact hpos)]
        omega
      have hn2 : n ≤ s.size := by omega
      have c1 : decide (0 ≤ ix) = true := decide_eq_true hpos
      have HZ := Aside0.mk hz1
      clear hT hI hz1 hq hss hc hm ht hz hs hn hix hmx hle
      go_enter Tryd.func32, Tryd.ntmps32
      go_wp2_with (first | (go_at_call 57; (with_reducible refine (HT.out _).mono ?_); rintro e w' ⟨rfl, rfl⟩) | (go_at_call 58; (try rw [es]); (with_reducible refine (HI.out _ ?hW).mono ?_); (case hW => exact pw_cell_below (by repeat (first | exact Below.refl _ _ | apply below_alloc | apply pw_below_drewN | apply below_drew1)) HMX.out); rintro e w' ⟨rfl, rfl⟩))
      go_region
      all_goals go_wp2
      all_goals exact bodyPost_ret (v := .tuple #[.agg #[.int .i64 z, .string (s.extract 0 n)], .string (s.extract n s.size)]) (by simp [results, Tryd.results32, go_sem]) rfl ⟨rfl, by repeat (first | exact Below.refl _ _ | apply below_alloc | apply pw_below_drewN | apply below_drew1 | (refine Below.setCell ?_ (by simp) _))⟩
    · have hn0 : n = q := by rw [hn, hq, hs]; unfold fN; rw [if_neg (by rw [← hix]; exact hpos)]
      have hn2 : n ≤ s.size := by omega
      have c1 : decide (0 ≤ ix) = false := decide_eq_false hpos
      rw [← hn0] at e3
      have HZ := Aside0.mk hz1
      clear hT hI hn0 hq1 hz1 hq hss hc hm ht hz hs hn hix hmx hle
      go_enter Tryd.func32, Tryd.ntmps32
      go_wp2_with (first | (go_at_call 57; (with_reducible refine (HT.out _).mono ?_); rintro e w' ⟨rfl, rfl⟩) | (go_at_call 58; (try rw [es]); (with_reducible refine (HI.out _ ?hW).mono ?_); (case hW => exact pw_cell_below (by repeat (first | exact Below.refl _ _ | apply below_alloc | apply pw_below_drewN | apply below_drew1)) HMX.out); rintro e w' ⟨rfl, rfl⟩))
      go_region
      all_goals go_wp2
      all_goals exact bodyPost_ret (v := .tuple #[.agg #[.int .i64 z, .string (s.extract 0 n)], .string (s.extract n s.size)]) (by simp [results, Tryd.results32, go_sem]) rfl ⟨rfl, by repeat (first | exact Below.refl _ _ | apply below_alloc | apply pw_below_drewN | apply below_drew1 | (refine Below.setCell ?_ (by simp) _))⟩
  · rw [if_neg hc] at h; cases h
end Go.Proofs.YtoglapodcejocaaDoor.G
