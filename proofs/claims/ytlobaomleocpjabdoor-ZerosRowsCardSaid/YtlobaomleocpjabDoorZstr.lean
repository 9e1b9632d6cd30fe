/- The contracts of strings.TrimLeft (at a cutset of the byte 00 alone) and strings.Index over this seat's program, out of the library's own; internal/bytealg.MaxLen holds some number. Conditions: each lemma's own. -/
import Derived.Test.YtlobaomleocpjabDoorGx0
import Derived.Shelf.LaysM
import Derived.Shelf.Strings.Trim
import Derived.Shelf.Strings.Search3
namespace Go.Proofs.YtlobaomleocpjabDoor.G
open Go.Proofs Go.RowKit Go.Proofs.YtlobaomleocpjabDoorW.PrintWords Go.Proofs.YtlobaomleocpjabDoorW.PrintLast Go.Proofs.YtlobaomleocpjabDoorW.PrintMore
set_option linter.unusedVariables false
set_option linter.unusedSimpArgs false
def lTrim_ren : Go.Shelf.Ren := ⟨fun | 161 => 70 | 231 => 83 | 227 => 84 | 233 => 85 | 235 => 86 | 228 => 101 | 197 => 102 | 151 => 103 | 260 => 114 | 152 => 115 | 137 => 119 | 119 => 120 | 224 => 106 | 225 => 105 | 217 => 104 | 266 => 116 | n => n, fun | 9 => 9 | 4 => 4 | 3 => 3 | 5 => 5 | 117 => 130 | 116 => 129 | 0 => 0 | 124 => 133 | 105 => 143 | 21 => 21 | 119 => 152 | 46 => 112 | 139 => 155 | 138 => 154 | n => n, fun | 3 => 2 | 4 => 3 | n => n⟩
theorem lTrim : Go.Proofs.Lays.n161 Tryd.prog lTrim_ren := {
  mixed := by kernel_rfl
  f119 := Tryd.func120.trans (congrArg some (by kernel_rfl))
  f137 := Tryd.func119.trans (congrArg some (by kernel_rfl))
  f151 := Tryd.func103.trans (congrArg some (by kernel_rfl))
  f152 := Tryd.func115.trans (congrArg some (by kernel_rfl))
  f161 := Tryd.func70.trans (congrArg some (by kernel_rfl))
  f197 := Tryd.func102.trans (congrArg some (by kernel_rfl))
  f217 := Tryd.func104.trans (congrArg some (by kernel_rfl))
  f224 := Tryd.func106.trans (congrArg some (by kernel_rfl))
  f225 := Tryd.func105.trans (congrArg some (by kernel_rfl))
  f227 := Tryd.func84.trans (congrArg some (by kernel_rfl))
  f228 := Tryd.func101.trans (congrArg some (by kernel_rfl))
  f231 := Tryd.func83.trans (congrArg some (by kernel_rfl))
  f233 := Tryd.func85.trans (congrArg some (by kernel_rfl))
  f235 := Tryd.func86.trans (congrArg some (by kernel_rfl))
  f260 := Tryd.func114.trans (congrArg some (by kernel_rfl))
  f266 := Tryd.func116.trans (congrArg some (by kernel_rfl))
  t0 := Tryd.underlying0
  a0 := Tryd.isAgg0
  z0 := Tryd.sizeOf0
  v0 := Tryd.zeroValue0
  t3 := Tryd.underlying3
  a3 := Tryd.isAgg3
  z3 := Tryd.sizeOf3
  v3 := Tryd.zeroValue3
  t4 := Tryd.underlying4
  a4 := Tryd.isAgg4
  z4 := Tryd.sizeOf4
  v4 := Tryd.zeroValue4
  t5 := Tryd.underlying5
  a5 := Tryd.isAgg5
  z5 := Tryd.sizeOf5
  v5 := Tryd.zeroValue5
  t9 := Tryd.underlying9
  a9 := Tryd.isAgg9
  z9 := Tryd.sizeOf9
  v9 := Tryd.zeroValue9
  t21 := Tryd.underlying21
  a21 := Tryd.isAgg21
  z21 := Tryd.sizeOf21
  v21 := Tryd.zeroValue21
  t46 := Tryd.underlying112
  a46 := Tryd.isAgg112
  z46 := Tryd.sizeOf112
  v46 := Tryd.zeroValue112
  t105 := Tryd.underlying143
  a105 := Tryd.isAgg143
  z105 := Tryd.sizeOf143
  v105 := Tryd.zeroValue143
  t116 := Tryd.underlying129
  a116 := Tryd.isAgg129
  z116 := Tryd.sizeOf129
  t117 := Tryd.underlying130
  a117 := Tryd.isAgg130
  z117 := Tryd.sizeOf130
  v117 := Tryd.zeroValue130
  t119 := Tryd.underlying152
  a119 := Tryd.isAgg152
  z119 := Tryd.sizeOf152
  t124 := Tryd.underlying133
  a124 := Tryd.isAgg133
  z124 := Tryd.sizeOf133
  v124 := Tryd.zeroValue133
  t138 := Tryd.underlying154
  a138 := Tryd.isAgg154
  z138 := Tryd.sizeOf154
  v138 := Tryd.zeroValue154
  t139 := Tryd.underlying155
  a139 := Tryd.isAgg155
  z139 := Tryd.sizeOf155
  v139 := Tryd.zeroValue155
  g3 := by kernel_rfl
  g4 := by kernel_rfl }
def lIndex_ren : Go.Shelf.Ren := ⟨fun | 143 => 71 | 219 => 87 | 217 => 104 | 225 => 105 | 224 => 106 | 267 => 107 | 266 => 116 | 314 => 117 | n => n, fun | 9 => 9 | 3 => 3 | 4 => 4 | 5 => 5 | 46 => 112 | 146 => 150 | 51 => 60 | n => n, fun | 1 => 1 | n => n⟩
theorem lIndex : Go.Proofs.LaysM.n143 Tryd.prog lIndex_ren := {
  mixed := by kernel_rfl
  f143 := Tryd.func71.trans (congrArg some (by kernel_rfl))
  f217 := Tryd.func104.trans (congrArg some (by kernel_rfl))
  f219 := Tryd.func87.trans (congrArg some (by kernel_rfl))
  f224 := Tryd.func106.trans (congrArg some (by kernel_rfl))
  f225 := Tryd.func105.trans (congrArg some (by kernel_rfl))
  f266 := Tryd.func116.trans (congrArg some (by kernel_rfl))
  f267 := Tryd.func107.trans (congrArg some (by kernel_rfl))
  f314 := Tryd.func117.trans (congrArg some (by kernel_rfl))
  t3 := Tryd.underlying3
  a3 := Tryd.isAgg3
  z3 := Tryd.sizeOf3
  v3 := Tryd.zeroValue3
  t4 := Tryd.underlying4
  a4 := Tryd.isAgg4
  z4 := Tryd.sizeOf4
  v4 := Tryd.zeroValue4
  t5 := Tryd.underlying5
  a5 := Tryd.isAgg5
  z5 := Tryd.sizeOf5
  v5 := Tryd.zeroValue5
  t9 := Tryd.underlying9
  a9 := Tryd.isAgg9
  z9 := Tryd.sizeOf9
  v9 := Tryd.zeroValue9
  t46 := Tryd.underlying112
  a46 := Tryd.isAgg112
  z46 := Tryd.sizeOf112
  v46 := Tryd.zeroValue112
  t51 := Tryd.underlying60
  a51 := Tryd.isAgg60
  z51 := Tryd.sizeOf60
  v51 := Tryd.zeroValue60
  t146 := Tryd.underlying150
  a146 := Tryd.isAgg150
  z146 := Tryd.sizeOf150
  v146 := Tryd.zeroValue150
  g1 := by kernel_rfl
  i3 := by kernel_rfl
  i4 := by kernel_rfl
  i5 := by kernel_rfl
  i9 := by kernel_rfl
  i46 := by kernel_rfl
  i51 := by kernel_rfl
  i146 := by kernel_rfl
  m1 := by kernel_rfl
  s1_3 := fun w h => Go.Proofs.cell_of_shapedOpen_int (zero := #[.int .i64 0]) (t := 3) h (of_decide_eq_true (by kernel_rfl)) (by kernel_rfl) rfl (by kernel_rfl) (by kernel_rfl) Tryd.underlying3 }
/-- The variable holds some number. -/
def GT (w : World) : Prop := ∃ m : Int, w.cell? ⟨1, 0, none⟩ = some (.int .i64 m)
theorem GT.below {w w1 : World} (h : GT w) (hb : Below w.heap.size w w1) : GT w1 := h.imp fun _ hm => pw_cell_below hb hm
theorem GT.drewN {w : World} {n : Nat} (h : GT w) : GT (w.drewN n) := h
theorem GT.drew {w : World} (h : GT w) : GT w.drew := h
theorem GT.of_shape {w : World} (h : w.ShapedOpen Tryd.prog) : GT w := lIndex.s1_3 w h
def strings_TrimLeft.f (a0 a1 : ByteArray) : Option ByteArray := if a1.data = #[0] then some ⟨(Lib.trimLeftB a0.data.toList 0).toArray⟩ else none
theorem strings_TrimLeft.calls (a0 a1 : ByteArray) (r : ByteArray) (w : World) (h : strings_TrimLeft.f a0 a1 = some r) :
    Calls Tryd.prog 70 #[.string a0, .string a1] w fun e w' => e = .returned (.string r) ∧ Drawn0 w w' := by
  unfold strings_TrimLeft.f at h
  by_cases hc : a1.data = #[0]
  · rw [if_pos hc] at h
    obtain rfl := Option.some.inj h
    obtain rfl : a1 = ⟨#[0]⟩ := congrArg ByteArray.mk hc
    refine (Any.strings_TrimLeft_one lTrim a0 0 (by decide) w).mono ?_
    rintro e w' ⟨rfl, rfl⟩
    exact ⟨rfl, Drawn0.refl _⟩
  · rw [if_neg hc] at h; cases h
def strings_Index.f (a0 a1 : ByteArray) : Option Int := if a0.size < 4294967281 then some (Lib.index a0.data.toList a1.data.toList) else none
theorem strings_Index.calls (a0 a1 : ByteArray) (r : Int) (w : World) (hG : GT w) (h : strings_Index.f a0 a1 = some r) :
    Calls Tryd.prog 71 #[.string a0, .string a1] w fun e w' => e = .returned (.int .i64 r) ∧ Drawn0 w w' := by
  unfold strings_Index.f at h
  by_cases hc : a0.size < 4294967281
  · rw [if_pos hc] at h
    obtain rfl := Option.some.inj h
    obtain ⟨m, hm⟩ := hG
    refine (Any.strings_Index { lIndex with } a0 a1 m w hc hm).mono ?_
    rintro e w' ⟨rfl, rfl⟩
    exact ⟨rfl, Drawn0.refl _⟩
  · rw [if_neg hc] at h; cases h
/-! zeros.first -/
/-- How many bytes 00 a text begins with, as far as 65535. -/
def fM (s : ByteArray) : Nat := min s.size 65535
def fT (s : ByteArray) : ByteArray := ⟨(Lib.trimLeftB (s.extract 0 (fM s)).data.toList 0).toArray⟩
def fZ (s : ByteArray) : Nat := fM s - (fT s).size
def fS (s : ByteArray) : ByteArray := s.extract (fZ s) s.size
def fI (s : ByteArray) : Int := Lib.index (fS s).data.toList [0, 0, 0, 0]
def fN (s : ByteArray) : Nat := if 0 ≤ fI s then min (min (fS s).size 65535) (fI s).toNat else min (fS s).size 65535
def zeros_first.f (a0 : ByteArray) : Option (Int × ByteArray × ByteArray) := if a0.size < 4294967281 then some ((fZ a0 : Int), (fS a0).extract 0 (fN a0), (fS a0).extract (fN a0) (fS a0).size) else none
theorem fT_le (s : ByteArray) : (fT s).size ≤ fM s := by
  show (Lib.trimLeftB (s.extract 0 (fM s)).data.toList 0).length ≤ fM s
  unfold Lib.trimLeftB
  refine Nat.le_trans (List.dropWhile_suffix _).length_le ?_
  have : (s.extract 0 (fM s)).data.toList.length = (s.extract 0 (fM s)).size := rfl
  rw [this, ByteArray.size_extract]
  unfold fM
  omega
set_option maxHeartbeats 4000000 in
set_option maxRecDepth 100000 in
theorem zeros_first.calls (a0 : ByteArray) (r1 : Int) (r2 : ByteArray) (r3 : ByteArray) (w : World) (hG : GT w) (h : zeros_first.f a0 = some (r1, r2, r3)) :
    Calls Tryd.prog 51 #[.string a0] w fun e w' => e = .returned (.tuple #[.agg #[.int .i64 r1, .string r2], .string r3]) ∧ Below w.heap.size w w' := by
  unfold zeros_first.f at h
  by_cases hc : a0.size < 4294967281
  · rw [if_pos hc] at h
    simp only [Option.some.injEq, Prod.mk.injEq] at h
    obtain ⟨rfl, rfl, rfl⟩ := h
    obtain ⟨mx, hmx⟩ := hG
    have HMX := Aside0.mk hmx
    have hle := fT_le a0
    obtain ⟨m, hm⟩ : ∃ m, m = fM a0 := ⟨_, rfl⟩
    obtain ⟨t, ht⟩ : ∃ t, t = fT a0 := ⟨_, rfl⟩
    obtain ⟨z, hz⟩ : ∃ z, z = fZ a0 := ⟨_, rfl⟩
    obtain ⟨s, hs⟩ : ∃ s, s = fS a0 := ⟨_, rfl⟩
    obtain ⟨n, hn⟩ : ∃ n, n = fN a0 := ⟨_, rfl⟩
    obtain ⟨ix, hix⟩ : ∃ ix, ix = fI a0 := ⟨_, rfl⟩
    obtain ⟨q, hq⟩ : ∃ q, q = min s.size 65535 := ⟨_, rfl⟩
    have hm1 : m ≤ a0.size ∧ m ≤ 65535 := by unfold fM at hm; omega
    have hz1 : z = m - t.size := by rw [hz, hm, ht]; rfl
    have hz2 : z ≤ m := by omega
    have e1 : min (a0.size : Int) 65535 = (m : Int) := by unfold fM at hm; omega
    have e2 : IntKind.i64.wrap ((m : Int) - (t.size : Int)) = (z : Int) := by
      rw [← hm, ← ht] at hle
      rw [show IntKind.i64.wrap ((m : Int) - (t.size : Int)) = wrap64 ((m : Int) - (t.size : Int)) from i64_w _]
      unfold wrap64; omega
    have hss : s.size = a0.size - z := by rw [hs, hz]; unfold fS; simp
    have e3 : min (s.size : Int) 65535 = (q : Int) := by omega
    have hT : ∀ W : World, Calls Tryd.prog 70 #[.string (a0.extract 0 m), .string ⟨#[0]⟩] W fun e w' => e = .returned (.string t) ∧ w' = W := fun W => by
      have := Any.strings_TrimLeft_one lTrim (a0.extract 0 m) 0 (by decide) W
      rwa [show (⟨(Lib.trimLeftB (a0.extract 0 m).data.toList 0).toArray⟩ : ByteArray) = t from by rw [ht, hm]; rfl] at this
    have hI : ∀ W : World, W.cell? ⟨1, 0, none⟩ = some (.int .i64 mx) → Calls Tryd.prog 71 #[.string s, .string ⟨#[0, 0, 0, 0]⟩] W fun e w' => e = .returned (.int .i64 ix) ∧ w' = W := fun W hW => by
      have := Any.strings_Index { lIndex with } s ⟨#[0, 0, 0, 0]⟩ mx W (by omega) hW
      rwa [show Lib.index s.data.toList (⟨#[0, 0, 0, 0]⟩ : ByteArray).data.toList = ix from by rw [hix, hs]; rfl] at this
    rw [← hs, ← hn, ← hz]
    have es : a0.extract z a0.size = s := by rw [hs, hz]; rfl
    have hq1 : q ≤ s.size := by omega
    have HT := Aside0.mk hT
    have HI := Aside0.mk hI
    by_cases hpos : 0 ≤ ix
    · have hn1 : min (q : Int) ix = (n : Int) := by
        have : n = min (min s.size 65535) ix.toNat := by rw [hn, hs, hix]; unfold fN; rw [if_pos (by rw [← hix]; exact hpos)]
        omega
      have hn2 : n ≤ s.size := by omega
      have c1 : decide (0 ≤ ix) = true := decide_eq_true hpos
      have HZ := Aside0.mk hz1
      clear hT hI hz1 hq hss hc hm ht hz hs hn hix hmx hle
      go_enter Tryd.func51, Tryd.ntmps51
      go_wp2_with (first | (go_at_call 70; (with_reducible refine (HT.out _).mono ?_); rintro e w' ⟨rfl, rfl⟩) | (go_at_call 71; (try rw [es]); (with_reducible refine (HI.out _ ?hW).mono ?_); (case hW => exact pw_cell_below (by repeat (first | exact Below.refl _ _ | apply below_alloc | apply pw_below_drewN | apply below_drew1)) HMX.out); rintro e w' ⟨rfl, rfl⟩))
      go_region
      all_goals go_wp2
      all_goals exact bodyPost_ret (v := .tuple #[.agg #[.int .i64 z, .string (s.extract 0 n)], .string (s.extract n s.size)]) (by simp [results, Tryd.results51, go_sem]) rfl ⟨rfl, by repeat (first | exact Below.refl _ _ | apply below_alloc | apply pw_below_drewN | apply below_drew1 | (refine Below.setCell ?_ (by simp) _))⟩
    · have hn0 : n = q := by rw [hn, hq, hs]; unfold fN; rw [if_neg (by rw [← hix]; exact hpos)]
      have hn2 : n ≤ s.size := by omega
      have c1 : decide (0 ≤ ix) = false := decide_eq_false hpos
      rw [← hn0] at e3
      have HZ := Aside0.mk hz1
      clear hT hI hn0 hq1 hz1 hq hss hc hm ht hz hs hn hix hmx hle
      go_enter Tryd.func51, Tryd.ntmps51
      go_wp2_with (first | (go_at_call 70; (with_reducible refine (HT.out _).mono ?_); rintro e w' ⟨rfl, rfl⟩) | (go_at_call 71; (try rw [es]); (with_reducible refine (HI.out _ ?hW).mono ?_); (case hW => exact pw_cell_below (by repeat (first | exact Below.refl _ _ | apply below_alloc | apply pw_below_drewN | apply below_drew1)) HMX.out); rintro e w' ⟨rfl, rfl⟩))
      go_region
      all_goals go_wp2
      all_goals exact bodyPost_ret (v := .tuple #[.agg #[.int .i64 z, .string (s.extract 0 n)], .string (s.extract n s.size)]) (by simp [results, Tryd.results51, go_sem]) rfl ⟨rfl, by repeat (first | exact Below.refl _ _ | apply below_alloc | apply pw_below_drewN | apply below_drew1 | (refine Below.setCell ?_ (by simp) _))⟩
  · rw [if_neg hc] at h; cases h
end Go.Proofs.YtlobaomleocpjabDoor.G
