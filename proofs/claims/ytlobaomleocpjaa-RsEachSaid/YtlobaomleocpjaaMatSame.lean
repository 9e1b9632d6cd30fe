/- The document's Same: its contract over this seat's program. Conditions: each lemma's own. -/
import Derived.Test.YtlobaomleocpjaaMatCheck
import Derived.Deep.RegionWith
namespace Go.Proofs.Ytlobaomleocpjaa.G
open Go.RowKit Go.Proofs.YtlobaomleocpjaaW.PrintWords Go.Proofs.YtlobaomleocpjaaW.PrintLast Go.Proofs.YtlobaomleocpjaaW.PrintMore
set_option linter.unusedVariables false
set_option linter.unusedSimpArgs false

def caulkref03_Same.f (l0 l1 : List (List Int)) : Option Bool := if BytesM l0 ∧ BytesM l1 ∧ l0.length ≤ 1099511627776 then some (decide (l0 = l1)) else none
theorem sonList {xs : List Int} (h : ∀ x ∈ xs, isB x) : bytesOf (strOfNums xs) = xs := sonB h
theorem toList_eq {a b : ByteArray} (h : a.toList = b.toList) : bytesOf a = bytesOf b := by
  have h2 : a.data.toList = b.data.toList := by rw [← Lib.toList_data, ← Lib.toList_data, h]
  unfold bytesOf
  rw [h2]
theorem row_eq {xs ys : List Int} (hx : ∀ x ∈ xs, isB x) (hy : ∀ x ∈ ys, isB x) : (strOfNums xs).toList = (strOfNums ys).toList ↔ xs = ys := by
  constructor
  · intro h
    have := toList_eq h
    rwa [sonList hx, sonList hy] at this
  · intro h; rw [h]
theorem lent_any {w : World} {A : Option Addr} {l : List (List Int)} (h : Kd.C (Kd.slice 5 (Kd.int .u8)) w A l.length l) {i : Nat} (hi : i < l.length) :
    ∃ ad a d, A = some ad ∧ ∀ W, Below w.heap.size w W → W.cell? (ad.add i) = some (.slice a (l.getD i []).length d) ∧ (convert 37 9 (.slice a (l.getD i []).length d)).run Try.prog W = .ok (.string (strOfNums (l.getD i []))) W := by
  obtain ⟨ad, A0, d, e, hc, hl, hr⟩ := at_L2 h (i : Int) (by omega) (by omega)
  rw [rd_L2_nat] at hr hc hl
  rw [Int.toNat_natCast] at hc
  exact ⟨ad, A0, d, e, fun W hW => ⟨(hW.cell (World.block_lt_of_cell? w _ hc)).trans hc, Kd.C_string (P := Try.prog) (A := A0) (c := d) Try.underlying37 Try.underlying5 Try.underlying9 (Kd.C_below hr hW)⟩⟩
theorem rows_bytes {l : List (List Int)} (h : BytesM l) (i : Nat) : ∀ x ∈ l.getD i [], isB x := by
  intro x hx
  by_cases hi : i < l.length
  · rw [List.getD_eq_getElem?_getD, List.getElem?_eq_getElem hi] at hx
    exact h _ (List.getElem_mem hi) x hx
  · rw [List.getD_eq_getElem?_getD, List.getElem?_eq_none (by omega)] at hx
    simp at hx
set_option maxRecDepth 100000 in
set_option maxHeartbeats 8000000 in
theorem caulkref03_Same.calls (A0 : Option Addr) (c0 : Nat) (l0 : List (List Int)) (A1 : Option Addr) (c1 : Nat) (l1 : List (List Int)) (r : Bool) (w : World) (hr0 : Kd.C (Kd.slice 5 (Kd.int .u8)) w A0 l0.length l0) (hc0 : l0.length ≤ c0) (hr1 : Kd.C (Kd.slice 5 (Kd.int .u8)) w A1 l1.length l1) (hc1 : l1.length ≤ c1) (h : caulkref03_Same.f l0 l1 = some r) :
    Calls Try.prog 24 #[.slice A0 l0.length c0, .slice A1 l1.length c1] w fun e w' => e = .returned (.bool r) ∧ Drawn0 w w' := by
  have HR0 := Aside0.mk hr0
  have HR1 := Aside0.mk hr1
  clear hr0 hr1 hc0 hc1
  unfold caulkref03_Same.f at h
  by_cases hb : BytesM l0 ∧ BytesM l1 ∧ l0.length ≤ 1099511627776
  · rw [if_pos hb] at h
    obtain rfl := Option.some.inj h
    clear h
    by_cases hlen : l0.length = l1.length
    · have ha := fun (i : Nat) (hi : i < l0.length) => lent_any HR0.out hi
      have hb' := fun (i : Nat) (hi : i < l1.length) => lent_any HR1.out hi
      rw [← hlen] at hb'
      obtain ⟨n, hn⟩ : ∃ n, n = l0.length := ⟨_, rfl⟩
      have hn1 : n ≤ 1099511627776 := by rw [hn]; exact hb.2.2
      rw [← hlen, ← hn]
      rw [← hn] at ha hb'
      have HA := Aside0.mk ha
      have HB := Aside0.mk hb'
      have HY := Aside0.mk hb
      have HN := Aside0.mk hn
      have HL := Aside0.mk hlen
      clear ha hb' hb hn hlen HR0 HR1
      obtain ⟨res, hres⟩ : ∃ res, res = decide (l0 = l1) := ⟨_, rfl⟩
      rw [← hres]
      have HRES := Aside0.mk hres
      clear hres
      go_enter Try.func24, Try.ntmps24
      go_wp2
      go_loopw [13] (fun v wr => ∃ i : Nat, i ≤ n ∧ v = .int .i64 i ∧ Aside0 (∀ j, j < i → l0.getD j [] = l1.getD j []) ∧ Aside0 (Drawn0 w wr)) (fun v _ => n - (intOf v).toNat)
      case atStart => exact ⟨0, Nat.zero_le _, by simp, ⟨fun j hj => by omega⟩, ⟨Drawn0.refl _⟩⟩
      case round =>
        obtain ⟨i, hi, rfl, HE, HD⟩ := hrel
        obtain ⟨⟨nd, rfl⟩⟩ := HD.out
        by_cases hlt : i < n
        · have w0 : wrap64 ((i : Int) + 1) = (i : Int) + 1 := by unfold wrap64; omega
          obtain ⟨ad0, a0, d0, rfl, hz0⟩ := HA.out i hlt
          obtain ⟨ad1, a1, d1, rfl, hz1⟩ := HB.out i hlt
          obtain ⟨x0, _⟩ := hz0 w (Below.refl _ _)
          obtain ⟨x1, _⟩ := hz1 w (Below.refl _ _)
          have y0 := (hz0 (w.drewN (nd + 1)) (pw_below_drewN (Below.refl _ _) _)).2
          have y1 := (hz1 (w.drewN (nd + 1)) (pw_below_drewN (Below.refl _ _) _)).2
          have HE2 := Aside0.mk (row_eq (rows_bytes HY.out.1 i) (rows_bytes HY.out.2.1 i))
          obtain ⟨s0, hs0⟩ : ∃ s, s = strOfNums (l0.getD i []) := ⟨_, rfl⟩
          obtain ⟨s1, hs1⟩ : ∃ s, s = strOfNums (l1.getD i []) := ⟨_, rfl⟩
          obtain ⟨m0, hm0⟩ : ∃ m, m = (l0.getD i []).length := ⟨_, rfl⟩
          obtain ⟨m1, hm1⟩ : ∃ m, m = (l1.getD i []).length := ⟨_, rfl⟩
          rw [← hs0, ← hm0] at y0
          rw [← hs1, ← hm1] at y1
          rw [← hm0] at x0
          rw [← hm1] at x1
          have HE3 : Aside0 (s0.toList = s1.toList ↔ l0.getD i [] = l1.getD i []) := ⟨by rw [hs0, hs1]; exact HE2.out⟩
          clear hz0 hz1 HE2 hs0 hs1 hm0 hm1 HA HB
          by_cases es : s0.toList = s1.toList
          · have b0 : (s0.toList == s1.toList) = true := beq_iff_eq.mpr es
            have b1 : (s0.toList != s1.toList) = false := bne_eq_false_iff_eq.mpr es
            have HE4 : Aside0 (∀ j, j < i + 1 → l0.getD j [] = l1.getD j []) := ⟨fun j hj => by
              by_cases e : j = i
              · subst e; exact HE3.out.1 es
              · exact HE.out j (by omega)⟩
            clear es
            go_wp2
            go_region
            all_goals
              go_wp2
              go_roundw
              case rel => exact ⟨i + 1, by omega, by go_num, HE4, ⟨⟨_, rfl⟩⟩⟩
              case measure => simp [intOf]; omega
          · have b0 : (s0.toList == s1.toList) = false := beq_eq_false_iff_ne.mpr es
            have b1 : (s0.toList != s1.toList) = true := bne_iff_ne.mpr es
            have HR2 : Aside0 (res = false) := ⟨by rw [HRES.out]; exact decide_eq_false (fun e => es (HE3.out.2 (by rw [e])))⟩
            clear es
            go_wp2
            go_region
            all_goals
              go_wp2
              go_ret
              exact ⟨by rw [HR2.out]; rfl, ⟨⟨_, rfl⟩⟩⟩
        · have hie : i = n := by omega
          have HR2 : Aside0 (res = true) := ⟨by
            rw [HRES.out]
            apply decide_eq_true
            apply List.ext_getElem?
            intro j
            by_cases hj : j < n
            · have := HE.out j (by omega)
              have h0 : j < l0.length := by rw [← HN.out]; exact hj
              have h1 : j < l1.length := by rw [← HL.out]; exact h0
              rw [List.getD_eq_getElem?_getD, List.getD_eq_getElem?_getD, List.getElem?_eq_getElem h0, List.getElem?_eq_getElem h1] at this
              rw [List.getElem?_eq_getElem h0, List.getElem?_eq_getElem h1]
              exact congrArg some this
            · rw [List.getElem?_eq_none (by rw [← HN.out]; omega), List.getElem?_eq_none (by rw [← HL.out, ← HN.out]; omega)]⟩
          clear HA HB HE HY
          go_wp2
          go_ret
          exact ⟨by rw [HR2.out]; rfl, ⟨⟨_, rfl⟩⟩⟩
    · have hne : decide (l0 = l1) = false := decide_eq_false (fun e => hlen (by rw [e]))
      have b0 : ((l0.length : Int) == (l1.length : Int)) = false := by simp; omega
      have b1 : ((l0.length : Int) != (l1.length : Int)) = true := by simp; omega
      rw [hne]
      clear hne
      go_enter Try.func24, Try.ntmps24
      go_wp2
      go_ret
      exact ⟨rfl, Drawn0.refl _⟩
  · rw [if_neg hb] at h; cases h
end Go.Proofs.Ytlobaomleocpjaa.G
