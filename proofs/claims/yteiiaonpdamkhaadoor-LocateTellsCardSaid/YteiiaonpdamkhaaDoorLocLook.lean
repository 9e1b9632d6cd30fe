/- locate's look and wrong over this seat's program: what pieces are looked at. Conditions: each lemma's own. -/
import Derived.Test.YteiiaonpdamkhaaDoorGx2
import Derived.Test.YteiiaonpdamkhaaDoorLocPut
import Derived.Laws.MakeOwn
import Derived.Deep.RegionHeld3
import Derived.Deep.RegionLaw
namespace Go.Proofs.YteiiaonpdamkhaaDoor.G
open Go.RowKit Go.Proofs.YteiiaonpdamkhaaDoorW.PrintWords Go.Proofs.YteiiaonpdamkhaaDoorW.PrintLast Go.Proofs.YteiiaonpdamkhaaDoorW.PrintMore
set_option linter.unusedVariables false
set_option linter.unusedSimpArgs false
def txt (l : List ByteArray) (i : Nat) : ByteArray := l.getD i ByteArray.empty
theorem txt_get (l : List ByteArray) {i : Nat} (h : i < l.length) : txt l i = l[i] := by unfold txt; rw [List.getD_eq_getElem?_getD, List.getElem?_eq_getElem h]; rfl
theorem rdOf_txt (l : List ByteArray) (i : Nat) : rdOf ByteArray.empty l (i : Int) = txt l i := by simp [rdOf, txt]
theorem wrap_succ (n : Nat) (h : n ≤ 1099511627776) : wrap64 ((n : Int) + 1) = (n : Int) + 1 := by unfold wrap64; omega
/-- Pieces that are not of one length. -/
def Uneven (l : List ByteArray) : Prop := ∃ i : Nat, i < l.length ∧ (txt l i).size ≠ (txt l 0).size
set_option maxHeartbeats 4000000 in
set_option maxRecDepth 100000 in
theorem index_calls (A : Option Addr) (c : Nat) (l : List ByteArray) (gp : Nat) (w : World) (hr : Kd.C Kd.string w A l.length l) (hc : l.length ≤ c) (hp : w.cell? ⟨gp, 0, none⟩ = some (.slice A l.length c)) (hl : l.length ≤ 1099511627776) :
    Calls Tryd.prog 50 #[.slice A l.length c, .func (.func 39) #[] #[.pointer (some ⟨gp, 0, none⟩)]] w fun e w' => ∃ r : Int, e = .returned (.int .i64 r) ∧ (0 ≤ r ↔ Uneven l) ∧ Below w.heap.size w w' := by
  have HR := Aside0.mk hr
  have HL := Aside0.mk hl
  have HP := Aside0.mk hp
  clear hr hp
  go_enter Tryd.func50, Tryd.ntmps50
  go_wp2
  go_loopw [8] (fun i wr => ∃ q : Nat, q ≤ l.length ∧ i = .int .i64 q ∧ Aside0 (Below w.heap.size w wr) ∧ Aside0 (∀ j : Nat, j < q → (txt l j).size = (txt l 0).size)) (fun i _ => l.length - (intOf i).toNat)
  case atStart => exact ⟨0, Nat.zero_le _, by simp, ⟨Below.refl _ _⟩, ⟨fun j hj => absurd hj (Nat.not_lt_zero _)⟩⟩
  case round =>
    obtain ⟨q, hq, rfl, HB, HE⟩ := hrel
    by_cases hlt : q < l.length
    · have c1 : decide ((q : Int) < (l.length : Int)) = true := decide_eq_true (by omega)
      have c3 : (q : Int) < (l.length : Int) := by omega
      have c4 : (0 : Int) < (l.length : Int) := by omega
      have hcp := (HB.out.cell (World.block_lt_of_cell? w _ HP.out)).trans HP.out
      obtain ⟨ad, rfl, hx⟩ := Kd.at_string HR.out (q : Int) (by omega) c3
      obtain ⟨ad', had, hy⟩ := Kd.at_string HR.out (0 : Int) (by omega) c4
      cases had
      replace hx := (HB.out.cell (World.block_lt_of_cell? w _ hx)).trans hx
      replace hy := (HB.out.cell (World.block_lt_of_cell? w _ hy)).trans hy
      rw [Int.toNat_natCast, rdOf_txt] at hx
      have e0 : rdOf ByteArray.empty l 0 = txt l 0 := rdOf_txt l 0
      rw [e0] at hy
      have hy2 : wr.cell? ad = some (.string (txt l 0)) := hy
      obtain ⟨sp, hsp⟩ : ∃ s, s = txt l q := ⟨_, rfl⟩
      obtain ⟨s0, hs0⟩ : ∃ s, s = txt l 0 := ⟨_, rfl⟩
      rw [← hsp] at hx
      rw [← hs0] at hy2
      have HSP := Aside0.mk hsp
      have HS0 := Aside0.mk hs0
      clear e0 hy hsp hs0
      by_cases he : sp.size = s0.size
      · have e1 : (((sp.size : Int)) != ((s0.size : Int))) = false := by rw [he]; simp
        have HE2 := Aside0.mk he
        clear he
        go_wp2
        go_roundw
        case rel => exact ⟨q + 1, by omega, by first | rfl | simp, HB, ⟨fun j hj => by
          rcases Nat.lt_succ_iff_lt_or_eq.1 hj with h | h
          · exact HE.out j h
          · rw [h, ← HSP.out, ← HS0.out]; exact HE2.out⟩⟩
        case measure => simp [intOf]; omega
      · have e1 : (((sp.size : Int)) != ((s0.size : Int))) = true := bne_iff_ne.mpr (by omega)
        have HE2 := Aside0.mk he
        clear he
        go_wp2
        go_ret
        exact ⟨q, rfl, ⟨fun _ => ⟨q, hlt, by rw [← HSP.out, ← HS0.out]; exact HE2.out⟩, fun _ => by omega⟩, HB.out⟩
    · obtain rfl : q = l.length := by omega
      have c1 : decide ((l.length : Int) < (l.length : Int)) = false := decide_eq_false (by omega)
      go_wp2
      go_ret
      exact ⟨-1, rfl, ⟨fun h => by omega, fun ⟨i, h1, h2⟩ => absurd (HE.out i h1) h2⟩, HB.out⟩
open Classical in
set_option maxHeartbeats 4000000 in
set_option maxRecDepth 100000 in
theorem contains_calls (A : Option Addr) (c : Nat) (l : List ByteArray) (gp : Nat) (w : World) (hr : Kd.C Kd.string w A l.length l) (hc : l.length ≤ c) (hp : w.cell? ⟨gp, 0, none⟩ = some (.slice A l.length c)) (hl : l.length ≤ 1099511627776) :
    Calls Tryd.prog 38 #[.slice A l.length c, .func (.func 39) #[] #[.pointer (some ⟨gp, 0, none⟩)]] w fun e w' => e = .returned (.bool (decide (Uneven l))) ∧ Below w.heap.size w w' := by
  have IX := Aside0.mk (index_calls A c l gp w hr hc hp hl)
  clear hr hp hl
  go_enter Tryd.func38, Tryd.ntmps38
  go_wp2_with (go_at_call 50; refine IX.out.mono ?_; rintro e w' ⟨r, rfl, hiff, hb⟩; have e1 : decide ((0 : Int) ≤ r) = decide (Uneven l) := decide_eq_decide.mpr hiff; have HB := Aside0.mk hb; clear hb hiff)
  go_ret
  refine ⟨?_, HB.out⟩
  first | rfl | (rw [← e1])
/-- What is looked at, at block g. -/
def Clue (W : World) (g : Nat) (k m : Int) (P O : List ByteArray) : Prop := ∃ A2 c2 A3 c3, W.heap[g]? = some (.cells #[.int .i64 k, .int .i64 m, .slice A2 P.length c2, .slice A3 O.length c3] 63 (0, 0)) ∧ P.length ≤ c2 ∧ O.length ≤ c3 ∧ Kd.C Kd.string W A2 P.length P ∧ Kd.C Kd.string W A3 O.length O
theorem Clue.below {W W1 : World} {g : Nat} {k m : Int} {P O : List ByteArray} (h : Clue W g k m P O) (hb : Below W.heap.size W W1) : Clue W1 g k m P O := by
  obtain ⟨A2, c2, A3, c3, h1, h2, h3, h4, h5⟩ := h
  have hl : g < W.heap.size := (Array.getElem?_eq_some_iff.1 h1).1
  exact ⟨A2, c2, A3, c3, (hb.block g hl).trans h1, h2, h3, Kd.C_below h4 hb, Kd.C_below h5 hb⟩
def offL (p l : List ByteArray) (kn n : Nat) : List ByteArray := (List.range n).map fun i => putX (txt p i) (txt l (kn + i))
theorem offL_length (p l : List ByteArray) (kn n : Nat) : (offL p l kn n).length = n := by simp [offL]
theorem offL_succ (p l : List ByteArray) (kn n : Nat) : offL p l kn (n + 1) = offL p l kn n ++ [putX (txt p n) (txt l (kn + n))] := by simp [offL, List.range_succ]
theorem put_some (a b : ByteArray) (ha : a.size ≤ 1099511627776) (hb : b.size ≤ 1099511627776) : locate_put.f a b = some (putX a b) := by unfold locate_put.f; rw [if_pos ⟨ha, hb⟩]
theorem lit_one (W : World) (x : ByteArray) : Kd.C Kd.string (W.alloc (.cells #[.string x] 9)) (some ⟨W.heap.size, 0, none⟩) 1 [x] := by
  have h := World.ownsRow_lit (base := 0) (e := 9) (size := 1) W #[.string x] 1 (Nat.zero_le _) (by simp [maxLen]) (by simp)
  have h2 : Kd.R Kd.string 9 (W.alloc (.cells #[.string x] 9)) 0 (fun _ => True) (.slice (some ⟨W.heap.size, 0, none⟩) 1 1) [x] := Kd.R_of_own (by simpa [encs] using h) (fun _ _ => trivial)
  exact (Kd.R_reads' h2).2.2
theorem after_append {W W1 : World} {g : Nat} {k m u v : Value} {row : Option Nat} (h : W.heap[g]? = some (.cells #[k, m, u, v] 63 (0, 0))) (hg : W.grownBy W1 row) (hne : some g ≠ row) (v1 : Value) :
    W1.cell? ⟨g, 3, none⟩ = some v ∧ W1.frozen? ⟨g, 3, none⟩ = false ∧ (W1.setCell ⟨g, 3, none⟩ v1).heap[g]? = some (.cells #[k, m, u, v1] 63 (0, 0)) := by
  have h1 := blk_grown h hg hne
  refine ⟨by rw [blk_cell h1]; rfl, blk_frozen h1 _, ?_⟩
  have h2 := blk_set h1 3 v1
  simpa using h2
open Classical in
set_option maxHeartbeats 4000000 in
set_option maxRecDepth 100000 in
theorem look_ok (kk kn mn : Nat) (A : Option Addr) (c : Nat) (l p : List ByteArray) (w : World) (hr : Kd.C Kd.string w A l.length l) (hc : l.length ≤ c) (hk : 1 ≤ kn) (hkm : kn + mn ≤ 255) (hl : l.length = kn + mn) (hu : ¬ Uneven l)
    (he : rs_Encode.f kk kn mn (l.take kn) = some (p, 0)) (hp : p.length = mn) (hs : ∀ i : Nat, i < l.length → (txt l i).size ≤ 1099511627776) (hs2 : ∀ i : Nat, i < p.length → (txt p i).size ≤ 1099511627776) :
    Calls Tryd.prog 22 #[.int .i64 kn, .int .i64 mn, .slice A l.length c] w fun e w' => ∃ g, e = .returned (.tuple #[.pointer (some ⟨g, 0, none⟩), .int .i64 0]) ∧ w.heap.size ≤ g ∧ Clue w' g kn mn l (offL p l kn mn) ∧ Below w.heap.size w w' := by
  have hck : rs_Check.f kn mn = some 0 := by
    unfold rs_Check.f
    have e1 : wrap64 (255 - (kn : Int)) = 255 - kn := by unfold wrap64; omega
    rw [e1, if_neg (by omega), if_neg (by omega), if_neg (by omega), if_neg (by omega)]
  have hw1 : wrap64 ((kn : Int) + mn) = (kn : Int) + mn := by unfold wrap64; omega
  have eL : (l.length : Int) = (kn : Int) + mn := by omega
  have d1 : ((l.length : Int) != (kn : Int) + mn) = false := by rw [eL]; simp
  have d2 : decide (Uneven l) = false := decide_eq_false hu
  have htk : (l.take kn).length = kn := by rw [List.length_take]; omega
  obtain ⟨ad, rfl, -⟩ := Kd.at_string hr 0 (by omega) (by omega)
  have HC := Aside0.mk hr
  have HCC := Aside0.mk hc
  have CK := Aside0.mk hck
  have HE := Aside0.mk he
  have HU := Aside0.mk hu
  have HP := Aside0.mk hp
  have HS := Aside0.mk hs
  have HS2 := Aside0.mk hs2
  have HL := Aside0.mk hl
  have HTK := Aside0.mk htk
  have HW := Aside0.mk hw1
  clear hr hck he hu hs hs2 hw1 eL htk hl hp
  have hB1 : Below w.heap.size w (w.alloc (.cells #[.slice (some ad) l.length c] 22)) := below_alloc (Below.refl _ _) _
  have hbx : (w.alloc (.cells #[.slice (some ad) l.length c] 22)).cell? ⟨w.heap.size, 0, none⟩ = some (.slice (some ad) l.length c) := by
    have hn : (w.alloc (.cells #[.slice (some ad) l.length c] 22)).heap[w.heap.size]? = some (.cells #[.slice (some ad) l.length c] 22 (0, 0)) := blk_new w _
    unfold World.cell?; dsimp only; rw [hn]; rfl
  have HB1 := Aside0.mk hB1
  have HBX := Aside0.mk hbx
  clear hB1
  go_enter Tryd.func22, Tryd.ntmps22
  go_upto_region 6 with (first
    | (go_at_call 30; (with_reducible refine (rs_Check.calls _ _ _ _ CK.out).mono ?_); rintro e w2 ⟨rfl, ⟨nd, rfl⟩⟩)
    | (go_at_call 38; (refine (contains_calls (some ad) c l w.heap.size _ ?side1 HCC.out ?side2 (by have := HL.out; omega)).mono ?_); (case side1 => exact Kd.C_below HC.out (pw_below_drewN HB1.out _)); (case side2 => exact HBX.out); rintro e w3 ⟨rfl, hb⟩; have HB3 := Aside0.mk ((pw_below_drewN HB1.out nd).trans (hb.mono (by simp))); have hbx3 := (hb.cell (p := ⟨w.heap.size, 0, none⟩) (by simp)).trans hbx; clear hb))
  have hEnc : ∀ W : World, Kd.C Kd.string W (some ad) l.length l → Calls Tryd.prog 17 #[.int .i64 kn, .int .i64 mn, .slice (some ad) kn c] W fun e w' => ∃ v0_ : Value, e = .returned (.tuple #[v0_, .int .i64 0]) ∧ Kd.R Kd.string 9 w' W.heap.size (fun _ => True) v0_ p ∧ Below W.heap.size W w' := fun W hW => by
    have h := rs_Encode.calls kk kn mn (some ad) c (l.take kn) p 0 W (Kd.C_take hW (by have := HL.out; omega)) (by rw [HTK.out]; have := HL.out; have := HCC.out; omega) HE.out
    rw [HTK.out] at h
    exact h
  have HENC := Aside0.mk hEnc
  clear hEnc
  have s1 : ((kn : Int) ≤ (c : Int)) := by have := HL.out; have := HCC.out; omega
  have HC3 := Aside0.mk (Kd.C_below HC.out HB3.out)
  have hx3 : w3.drew.cell? ⟨w.heap.size, 0, none⟩ = some (.slice (some ad) l.length c) := hbx3
  clear d1 hbx HBX
  go_upto_region 7 with (first
    | (go_at_call 17; (refine (HENC.out _ HC3.out).mono ?_); rintro e w4 ⟨v0, rfl, ho, hb⟩; have HB4 := Aside0.mk (HB3.out.trans (hb.mono HB3.out.size)); have hbx4 := (hb.cell (p := ⟨w.heap.size, 0, none⟩) (World.block_lt_of_cell? w3 _ hbx3)).trans hbx3; have HO4 := Aside0.mk ho; clear hb ho))
  obtain ⟨Ap, cp, ev⟩ := Kd.R_slice HO4.out
  subst ev
  clear hx3 hbx3 HC3 HENC HB3 s1
  go_upto_region 11 with (fail)
  obtain ⟨g, hg⟩ : ∃ g, g = w4.heap.size := ⟨_, rfl⟩
  have HG := Aside0.mk hg
  have hc0 : (w4.alloc (.cells #[.int .i64 kn, .int .i64 mn, .slice (some ad) l.length c, .slice none 0 0] 63)).heap[g]? = some (.cells #[.int .i64 kn, .int .i64 mn, .slice (some ad) l.length c, .slice none 0 0] 63 (0, 0)) := by rw [hg]; exact blk_new w4 _
  have hb0 : Below g w4 (w4.alloc (.cells #[.int .i64 kn, .int .i64 mn, .slice (some ad) l.length c, .slice none 0 0] 63)) := by rw [hg]; exact below_alloc (Below.refl _ _) _
  have hz0 : g < (w4.alloc (.cells #[.int .i64 kn, .int .i64 mn, .slice (some ad) l.length c, .slice none 0 0] 63)).heap.size := by rw [hg]; simp
  generalize (w4.alloc (.cells #[.int .i64 kn, .int .i64 mn, .slice (some ad) l.length c, .slice none 0 0] 63)) = w5 at *
  rw [← hg]
  have HC0 := Aside0.mk hc0
  have HB0 := Aside0.mk hb0
  have HZ0 := Aside0.mk hz0
  have HBX4 := Aside0.mk hbx4
  have HCP := Aside0.mk (Kd.R_reads' HO4.out).2.2
  have HKM := Aside0.mk hkm
  clear hc0 hb0 hz0 hbx4 hg d2
  go_loopg [50] p.length (fun kq v50 wr => ∃ (q : Nat) (v : Value), Aside0 (q + kq = p.length) ∧ v50 = .int .i64 q ∧ Aside0 (Below g w4 wr) ∧ Aside0 (wr.heap[g]? = some (.cells #[.int .i64 kn, .int .i64 mn, .slice (some ad) l.length c, v] 63 (0, 0))) ∧ Aside0 (Kd.R Kd.string 9 wr g (fun k => k ≠ g) v (offL p l kn q)))
  case atStart => exact ⟨0, _, ⟨by omega⟩, rfl, HB0, HC0, ⟨Kd.R_nil _ _ _ _ _⟩⟩
  case round =>
    obtain ⟨q, v, HQ, rfl, HB, HC1, HO⟩ := hrel
    cases gk with
    | succ k1 =>
      have hlt : q < p.length := by have := HQ.out; omega
      have HLT := Aside0.mk hlt
      have c1 : decide ((q : Int) < (p.length : Int)) = true := decide_eq_true (by omega)
      have c3 : (q : Int) < (p.length : Int) := by omega
      obtain ⟨ap, rfl, hx⟩ := Kd.at_string HCP.out (q : Int) (by omega) c3
      rw [Int.toNat_natCast, rdOf_txt] at hx
      have c4 : ((kn : Int) + q) < (l.length : Int) := by have := HL.out; have := HP.out; omega
      have c5 : (0 : Int) ≤ (kn : Int) + q := by omega
      obtain ⟨ad', had, hy⟩ := Kd.at_string HC.out ((kn : Int) + q) c5 c4
      cases had
      have e5 : ((kn : Int) + q).toNat = kn + q := by omega
      have e6 : rdOf ByteArray.empty l ((kn : Int) + q) = txt l (kn + q) := by unfold rdOf txt; rw [e5]
      rw [e5, e6] at hy
      obtain ⟨sp, hsp⟩ : ∃ s, s = txt p q := ⟨_, rfl⟩
      obtain ⟨tp, htp⟩ : ∃ s, s = txt l (kn + q) := ⟨_, rfl⟩
      rw [← hsp] at hx
      rw [← htp] at hy
      have hlw4 : ∀ b, b < w4.heap.size → b < g := fun b hb => by rw [HG.out]; exact hb
      have hy4 := (HB4.out.cell (World.block_lt_of_cell? w _ hy)).trans hy
      have hx5 := (HB.out.cell (hlw4 _ (World.block_lt_of_cell? w4 _ hx))).trans hx
      have hy5 := (HB.out.cell (hlw4 _ (World.block_lt_of_cell? w4 _ hy4))).trans hy4
      have hb5 := (HB.out.cell (hlw4 _ (World.block_lt_of_cell? w4 _ HBX4.out))).trans HBX4.out
      have ho5 : wr.cell? ⟨g, 3, none⟩ = some v := by rw [blk_cell HC1.out]; rfl
      have hf5 : wr.frozen? ⟨g, 3, none⟩ = false := blk_frozen HC1.out _
      have hgl : g < wr.heap.size := (Array.getElem?_eq_some_iff.1 HC1.out).1
      have HPUT := Aside0.mk (put_some sp tp (by rw [hsp]; exact HS2.out q hlt) (by rw [htp]; exact HS.out (kn + q) (by have := HL.out; have := HP.out; omega)))
      have HSP := Aside0.mk hsp
      have HTP := Aside0.mk htp
      clear hx hy hy4 e5 e6 hsp htp hlt hlw4
      go_upto_region 13 with (fail)
      obtain ⟨Q, hQ⟩ : ∃ Q, Q = kn + q := ⟨_, rfl⟩
      have hwq : IntKind.i64.wrap ((kn : Int) + q) = (Q : Int) := by rw [IntKind.wrap_i64]; have := HKM.out; have := HP.out; have := HLT.out; omega
      have hql : (Q : Int) < (l.length : Int) := by omega
      rw [← hQ] at hy5
      have zy : wr.drew.cell? (ad.add Q) = some (.string tp) := hy5
      have HQQ := Aside0.mk hQ
      clear hQ c4 c5
      have zb : wr.drew.cell? ⟨w.heap.size, 0, none⟩ = some (.slice (some ad) l.length c) := hb5
      have zo : wr.drew.cell? ⟨g, 3, none⟩ = some v := ho5
      have zf : wr.drew.frozen? ⟨g, 3, none⟩ = false := hf5
      go_region_law (first
        | (refine Kd.R_append_rows_step Kd.string (w0 := w4) g (by simp [Region.wanted]) (.tmp 59) (.tmp 68) 22 9 (.string ⟨#[]⟩) 16 rfl Tryd.underlying22 info9 rfl (by decide) (by omega) v (offL p l kn q) [putX sp tp] _ _ _ (fun k => k ≠ g) (fun _ => False) rfl rfl ?aO ?aR (fun _ _ h => h) (fun _ h => h.elim) ?aF ?aB ?aS ?aL ?_; (case aO => exact HO2.out); (case aR => exact HL2.out); (case aF => exact (fun k hk => by have := HZ2.out; omega)); (case aB => exact HB2.out); (case aS => have := HZ2.out; omega); (case aL => have := HLT.out; have := HP.out; have := HKM.out; rw [offL_length]; omega); intro v1 w10 ho10 hb10 hg10 _; obtain ⟨A1, z1, ev1⟩ := Kd.R_slice ho10; (obtain ⟨n1, hn1⟩ : ∃ n, n = (offL p l kn q ++ [putX sp tp]).length := ⟨_, rfl⟩); rw [← hn1] at ev1; clear hn1; subst ev1; have hst10 := after_append HC2.out hg10 HNE.out (.slice A1 n1 z1); have ho10c := hst10.1; have ho10f := hst10.2.1; have HST := Aside0.mk hst10; have HO10 := Aside0.mk ho10; have HB10 := Aside0.mk hb10; clear hst10 ho10 hb10 hg10)
        | (go_simp; go_at_call 29; (refine (locate_put.calls sp tp _ _ HPUT.out).mono ?_); rintro e w2 ⟨rfl, hb2⟩; have zy2 := (hb2.cell (World.block_lt_of_cell? _ _ zy)).trans zy; have zb2 := (hb2.cell (World.block_lt_of_cell? _ _ zb)).trans zb; have zo2 := (hb2.cell (World.block_lt_of_cell? _ _ zo)).trans zo; have hbig : Below g w4 (w2.alloc (.cells #[.string (putX sp tp)] 9)) := (HB.out.drew.trans (hb2.mono (Nat.le_of_lt hgl))).alloc (Nat.le_trans (Nat.le_of_lt hgl) hb2.size) _; have HB2 := Aside0.mk hbig; have HZ2 := Aside0.mk (show g < (w2.alloc (.cells #[.string (putX sp tp)] 9)).heap.size by have := hb2.size; have : wr.drew.heap.size = wr.heap.size := rfl; simp; omega); have HC2 := Aside0.mk (blk_alloc (blk_below (blk_drew HC1.out) hb2) (.cells #[.string (putX sp tp)] 9)); have zo3 : (w2.alloc (.cells #[.string (putX sp tp)] 9)).cell? ⟨g, 3, none⟩ = some v := (by rw [blk_cell HC2.out]; rfl); have HO2 := Aside0.mk (Kd.R_alloc (Kd.R_below (Kd.R_drew HO.out) hb2) (.cells #[.string (putX sp tp)] 9)); have HL2 := Aside0.mk (lit_one w2 (putX sp tp)); have HNE := Aside0.mk (show some g ≠ v.ownBlock from fun e => HO.out.1 g e.symm rfl); clear hb2 hbig))
      all_goals
        have hst := HST.out.2.2
        have hb12 := Below.setCell HB10.out (p := ⟨g, 3, none⟩) (Nat.le_refl _) (.slice A1 n1 z1)
        have hr12 := Kd.R_far (p := ⟨g, 3, none⟩) HO10.out (fun k hk => hk) (.slice A1 n1 z1)
        have eo : offL p l kn q ++ [putX sp tp] = offL p l kn (q + 1) := by rw [offL_succ, HSP.out, HTP.out]
        rw [eo] at hr12
        have HA := Aside0.mk hst
        have HBB := Aside0.mk hb12
        have HRR := Aside0.mk hr12
        clear hst hb12 hr12 eo
        go_wp2
        go_roundg k1
        case measure => omega
        case rel => exact ⟨q + 1, _, ⟨by have := HQ.out; omega⟩, by first | rfl | (rw [wrap_succ q (by have := HLT.out; have := HP.out; have := HKM.out; omega)]; rfl), HBB, HA, HRR⟩
    | zero =>
      have hqq : q = p.length := by have := HQ.out; omega
      subst hqq
      have c1 : decide ((p.length : Int) < (p.length : Int)) = false := decide_eq_false (by omega)
      go_wp2
      go_ret2
      have hgw : w.heap.size ≤ g := by rw [HG.out]; exact HB4.out.size
      obtain ⟨A3, c3, ev3⟩ := Kd.R_slice HO.out
      subst ev3
      have hrd := Kd.R_reads' HO.out
      rw [← HP.out]
      refine ⟨g, rfl, hgw, ⟨some ad, c, A3, c3, ?_, HCC.out, hrd.2.1, ?_, ?_⟩, HB4.out.trans (HB.out.mono hgw)⟩
      · rw [HP.out]
        have := HC1.out
        rw [HP.out] at this
        exact this
      · exact Kd.C_below HC.out (HB4.out.trans (HB.out.mono hgw))
      · exact hrd.2.2
end Go.Proofs.YteiiaonpdamkhaaDoor.G
