/- The walk of caulktop.TopPacked over this seat's program: it answers true. Conditions: what zeros.Pack and zeros.Unpack compute, and begins; the places are of whole numbers of 64 bits. -/
import Derived.Test.YtoglapodcejocaaDoorCacheKeep
namespace Go.Proofs.YtoglapodcejocaaDoor.G
open Go.RowKit Go.Proofs.YtoglapodcejocaaDoorW.PrintWords Go.Proofs.YtoglapodcejocaaDoorW.PrintLast Go.Proofs.YtoglapodcejocaaDoorW.PrintMore
set_option linter.unusedVariables false
set_option linter.unusedSimpArgs false
set_option maxRecDepth 100000
def pl (x : S36) : Pl := (x.f0, x.f1)
/-- What is packed, and unpacked. -/
def PacksOk (k : Nat) (l2 : List ByteArray) (pk : ByteArray → ByteArray) : Prop := ∀ s ∈ l2, s.size ≤ 1024 → zeros_Pack.f k s = some (pk s, 0) ∧ zeros_Unpack.f k (pk s) = some (s, 0)
def placesOk (l : List S36) : Prop := ∀ x ∈ l, (Lit.int .i64 x.f0).wf = true ∧ (Lit.int .i64 x.f1).wf = true
open Classical in
noncomputable def caulktop_TopPacked.f (k : Nat) (a0 : Int) (l1 : List S36) (l2 : List ByteArray) : Option Bool := if caulktop_begins.f = some true ∧ placesOk l1 ∧ ∃ pk, PacksOk k l2 pk then some true else none
def caulktop_TopPacked.Pure : Prop := ∀ (a0 : Int) (l1 : List S36) (l2 : List ByteArray), (Lit.int .i64 a0).wf = true → (l1.length * 16 ≤ 140737488351232 ∧ ∀ x ∈ l1, ((Lit.int .i64 x.f0).wf = true ∧ (Lit.int .i64 x.f1).wf = true)) → (l2.length * 16 ≤ 140737488351232 ∧ ∀ x ∈ l2, x.size ≤ 140737488351232) → ∃ k, caulktop_TopPacked.f k a0 l1 l2 = some true
/-- A cache's texts are those that were put last under their places, packed. -/
def PackE (pk : ByteArray → ByteArray) (P : Nat → Pl) (T : Nat → ByteArray) (i : Nat) (E : List (Pl × ByteArray)) : Prop := ∀ p t, (p, t) ∈ E → ∃ k, k < i ∧ P k = p ∧ (∀ m, k < m → m < i → P m ≠ p) ∧ t = pk (T k)
theorem PackE.put {pk P T i E} {room : Int} (h : PackE pk P T i E) : PackE pk P T (i + 1) (putE room E (P i) (pk (T i))) := by
  intro p t hpt
  have hm : (p, t) ∈ (P i, pk (T i)) :: withoutE E (P i) := by
    unfold putE at hpt
    split at hpt
    · rw [List.dropLast_eq_take] at hpt; exact List.mem_of_mem_take hpt
    · exact hpt
  rcases List.mem_cons.1 hm with h' | h'
  · injection h' with e1 e2
    exact ⟨i, by omega, e1.symm, fun m h1 h2 => by omega, e2⟩
  · have hf := List.mem_filter.1 h'
    have hne : p ≠ P i := by simpa using hf.2
    obtain ⟨k, h1, h2, h3, h4⟩ := h p t hf.1
    refine ⟨k, by omega, h2, fun m q1 q2 => ?_, h4⟩
    by_cases e : m = i
    · subst e; exact fun e2 => hne e2.symm
    · exact h3 m q1 (by omega)
theorem PackE.get {pk P T i E E' p hit miss hit' miss' s is} (h : PackE pk P T i E) (hg : getE E p hit miss = (E', s, is, hit', miss')) : PackE pk P T i E' ∧ (is = true → ∃ k, k < i ∧ P k = p ∧ (∀ m, k < m → m < i → P m ≠ p) ∧ s = pk (T k)) := by
  unfold getE at hg
  cases hf : findE E p with
  | none =>
    rw [hf] at hg
    simp only [Prod.mk.injEq] at hg
    obtain ⟨rfl, _, rfl, _, _⟩ := hg
    exact ⟨h, fun e => by cases e⟩
  | some x =>
    rw [hf] at hg
    simp only [Prod.mk.injEq] at hg
    obtain ⟨rfl, rfl, rfl, _, _⟩ := hg
    have hm := List.mem_of_find?_eq_some hf
    have hp : x.1 = p := by simpa using List.find?_some hf
    have hx : (p, x.2) ∈ E := by rw [← hp]; exact hm
    refine ⟨fun q t hq => ?_, fun _ => h p x.2 hx⟩
    rcases List.mem_cons.1 hq with h' | h'
    · injection h' with e1 e2
      rw [e1, e2]; exact h p x.2 hx
    · exact h q t (List.mem_filter.1 h').1
theorem putE_le2 {room : Int} {E : List (Pl × ByteArray)} (p : Pl) (s : ByteArray) (h1 : 1 ≤ room) (h : (E.length : Int) ≤ room) : ((putE room E p s).length : Int) ≤ room := by
  have : (withoutE E p).length ≤ E.length := List.length_filter_le _ _
  unfold putE
  split
  · rw [List.length_dropLast]; simp; omega
  · simp; omega
/-- The cache, when i texts were put and n gets done. -/
structure PackS (w : World) (g : Nat) (room : Int) (pk : ByteArray → ByteArray) (P : Nat → Pl) (T : Nat → ByteArray) (i n : Nat) (hit miss : Int) (E : List (Pl × ByteArray)) (wr : World) : Prop where
  inv : CInv w wr (fun _ => False) g room hit miss E
  len : (E.length : Int) ≤ room
  txt : PackE pk P T i E
  hits : 0 ≤ hit ∧ hit ≤ n
  miss : 0 ≤ miss ∧ miss ≤ n
def PackR (w : World) (g : Nat) (room : Int) (pk : ByteArray → ByteArray) (P : Nat → Pl) (T : Nat → ByteArray) (i n : Nat) (wr : World) : Prop := ∃ hit miss E, PackS w g room pk P T i n hit miss E wr
theorem PackS.step {w g room pk P T i n hit miss E wr wr'} (h : PackS w g room pk P T i n hit miss E wr) (hb : Below wr.heap.size wr wr') : PackS w g room pk P T i n hit miss E wr' :=
  ⟨h.inv.step hb (fun k hk => hk.elim), h.len, h.txt, h.hits, h.miss⟩
theorem PackS.mono {w g room pk P T i n m hit miss E wr} (h : PackS w g room pk P T i n hit miss E wr) (hnm : n ≤ m) : PackS w g room pk P T i m hit miss E wr :=
  ⟨h.inv, h.len, h.txt, by have := h.hits; omega, by have := h.miss; omega⟩
set_option maxHeartbeats 8000000 in
theorem packed_none (room : Int) (A1 A2 : Option Addr) (c1 c2 n1 n2 : Nat) (w : World) (hG : GT w) (hB : caulktop_begins.f = some true) (h : room < 1 ∨ 4096 < room) :
    Calls Tryd.prog 4 #[.int .i64 room, .slice A1 n1 c1, .slice A2 n2 c2] w fun e w' => e = .returned (.bool true) ∧ Below w.heap.size w w' := by
  have HG := Aside0.mk hG
  have HBeg := Aside0.mk (caulktop_begins.calls true w hG hB)
  have HNo := fun W : World => Aside0.mk (new_none (w := W) h)
  clear h hG hB
  go_enter Tryd.func4, Tryd.ntmps4
  go_wp2_with (first
    | (go_at_call 5; refine HBeg.out.mono ?_; rintro e w1 ⟨rfl, hb⟩; have HB1 := Aside0.mk hb.below; clear hb)
    | (go_at_call 15; refine (HNo _).out.mono ?_; rintro e w1n ⟨rfl, hw⟩; subst hw))
  go_ret
  exact ⟨rfl, HB1.out⟩
set_option maxHeartbeats 8000000 in
theorem packed_many (room : Int) (A1 A2 : Option Addr) (c1 c2 n1 n2 : Nat) (w : World) (hG : GT w) (hB : caulktop_begins.f = some true) (h1 : 1 ≤ room) (h2 : room ≤ 4096) (hn : 60 < n1 ∨ (n1 ≤ 60 ∧ 60 < n2)) :
    Calls Tryd.prog 4 #[.int .i64 room, .slice A1 n1 c1, .slice A2 n2 c2] w fun e w' => e = .returned (.bool true) ∧ Below w.heap.size w w' := by
  have HG := Aside0.mk hG
  have HBeg := Aside0.mk (caulktop_begins.calls true w hG hB)
  have HR1 := Aside0.mk h1
  have HR2 := Aside0.mk h2
  have hn' : (60 : Int) < (n1 : Int) ∨ ((n1 : Int) ≤ 60 ∧ (60 : Int) < (n2 : Int)) := by omega
  clear h1 h2 hG hB hn
  rcases hn' with d1 | ⟨d1, d2⟩
  all_goals
    go_enter Tryd.func4, Tryd.ntmps4
    go_wp2_with (first
      | (go_at_call 5; refine HBeg.out.mono ?_; rintro e w1 ⟨rfl, hb⟩; have HB1 := Aside0.mk hb.below; clear hb)
      | (go_at_call 15; refine (new_calls HR1.out HR2.out).mono ?_; rintro e w2 ⟨rfl, hw, hb⟩; have HB2 := Aside0.mk (HB1.out.trans (hb.mono HB1.out.size)); clear hw hb))
    go_ret
    exact ⟨rfl, HB2.out⟩
set_option maxHeartbeats 16000000 in
theorem packed_ok (k : Nat) (room : Int) (A1 A2 : Option Addr) (c1 c2 : Nat) (l1 : List S36) (l2 : List ByteArray) (pk : ByteArray → ByteArray) (w : World) (hr1 : Kd.C k36 w A1 l1.length l1) (hr2 : Kd.C Kd.string w A2 l2.length l2) (hG : GT w) (hB : caulktop_begins.f = some true) (hpk : PacksOk k l2 pk) (hok : placesOk l1) (h1 : 1 ≤ room) (h2 : room ≤ 4096) (hn1 : l1.length ≤ 60) (hn2 : l2.length ≤ 60) :
    Calls Tryd.prog 4 #[.int .i64 room, .slice A1 l1.length c1, .slice A2 l2.length c2] w fun e w' => e = .returned (.bool true) ∧ Below w.heap.size w w' := by
  obtain ⟨n1, hN1⟩ : ∃ n1, n1 = l1.length := ⟨_, rfl⟩
  obtain ⟨n2, hN2⟩ : ∃ n2, n2 = l2.length := ⟨_, rfl⟩
  obtain ⟨P, hP⟩ : ∃ P : Nat → Pl, P = fun i : Nat => pl (rd_T36 l1 (i : Int)) := ⟨_, rfl⟩
  obtain ⟨T, hT⟩ : ∃ T : Nat → ByteArray, T = fun i : Nat => rdOf ByteArray.empty l2 (i : Int) := ⟨_, rfl⟩
  have HPok := Aside0.mk (show ∀ i, i < n1 → plOk (P i) from fun i hi => by
    rw [hN1] at hi
    rw [hP]
    have e : rd_T36 l1 (i : Int) = l1[i] := by unfold rd_T36; simp [List.getD_eq_getElem?_getD, List.getElem?_eq_getElem hi]
    have := hok l1[i] (List.getElem_mem hi)
    show plOk (pl (rd_T36 l1 (i : Int)))
    rw [e]
    exact this)
  have HTok := Aside0.mk (show ∀ i, i < n2 → (T i).size ≤ 1024 → zeros_Pack.f k (T i) = some (pk (T i), 0) ∧ zeros_Unpack.f k (pk (T i)) = some (T i, 0) from fun i hi => by
    rw [hN2] at hi
    rw [hT]
    have e : rdOf ByteArray.empty l2 (i : Int) = l2[i] := by unfold rdOf; simp [List.getD_eq_getElem?_getD, List.getElem?_eq_getElem hi]
    have h := hpk l2[i] (List.getElem_mem hi)
    rw [← e] at h
    exact h)
  have HP1 := Aside0.mk (show ∀ (W : World) (i : Nat), Below w.heap.size w W → i < n1 → ∃ ad, A1 = some ad ∧ W.cell? (ad.add (i * 2)) = some (.int .i64 (P i).1) ∧ W.cell? ⟨(ad.add (i * 2)).block, (ad.add (i * 2)).off + 1, none⟩ = some (.int .i64 (P i).2) from fun W i hW hi => by
    obtain ⟨ad, e, x0, x1⟩ := at_T36 (Kd.C_below hr1 hW) (i : Int) (by omega) (by omega)
    rw [Int.toNat_natCast] at x0 x1
    rw [hP]
    exact ⟨ad, e, x0, x1⟩)
  have HT1 := Aside0.mk (show ∀ (W : World) (i : Nat), Below w.heap.size w W → i < n2 → ∃ ad, A2 = some ad ∧ W.cell? (ad.add i) = some (.string (T i)) from fun W i hW hi => by
    obtain ⟨ad, e, x0⟩ := Kd.at_string (Kd.C_below hr2 hW) (i : Int) (by omega) (by omega)
    rw [Int.toNat_natCast] at x0
    rw [hT]
    exact ⟨ad, e, x0⟩)
  have HG := Aside0.mk hG
  have HBeg := Aside0.mk (caulktop_begins.calls true w hG hB)
  have HR1 := Aside0.mk h1
  have HR2 := Aside0.mk h2
  have HN1 := Aside0.mk (show n1 ≤ 60 by omega)
  have HN2 := Aside0.mk (show n2 ≤ 60 by omega)
  have d1 : (n1 : Int) ≤ 60 := by omega
  have d2 : (n2 : Int) ≤ 60 := by omega
  have d3 : (0 : Int) ≤ (n1 : Int) := by omega
  have d4 : decide ((60 : Int) < (n1 : Int)) = false := decide_eq_false (by omega)
  have d5 : decide ((60 : Int) < (n2 : Int)) = false := decide_eq_false (by omega)
  rw [← hN1, ← hN2]
  clear h1 h2 hG hB hn1 hn2 hr1 hr2 hpk hok hN1 hN2 hP hT
  go_enter Tryd.func4, Tryd.ntmps4
  go_wp2_with (first
    | (go_at_call 5; refine HBeg.out.mono ?_; rintro e w1 ⟨rfl, hb⟩; have HB1 := Aside0.mk hb.below; clear hb)
    | (go_at_call 15; refine (cinv_new HB1.out HR1.out HR2.out (fun _ => False) (fun _ h => h.elim)).mono ?_; rintro e w2 ⟨g, rfl, hi, hb⟩; have HI2 := Aside0.mk hi; clear hi hb))
  have HS2 := Aside0.mk (show PackR w g room pk P T 0 0 w2 from ⟨0, 0, [], HI2.out, by have := HR1.out; simp; omega, fun p t h => by simp at h, by omega, by omega⟩)
  go_loopw [51] (fun v51 wz => ∃ i : Nat, v51 = .int .i64 i ∧ Aside0 (i ≤ n2) ∧ Aside0 (i ≤ n1) ∧ Aside0 (PackR w g room pk P T i (61 * i) wz) ∧ Aside0 (∀ m, m < i → (T m).size ≤ 1024)) (fun v51 _ => n2 - (intOf v51).toNat)
  case atStart => exact ⟨0, rfl, ⟨Nat.zero_le _⟩, ⟨Nat.zero_le _⟩, HS2, ⟨fun m h => by omega⟩⟩
  case round =>
    obtain ⟨i, rfl, HI2', HI1', HPR, HSz⟩ := hrel
    obtain ⟨hit, miss, E, hS⟩ := HPR.out
    have HSF := Aside0.mk hS
    clear hS
    by_cases hlt : i < n2
    · obtain ⟨ad2, e2, t0⟩ := HT1.out wr i HSF.out.inv.below hlt
      cases e2
      have q1 : (0 : Int) ≤ (i : Int) := by omega
      have q2 : (i : Int) < (n2 : Int) := by omega
      have HLt := Aside0.mk hlt
      obtain ⟨s, hs⟩ : ∃ s, s = T i := ⟨_, rfl⟩
      rw [← hs] at t0
      have HSE := Aside0.mk hs
      clear hs
      by_cases hb1 : n1 ≤ i
      · have q3 : (n1 : Int) ≤ (i : Int) := by omega
        have hle := HSF.out.len
        go_wp2_with (go_at_call 20; refine (HSF.out.inv.orderLen (by have h1 := HSF.out.len; have h2 := HR2.out; omega)).mono ?_; rintro e w15 ⟨A15, c15, rfl, hb⟩; have HB15 := Aside0.mk hb; clear hb)
        go_ret
        exact ⟨rfl, HSF.out.inv.below.trans (HB15.out.mono HSF.out.inv.below.size)⟩
      · have q3 : ¬ (n1 : Int) ≤ (i : Int) := by omega
        have hb1' : i < n1 := by omega
        have HB1' := Aside0.mk hb1'
        clear hb1'
        by_cases hb2 : s.size > 1024
        · have q4 : (1024 : Int) < (s.size : Int) := by omega
          have hle := HSF.out.len
          go_wp2_with (go_at_call 20; refine (HSF.out.inv.orderLen (by have h1 := HSF.out.len; have h2 := HR2.out; omega)).mono ?_; rintro e w15 ⟨A15, c15, rfl, hb⟩; have HB15 := Aside0.mk hb; clear hb)
          go_ret
          exact ⟨rfl, HSF.out.inv.below.trans (HB15.out.mono HSF.out.inv.below.size)⟩
        · have q4 : ¬ (1024 : Int) < (s.size : Int) := by omega
          have hb2' : s.size ≤ 1024 := by omega
          have hT := HTok.out i hlt (by rw [← HSE.out]; exact hb2')
          rw [← HSE.out] at hT
          have HPk := Aside0.mk (zeros_Pack.calls k s (pk s) 0 wr (HG.out.below HSF.out.inv.below) hT.1)
          have hi60 : i ≤ 59 := by have := HN2.out; omega
          have HI60 := Aside0.mk hi60
          have HSz' := Aside0.mk (show ∀ m, m < i + 1 → (T m).size ≤ 1024 from fun m hm => by
            by_cases e : m = i
            · subst e; rw [← HSE.out]; exact hb2'
            · exact HSz.out m (by omega))
          clear hT hb2' hb2 hi60
          go_upto_region 13 with (go_at_call 16; (with_reducible refine HPk.out.mono ?_); rintro e w8 ⟨rfl, hb⟩; have HB8 := Aside0.mk hb; clear hb)
          have HS8 := Aside0.mk (HSF.out.step HB8.out)
          obtain ⟨ad1, e1, x0, x1⟩ := HP1.out w8 i HS8.out.inv.below HB1'.out
          cases e1
          go_wp2_with (go_at_call 17; refine (HS8.out.inv.put (by have h1 := HS8.out.len; have h2 := HR2.out; omega) (P i) (HPok.out i HB1'.out) (pk s)).mono ?_; rintro e w9 ⟨rfl, hi, hl⟩; have HI9 := Aside0.mk hi; clear hi hl)
          have HS9 := Aside0.mk (show PackS w g room pk P T (i + 1) (61 * i) hit miss (putE room E (P i) (pk s)) w9 from ⟨HI9.out, putE_le2 _ _ HR1.out HS8.out.len, by rw [HSE.out]; exact HS8.out.txt.put, HS8.out.hits, HS8.out.miss⟩)
          clear x0 x1
          go_loopw [13] (fun v13 wz => ∃ z : Nat, v13 = .int .i64 ((z : Int) - 1) ∧ Aside0 (z ≤ i + 1) ∧ Aside0 (PackR w g room pk P T (i + 1) (61 * i + (i + 1 - z)) wz)) (fun v13 _ => (intOf v13 + 1).toNat)
          case atStart => exact ⟨i + 1, by congr 1; omega, ⟨Nat.le_refl _⟩, ⟨hit, miss, _, by rw [Nat.sub_self]; exact HS9.out⟩⟩
          case round =>
            obtain ⟨z, rfl, HZ, HPz⟩ := hrel
            rcases Nat.eq_zero_or_pos z with rfl | hz
            · have e0 : ((0 : Nat) : Int) - 1 = -1 := by omega
              rw [e0]
              clear e0
              go_wp2
              go_roundw
              case rel => exact ⟨i + 1, by go_num, ⟨HLt.out⟩, ⟨HB1'.out⟩, by
                obtain ⟨h1, m1, E1, q⟩ := HPz.out
                exact ⟨h1, m1, E1, q.mono (by have := HI60.out; omega)⟩, HSz'⟩
              case measure => simp [intOf]; omega
            · obtain ⟨j, rfl⟩ : ∃ j, z = j + 1 := ⟨z - 1, by omega⟩
              have e0 : ((j + 1 : Nat) : Int) - 1 = (j : Int) := by omega
              rw [e0]
              have hji : j ≤ i := by have := HZ.out; omega
              obtain ⟨hit2, miss2, E2, hS2⟩ := HPz.out
              have HS2' := Aside0.mk hS2
              have hj1 : j < n1 := by have := HB1'.out; omega
              have HJ1 := Aside0.mk hj1
              have HJI := Aside0.mk hji
              have t1 : (0 : Int) ≤ (j : Int) := by omega
              have t2 : (j : Int) < (n1 : Int) := by omega
              obtain ⟨ad1', e1', x0, x1⟩ := HP1.out wr j hS2.inv.below hj1
              rw [← Option.some.inj e1'] at x0 x1
              clear e1'
              have hbd : (0 ≤ hit2 ∧ hit2 ≤ 1000000) ∧ (0 ≤ miss2 ∧ miss2 ≤ 1000000) := by have h1 := hS2.hits; have h2 := hS2.miss; have h3 := HI60.out; omega
              have HBD := Aside0.mk hbd
              clear hbd hS2 e0 hji hj1 hz
              go_upto_region 18 with (go_at_call 18; refine (HS2'.out.inv.get HBD.out.1 HBD.out.2 (P j) (HPok.out j HJ1.out)).mono ?_; rintro e w10 ⟨E3, s3, is3, hit3, miss3, rfl, hg3, hi, hl⟩; have HI10 := Aside0.mk hi; have HG3 := Aside0.mk hg3; clear hi hl hg3)
              have hle := getE_le2 E2 _ _ _ HG3.out
              have hget := HS2'.out.txt.get HG3.out
              have HS10 := Aside0.mk (show PackS w g room pk P T (i + 1) (61 * i + (i + 1 - j)) hit3 miss3 E3 w10 from ⟨HI10.out, by have := HS2'.out.len; have := hle.1; omega, hget.1, by have h1 := HS2'.out.hits; have h2 := HS2'.out.miss; have h3 := hle.2; have h4 := HJI.out; omega, by have h1 := HS2'.out.hits; have h2 := HS2'.out.miss; have h3 := hle.2; have h4 := HJI.out; omega⟩)
              have HGet := Aside0.mk hget.2
              clear hle hget x0 x1
              cases is3 with
              | false =>
                go_wp2
                go_roundw
                case rel => exact ⟨j, rfl, ⟨by have := HJI.out; omega⟩, ⟨hit3, miss3, E3, HS10.out⟩⟩
                case measure => first | (simp [intOf]; done) | (simp [intOf]; omega)
              | true =>
                obtain ⟨kk, hk1, hk2, hk3, hk4⟩ := HGet.out rfl
                have HK1 := Aside0.mk hk1
                have HK2 := Aside0.mk hk2
                have HK3 := Aside0.mk hk3
                have HK4 := Aside0.mk hk4
                clear hk1 hk2 hk3 hk4
                rename World => wg
                go_wp2
                go_loopw [16, 17] (fun v16 v17 wz => ∃ m last : Nat, v17 = .int .i64 m ∧ v16 = .int .i64 last ∧ Aside0 (j ≤ m ∧ m ≤ i + 1 ∧ j ≤ last ∧ last ≤ i) ∧ Aside0 (P last = P j) ∧ Aside0 (∀ q, last < q → q < m → P q ≠ P j) ∧ Aside0 (Below wg.heap.size wg wz)) (fun _ v17 _ => i + 1 - (intOf v17).toNat)
                case atStart => exact ⟨j, j, rfl, rfl, ⟨by have := HJI.out; omega⟩, ⟨rfl⟩, ⟨fun q h1 h2 => by omega⟩, ⟨Below.refl _ _⟩⟩
                case round =>
                  obtain ⟨m, last, rfl, rfl, HM, HLast, HAft, HBm⟩ := hrel
                  by_cases hm : m ≤ i
                  · have hm1 : m < n1 := by have := HB1'.out; omega
                    have HMi := Aside0.mk hm
                    have b1 : (0 : Int) ≤ (m : Int) := by omega
                    have b2 : (m : Int) < (n1 : Int) := by omega
                    have b3 : (m : Int) ≤ (i : Int) := by omega
                    have hBw := HS10.out.inv.below.trans (HBm.out.mono HS10.out.inv.below.size)
                    obtain ⟨ad1'', e1'', x0, x1⟩ := HP1.out wr.drew m hBw.drew hm1
                    obtain ⟨ad1''', e1''', x2, x3⟩ := HP1.out wr.drew j hBw.drew HJ1.out
                    rw [← Option.some.inj e1''] at x0 x1
                    rw [← Option.some.inj e1'''] at x2 x3
                    clear e1'' e1''' hBw
                    by_cases hq : P m = P j
                    · have h1 : (P m).1 = (P j).1 := by rw [hq]
                      have h2 : (P m).2 = (P j).2 := by rw [hq]
                      have HQ := Aside0.mk hq
                      clear hq
                      go_upto_region 23 with (fail)
                      go_region_held3 (fun w' => w'.cell? (ad1.add (m * 2)) = some (.int .i64 (P m).1) ∧ w'.cell? ⟨(ad1.add (m * 2)).block, (ad1.add (m * 2)).off + 1, none⟩ = some (.int .i64 (P m).2) ∧ w'.cell? (ad1.add (j * 2)) = some (.int .i64 (P j).1) ∧ w'.cell? ⟨(ad1.add (j * 2)).block, (ad1.add (j * 2)).off + 1, none⟩ = some (.int .i64 (P j).2)) ((refine ⟨?_, ?_, ?_, ?_⟩ <;> assumption)) (fail)
                      go_wp2
                      go_roundw
                      case rel => exact ⟨m + 1, m, by go_num, rfl, ⟨by have := HM.out; have := HMi.out; omega⟩, ⟨HQ.out⟩, ⟨fun q q1 q2 => by omega⟩, ⟨HBm.out.drew⟩⟩
                      case measure => have := HMi.out; simp [intOf]; omega
                    · have hor : ¬ (P m).1 = (P j).1 ∨ ((P m).1 = (P j).1 ∧ ¬ (P m).2 = (P j).2) := by
                        by_cases e1 : (P m).1 = (P j).1
                        · exact .inr ⟨e1, fun e2 => hq (Prod.ext e1 e2)⟩
                        · exact .inl e1
                      have HQ := Aside0.mk hq
                      clear hq
                      rcases hor with h1 | ⟨h1, h2⟩
                      all_goals
                        go_upto_region 23 with (fail)
                        go_region_held3 (fun w' => w'.cell? (ad1.add (m * 2)) = some (.int .i64 (P m).1) ∧ w'.cell? ⟨(ad1.add (m * 2)).block, (ad1.add (m * 2)).off + 1, none⟩ = some (.int .i64 (P m).2) ∧ w'.cell? (ad1.add (j * 2)) = some (.int .i64 (P j).1) ∧ w'.cell? ⟨(ad1.add (j * 2)).block, (ad1.add (j * 2)).off + 1, none⟩ = some (.int .i64 (P j).2)) ((refine ⟨?_, ?_, ?_, ?_⟩ <;> assumption)) (fail)
                        go_wp2
                        go_roundw
                        case rel => exact ⟨m + 1, last, by go_num, rfl, ⟨by have := HM.out; have := HMi.out; omega⟩, HLast, ⟨fun q q1 q2 => by
                          by_cases e : q = m
                          · subst e; exact HQ.out
                          · exact HAft.out q q1 (by omega)⟩, ⟨HBm.out.drew⟩⟩
                        case measure => have := HMi.out; simp [intOf]; omega
                  · have hmi : m = i + 1 := by have := HM.out; omega
                    have b3 : ¬ (m : Int) ≤ (i : Int) := by omega
                    have hlk : last = kk := by
                      rcases Nat.lt_trichotomy last kk with h | h | h
                      · exact absurd HK2.out (HAft.out kk h (by rw [hmi]; exact HK1.out))
                      · exact h
                      · exact absurd HLast.out (HK3.out last h (by have := HM.out; omega))
                    subst hlk
                    have hln : last < n2 := by have := HM.out; have := HLt.out; omega
                    have hBw := HS10.out.inv.below.trans (HBm.out.mono HS10.out.inv.below.size)
                    have HU := Aside0.mk (zeros_Unpack.calls k (pk (T last)) (T last) 0 wr (HTok.out last hln (HSz'.out last HK1.out)).2)
                    have HBw := Aside0.mk hBw
                    have HLn := Aside0.mk hln
                    have u1 : (0 : Int) ≤ (last : Int) := by omega
                    have u2 : (last : Int) < (n2 : Int) := by omega
                    rw [HK4.out]
                    clear hBw hln hm hmi
                    go_upto_region 26 with (go_at_call 19; (with_reducible refine HU.out.mono ?_); rintro e w11 ⟨rfl, hb⟩; have HB11 := Aside0.mk hb; clear hb)
                    obtain ⟨ad2', e2', y0⟩ := HT1.out w11 last (HBw.out.trans (HB11.out.mono HBw.out.size)) HLn.out
                    rw [← Option.some.inj e2'] at y0
                    clear e2'
                    go_wp2
                    go_roundw
                    case rel => exact ⟨j, rfl, ⟨by have := HJI.out; omega⟩, ⟨hit3, miss3, E3, by
                      have h := HS10.out.step (HBm.out.trans (HB11.out.mono HBm.out.size))
                      exact h.mono (by have := HJI.out; omega)⟩⟩
                    case measure => first | (simp [intOf]; done) | (simp [intOf]; omega)
    · have hle := HSF.out.len
      go_wp2_with (go_at_call 20; refine (HSF.out.inv.orderLen (by have h1 := HSF.out.len; have h2 := HR2.out; omega)).mono ?_; rintro e w15 ⟨A15, c15, rfl, hb⟩; have HB15 := Aside0.mk hb; clear hb)
      go_ret
      exact ⟨rfl, HSF.out.inv.below.trans (HB15.out.mono HSF.out.inv.below.size)⟩
theorem caulktop_TopPacked.calls (k : Nat) (a0 : Int) (A1 : Option Addr) (c1 : Nat) (l1 : List S36) (A2 : Option Addr) (c2 : Nat) (l2 : List ByteArray) (r : Bool) (w : World) (hr1 : Kd.C k36 w A1 l1.length l1) (hc1 : l1.length ≤ c1) (hr2 : Kd.C Kd.string w A2 l2.length l2) (hc2 : l2.length ≤ c2) (hG : GT w) (h : caulktop_TopPacked.f k a0 l1 l2 = some r) :
    Calls Tryd.prog 4 #[.int .i64 a0, .slice A1 l1.length c1, .slice A2 l2.length c2] w fun e w' => e = .returned (.bool r) ∧ Below w.heap.size w w' := by
  unfold caulktop_TopPacked.f at h
  by_cases hok : caulktop_begins.f = some true ∧ placesOk l1 ∧ ∃ pk, PacksOk k l2 pk
  · rw [if_pos hok] at h
    obtain rfl := Option.some.inj h
    obtain ⟨hB, hp, pk, hpk⟩ := hok
    by_cases h1 : a0 < 1 ∨ 4096 < a0
    · exact packed_none a0 A1 A2 c1 c2 l1.length l2.length w hG hB h1
    · by_cases hn : l1.length ≤ 60 ∧ l2.length ≤ 60
      · exact packed_ok k a0 A1 A2 c1 c2 l1 l2 pk w hr1 hr2 hG hB hpk hp (by omega) (by omega) hn.1 hn.2
      · exact packed_many a0 A1 A2 c1 c2 l1.length l2.length w hG hB (by omega) (by omega) (by omega)
  · rw [if_neg hok] at h; cases h
end Go.Proofs.YtoglapodcejocaaDoor.G
