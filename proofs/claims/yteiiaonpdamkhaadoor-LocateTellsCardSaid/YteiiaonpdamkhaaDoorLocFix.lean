/- The contracts of locate.Wrong, Find and Fix over this seat's program. Conditions: each lemma's own. -/
import Derived.Test.YteiiaonpdamkhaaDoorLocFind
import Derived.Test.YteiiaonpdamkhaaDoorClone
namespace Go.Proofs.YteiiaonpdamkhaaDoor.G
open Go.RowKit Go.Proofs.YteiiaonpdamkhaaDoorW.PrintWords Go.Proofs.YteiiaonpdamkhaaDoorW.PrintLast Go.Proofs.YteiiaonpdamkhaaDoorW.PrintMore
set_option linter.unusedVariables false
set_option linter.unusedSimpArgs false
open Classical in
/-- What look tells: why not, or by how much each row of parity is wrong. -/
noncomputable def lookF (kk : Nat) (k m : Int) (l : List ByteArray) : Option (Int × List ByteArray) := if lookWhy k m l ≠ 0 then some (lookWhy k m l, []) else (rs_Encode.f kk k m (l.take k.toNat)).bind fun p => if p.2 = 0 ∧ p.1.length = m.toNat ∧ (∀ i : Nat, i < l.length → (txt l i).size ≤ 1099511627776) ∧ (∀ i : Nat, i < p.1.length → (txt p.1 i).size ≤ 1099511627776) then some (0, offL p.1 l k.toNat m.toNat) else none
theorem look_bad (kk : Nat) (k m : Int) (A : Option Addr) (c : Nat) (l : List ByteArray) (o : List ByteArray) (y : Int) (w : World) (hr : Kd.C Kd.string w A l.length l) (hc : l.length ≤ c) (h : lookF kk k m l = some (y, o)) (hy : y ≠ 0) :
    Calls Tryd.prog 22 #[.int .i64 k, .int .i64 m, .slice A l.length c] w fun e w' => e = .returned (.tuple #[.pointer none, .int .i64 y]) ∧ Below w.heap.size w w' := by
  have hw : lookWhy k m l = y ∧ y ≠ 0 := by
    unfold lookF at h
    split at h
    · rename_i hc
      injection h with h
      injection h with h1 h2
      exact ⟨h1, hy⟩
    · obtain ⟨p, hp, hq⟩ := Option.bind_eq_some_iff.1 h
      split at hq
      · injection hq with hq
        injection hq with h1 h2
        exact absurd h1.symm hy
      · cases hq
  obtain ⟨hw, _⟩ := hw
  have hck := check_why k m
  unfold lookWhy at hw
  by_cases c1 : k < 1 ∨ m < 0 ∨ 255 < k + m
  · rw [if_pos c1] at hw hck
    subst hw
    exact look_range k m A c l w hck
  · rw [if_neg c1] at hw hck
    have n1 : 1 ≤ k := by omega
    have n2 : 0 ≤ m := by omega
    have n3 : k + m ≤ 255 := by omega
    by_cases c2 : (l.length : Int) ≠ k + m ∨ Uneven l
    · rw [if_pos c2] at hw
      subst hw
      by_cases c3 : (l.length : Int) = k + m
      · exact look_uneven k m A c l w hr hc hck n1 n2 n3 c3 (c2.resolve_left (fun h => h c3))
      · exact look_many k m A c l w hck n1 n2 n3 c3
    · rw [if_neg c2] at hw
      exact absurd hw.symm hy
theorem putX_size (a b : ByteArray) : (putX a b).size = a.size := by unfold putX; rw [strOfNums_size, putL_length, bytesOf_length]
theorem txt_offL (p l : List ByteArray) (kn n i : Nat) (h : i < n) : txt (offL p l kn n) i = putX (txt p i) (txt l (kn + i)) := by
  unfold offL
  unfold txt
  rw [List.getD_eq_getElem?_getD, List.getElem?_map, List.getElem?_range h]
  rfl
theorem look_good (kk : Nat) (k m : Int) (A : Option Addr) (c : Nat) (l : List ByteArray) (o : List ByteArray) (w : World) (hr : Kd.C Kd.string w A l.length l) (hc : l.length ≤ c) (h : lookF kk k m l = some (0, o)) :
    ∃ kn mn : Nat, k = kn ∧ m = mn ∧ 1 ≤ kn ∧ kn + mn ≤ 255 ∧ l.length = kn + mn ∧ o.length = mn ∧ (∀ i : Nat, i < o.length → (txt o i).size ≤ 1099511627776) ∧ (∀ i : Nat, i < l.length → (txt l i).size ≤ 1099511627776) ∧
    Calls Tryd.prog 22 #[.int .i64 k, .int .i64 m, .slice A l.length c] w fun e w' => ∃ g, e = .returned (.tuple #[.pointer (some ⟨g, 0, none⟩), .int .i64 0]) ∧ w.heap.size ≤ g ∧ Clue w' g kn mn l o ∧ Below w.heap.size w w' := by
  unfold lookF at h
  split at h
  · rename_i hc'
    injection h with h
    injection h with h1 h2
    exact absurd h1 hc'
  · rename_i hc'
    obtain ⟨p, hp, hq⟩ := Option.bind_eq_some_iff.1 h
    obtain ⟨p1, p2⟩ := p
    split at hq
    · rename_i hcc
      obtain ⟨g1, g2, g3, g4⟩ := hcc
      injection hq with hq
      injection hq with _ h2
      subst h2
      have hw : lookWhy k m l = 0 := by
        by_cases e : lookWhy k m l = 0
        · exact e
        · exact absurd e hc'
      unfold lookWhy at hw
      by_cases c1 : k < 1 ∨ m < 0 ∨ 255 < k + m
      · rw [if_pos c1] at hw; cases hw
      · rw [if_neg c1] at hw
        by_cases c2 : (l.length : Int) ≠ k + m ∨ Uneven l
        · rw [if_pos c2] at hw; cases hw
        · have ek : k = (k.toNat : Int) := by omega
          have em : m = (m.toNat : Int) := by omega
          have hl : l.length = k.toNat + m.toNat := by
            have : (l.length : Int) = k + m := by
              by_cases e : (l.length : Int) = k + m
              · exact e
              · exact absurd (.inl e) c2
            omega
          dsimp only at g1 g2 g4
          have hs2 : ∀ i : Nat, i < (offL p1 l k.toNat m.toNat).length → (txt (offL p1 l k.toNat m.toNat) i).size ≤ 1099511627776 := by
            intro i hi
            rw [offL_length] at hi
            rw [txt_offL _ _ _ _ _ hi, putX_size]
            exact g4 i (by omega)
          obtain ⟨kn, rfl⟩ : ∃ kn : Nat, k = kn := ⟨k.toNat, ek⟩
          obtain ⟨mn, rfl⟩ : ∃ mn : Nat, m = mn := ⟨m.toNat, em⟩
          simp only [Int.toNat_natCast] at hp g2 hl hs2 ⊢
          refine ⟨kn, mn, rfl, rfl, by omega, by omega, hl, offL_length _ _ _ _, hs2, g3, ?_⟩
          subst g1
          exact look_ok kk kn mn A c l p1 w hr hc (by omega) (by omega) hl (fun hu => c2 (.inr hu)) hp g2 g3 g4
    · cases hq
noncomputable def locate_Wrong.f (kk : Nat) (a0 a1 : Int) (l2 : List ByteArray) : Option (List Int × Int) := (lookF kk a0 a1 l2).bind fun r => some (if r.1 ≠ 0 then ([], r.1) else (wrongL r.2 r.2.length, 0))
set_option maxHeartbeats 4000000 in
set_option maxRecDepth 100000 in
theorem locate_Wrong.calls (k : Nat) (a0 a1 : Int) (A2 : Option Addr) (c2 : Nat) (l2 : List ByteArray) (r1 : List Int) (r2 : Int) (w : World) (hr2 : Kd.C Kd.string w A2 l2.length l2) (hc2 : l2.length ≤ c2) (h : locate_Wrong.f k a0 a1 l2 = some (r1, r2)) :
    Calls Tryd.prog 9 #[.int .i64 a0, .int .i64 a1, .slice A2 l2.length c2] w fun e w' => ∃ v0_ : Value, e = .returned (.tuple #[v0_, .int .i64 r2]) ∧ Kd.R (Kd.int .i64) 3 w' w.heap.size (fun _ => True) v0_ r1 ∧ Below w.heap.size w w' := by
  unfold locate_Wrong.f at h
  obtain ⟨⟨y, o⟩, hp, hq⟩ := Option.bind_eq_some_iff.1 h
  injection hq with hq
  dsimp only at hq
  by_cases hy : y = 0
  · subst hy
    rw [if_neg (by simp)] at hq
    injection hq with e1 e2
    subst e1 e2
    obtain ⟨kn, mn, rfl, rfl, h1, h2, h3, h4, h5, h6, hL⟩ := look_good k a0 a1 A2 c2 l2 o w hr2 hc2 hp
    have HLK := Aside0.mk hL
    have H4 := Aside0.mk h4
    have H5 := Aside0.mk h5
    have H2 := Aside0.mk h2
    clear hL h4 h5 h6 h2 h3 hp h hr2 hc2 h1
    go_enter Tryd.func9, Tryd.ntmps9
    go_wp2_with (first
      | (go_at_call 22; refine HLK.out.mono ?_; rintro e w1 ⟨g, rfl, hg, hC, hb⟩; have HC := Aside0.mk hC; have HB := Aside0.mk hb; clear hC hb hg)
      | (go_at_call 23; refine (wrong_calls g kn mn l2 o _ HC.out (by have := H4.out; have := H2.out; omega) (fun i hi => by have := H5.out i hi; omega)).mono ?_; rintro e w2 ⟨v, rfl, ho, hb⟩; have HO := Aside0.mk ho; have HB2 := Aside0.mk hb; clear ho hb))
    go_ret2
    exact ⟨_, rfl, Kd.R_lower HO.out HB.out.size, HB.out.trans (HB2.out.mono HB.out.size)⟩
  · rw [if_pos hy] at hq
    injection hq with e1 e2
    subst e1 e2
    have HLK := Aside0.mk (look_bad k a0 a1 A2 c2 l2 o y w hr2 hc2 hp hy)
    have b1 : (y != 0) = true := bne_iff_ne.mpr hy
    clear hp h hr2 hc2 hy
    go_enter Tryd.func9, Tryd.ntmps9
    go_wp2_with (go_at_call 22; refine HLK.out.mono ?_; rintro e w1 ⟨rfl, hb⟩; have HB := Aside0.mk hb; clear hb)
    go_ret2
    exact ⟨_, rfl, Kd.R_nil _ _ _ _ _, HB.out⟩
noncomputable def locate_Find.f (kk : Nat) (a0 a1 : Int) (l2 : List ByteArray) : Option (Int × Int) := (lookF kk a0 a1 l2).bind fun r => some (if r.1 ≠ 0 then (0, r.1) else if (wrongL r.2 r.2.length).length = 0 then (-1, 0) else ((findR a0.toNat a1.toNat r.2).1, (findR a0.toNat a1.toNat r.2).2.2))
theorem wrong_some {O : List ByteArray} (h : ¬ (wrongL O O.length).length = 0) : 1 ≤ O.length := by
  have := wrongL_len O O.length
  omega
set_option maxHeartbeats 4000000 in
set_option maxRecDepth 100000 in
theorem locate_Find.calls (k : Nat) (a0 a1 : Int) (A2 : Option Addr) (c2 : Nat) (l2 : List ByteArray) (r1 r2 : Int) (w : World) (hr2 : Kd.C Kd.string w A2 l2.length l2) (hc2 : l2.length ≤ c2) (h : locate_Find.f k a0 a1 l2 = some (r1, r2)) :
    Calls Tryd.prog 11 #[.int .i64 a0, .int .i64 a1, .slice A2 l2.length c2] w fun e w' => e = .returned (.tuple #[.int .i64 r1, .int .i64 r2]) ∧ Below w.heap.size w w' := by
  unfold locate_Find.f at h
  obtain ⟨⟨y, o⟩, hp, hq⟩ := Option.bind_eq_some_iff.1 h
  injection hq with hq
  dsimp only at hq
  by_cases hy : y = 0
  · subst hy
    rw [if_neg (by simp)] at hq
    obtain ⟨kn, mn, rfl, rfl, h1, h2, h3, h4, h5, h6, hL⟩ := look_good k a0 a1 A2 c2 l2 o w hr2 hc2 hp
    rw [Int.toNat_natCast, Int.toNat_natCast] at hq
    have HLK := Aside0.mk hL
    have H4 := Aside0.mk h4
    have H5 := Aside0.mk h5
    have H2 := Aside0.mk h2
    have H1 := Aside0.mk h1
    clear hL h4 h5 h6 h2 h3 hp h hr2 hc2 h1
    obtain ⟨wl, hwl⟩ : ∃ x, x = wrongL o o.length := ⟨_, rfl⟩
    have WR := fun (W : World) (g : Nat) (hC : Clue W g kn mn l2 o) => wrong_calls g kn mn l2 o W hC (by have := H4.out; have := H2.out; omega) (fun i hi => by have := H5.out i hi; omega)
    have hmn := wrong_some (O := o)
    rw [← hwl] at WR hq hmn
    have WR := Aside0.mk WR
    clear hwl
    by_cases h0 : wl.length = 0
    · rw [if_pos h0] at hq
      injection hq with e1 e2
      subst e1 e2
      have b1 : ((wl.length : Int) == 0) = true := beq_iff_eq.mpr (by omega)
      clear h0 hmn
      go_enter Tryd.func11, Tryd.ntmps11
      go_wp2_with (first
        | (go_at_call 22; refine HLK.out.mono ?_; rintro e w1 ⟨g, rfl, hg, hC, hb⟩; have HC := Aside0.mk hC; have HB := Aside0.mk hb; clear hC hb hg)
        | (go_at_call 23; refine (WR.out _ g HC.out).mono ?_; rintro e w2 ⟨v, rfl, ho, hb⟩; (obtain ⟨Av, cv, ev⟩ := Kd.R_slice ho); subst ev; have HB2 := Aside0.mk hb; clear ho hb))
      go_ret2
      exact ⟨rfl, HB.out.trans (HB2.out.mono HB.out.size)⟩
    · rw [if_neg h0] at hq
      have FD := Aside0.mk (fun (W : World) (g : Nat) (hC : Clue W g kn mn l2 o) => find_calls g kn mn l2 o W hC H1.out (by have := hmn h0; have := H4.out; omega) H2.out H4.out H5.out)
      have b1 : ((wl.length : Int) == 0) = false := beq_eq_false_iff_ne.mpr (by omega)
      obtain ⟨fr, hfr⟩ : ∃ x, x = findR kn mn o := ⟨_, rfl⟩
      rw [← hfr] at hq FD
      obtain ⟨f1, f2, f3⟩ := fr
      injection hq with e1 e2
      dsimp only at e1 e2 FD
      subst e1 e2
      clear h0 hmn hfr
      go_enter Tryd.func11, Tryd.ntmps11
      go_wp2_with (first
        | (go_at_call 22; refine HLK.out.mono ?_; rintro e w1 ⟨g, rfl, hg, hC, hb⟩; have HC := Aside0.mk hC; have HB := Aside0.mk hb; clear hC hb hg)
        | (go_at_call 23; refine (WR.out _ g HC.out).mono ?_; rintro e w2 ⟨v, rfl, ho, hb⟩; (obtain ⟨Av, cv, ev⟩ := Kd.R_slice ho); subst ev; have HB2 := Aside0.mk (HB.out.trans (hb.mono HB.out.size)); have HC2 := Aside0.mk (HC.out.below hb); clear ho hb)
        | (go_at_call 26; refine (FD.out _ g HC2.out).mono ?_; rintro e w3 ⟨rfl, hb⟩; have HB3 := Aside0.mk (HB2.out.trans (hb.mono HB2.out.size)); clear hb))
      go_ret2
      exact ⟨rfl, HB3.out⟩
  · rw [if_pos hy] at hq
    injection hq with e1 e2
    subst e1 e2
    have HLK := Aside0.mk (look_bad k a0 a1 A2 c2 l2 o y w hr2 hc2 hp hy)
    have b1 : (y != 0) = true := bne_iff_ne.mpr hy
    clear hp h hr2 hc2 hy
    go_enter Tryd.func11, Tryd.ntmps11
    go_wp2_with (go_at_call 22; refine HLK.out.mono ?_; rintro e w1 ⟨rfl, hb⟩; have HB := Aside0.mk hb; clear hb)
    go_ret2
    exact ⟨rfl, HB.out⟩
/-- What Fix makes: the pieces, one of them mended. -/
noncomputable def locate_Fix.f (kk : Nat) (a0 a1 : Int) (l2 : List ByteArray) : Option (List ByteArray × Int × Int) := (lookF kk a0 a1 l2).bind fun r => some (if r.1 ≠ 0 then ([], 0, r.1) else if (wrongL r.2 r.2.length).length = 0 then (l2, -1, 0) else if (findR a0.toNat a1.toNat r.2).2.2 ≠ 0 then ([], 0, (findR a0.toNat a1.toNat r.2).2.2) else (l2.set (findR a0.toNat a1.toNat r.2).1.toNat (putX (txt l2 (findR a0.toNat a1.toNat r.2).1.toNat) (findR a0.toNat a1.toNat r.2).2.1), (findR a0.toNat a1.toNat r.2).1, 0))
theorem mayL_mem {kn mn : Nat} {O : List ByteArray} (hO : O.length = mn) (hs : ∀ i : Nat, i < O.length → (txt O i).size ≤ 1099511627776) {x : Int × ByteArray} (h : x ∈ mayL kn mn O) : ∃ i : Nat, x.1 = (i : Int) ∧ i < kn + mn ∧ x.2.size ≤ 1099511627776 := by
  unfold mayL at h
  rcases List.mem_append.1 h with h | h
  · unfold mayF at h
    obtain ⟨q, hq, e⟩ := List.mem_filterMap.1 h
    have hql := List.mem_range.1 hq
    split at e
    · injection e with e
      refine ⟨q, by rw [← e], by omega, ?_⟩
      rw [← e]
      show (byD kn O q).size ≤ _
      unfold byD
      rw [scaleB_size]
      by_cases h0 : 0 < O.length
      · exact hs 0 h0
      · have : txt O 0 = ByteArray.empty := by unfold txt; rw [List.getD_eq_getElem?_getD, List.getElem?_eq_none (by omega)]; rfl
        rw [this]
        show (0 : Nat) ≤ _
        omega
    · cases e
  · split at h
    · rename_i h1
      obtain ⟨z, hz⟩ : ∃ z, wrongL O O.length = [z] := List.length_eq_one_iff.1 h1
      have hzm : z ∈ wrongL O O.length := by rw [hz]; simp
      obtain ⟨iz, hiz, ez⟩ := List.mem_map.1 hzm
      have hizl := List.mem_range.1 (List.mem_filter.1 hiz).1
      rw [hz] at h
      have hx : x = ((kn : Int) + z, txt O z.toNat) := by simpa using h
      refine ⟨kn + iz, by rw [hx, ← ez]; push_cast; rfl, by omega, ?_⟩
      rw [hx, ← ez]
      show (txt O (iz : Int).toNat).size ≤ _
      rw [Int.toNat_natCast]
      exact hs iz hizl
    · cases h
theorem findR_in {kn mn : Nat} {O : List ByteArray} (hO : O.length = mn) (hs : ∀ i : Nat, i < O.length → (txt O i).size ≤ 1099511627776) (h : (findR kn mn O).2.2 = 0) : ∃ i : Nat, (findR kn mn O).1 = (i : Int) ∧ i < kn + mn ∧ (findR kn mn O).2.1.size ≤ 1099511627776 := by
  unfold findR at h ⊢
  by_cases h1 : (mayL kn mn O).length = 1
  · rw [if_pos h1]
    obtain ⟨x, hx⟩ : ∃ x, mayL kn mn O = [x] := List.length_eq_one_iff.1 h1
    have hl : lastM (mayL kn mn O) = x := by rw [hx]; rfl
    rw [hl]
    exact mayL_mem hO hs (by rw [hx]; simp)
  · rw [if_neg h1] at h
    cases h
set_option maxHeartbeats 4000000 in
set_option maxRecDepth 100000 in
theorem locate_Fix.calls (k : Nat) (a0 a1 : Int) (A2 : Option Addr) (c2 : Nat) (l2 : List ByteArray) (r1 : List ByteArray) (r2 r3 : Int) (w : World) (hr2 : Kd.C Kd.string w A2 l2.length l2) (hc2 : l2.length ≤ c2) (h : locate_Fix.f k a0 a1 l2 = some (r1, r2, r3)) :
    Calls Tryd.prog 13 #[.int .i64 a0, .int .i64 a1, .slice A2 l2.length c2] w fun e w' => ∃ v0_ : Value, e = .returned (.tuple #[v0_, .int .i64 r2, .int .i64 r3]) ∧ Kd.R Kd.string 9 w' w.heap.size (fun _ => True) v0_ r1 ∧ Below w.heap.size w w' := by
  unfold locate_Fix.f at h
  obtain ⟨⟨y, o⟩, hp, hq⟩ := Option.bind_eq_some_iff.1 h
  injection hq with hq
  dsimp only at hq
  by_cases hy : y = 0
  · subst hy
    rw [if_neg (by simp)] at hq
    obtain ⟨kn, mn, rfl, rfl, h1, h2, h3, h4, h5, h6, hL⟩ := look_good k a0 a1 A2 c2 l2 o w hr2 hc2 hp
    rw [Int.toNat_natCast, Int.toNat_natCast] at hq
    have HC2 := Aside0.mk hr2
    have HCC := Aside0.mk hc2
    have HLK := Aside0.mk hL
    have H4 := Aside0.mk h4
    have H5 := Aside0.mk h5
    have H6 := Aside0.mk h6
    have H2 := Aside0.mk h2
    have H1 := Aside0.mk h1
    have H3 := Aside0.mk h3
    have CL : slices_Clone_string_string.f l2 = some l2 := by unfold slices_Clone_string_string.f; rw [if_pos (by omega)]
    have HCL := Aside0.mk CL
    clear hL h4 h5 h6 h2 h3 hp h hr2 hc2 h1 CL
    obtain ⟨wl, hwl⟩ : ∃ x, x = wrongL o o.length := ⟨_, rfl⟩
    have WR := fun (W : World) (g : Nat) (hC : Clue W g kn mn l2 o) => wrong_calls g kn mn l2 o W hC (by have := H4.out; have := H2.out; omega) (fun i hi => by have := H5.out i hi; omega)
    have hmn := wrong_some (O := o)
    rw [← hwl] at WR hq hmn
    have WR := Aside0.mk WR
    clear hwl
    by_cases h0 : wl.length = 0
    · rw [if_pos h0] at hq
      injection hq with e1 e2
      injection e2 with e2 e3
      subst e1 e2 e3
      have b1 : ((wl.length : Int) == 0) = true := beq_iff_eq.mpr (by omega)
      clear h0 hmn
      go_enter Tryd.func13, Tryd.ntmps13
      go_wp2_with (first
        | (go_at_call 22; refine HLK.out.mono ?_; rintro e w1 ⟨g, rfl, hg, hC, hb⟩; have HC := Aside0.mk hC; have HB := Aside0.mk hb; clear hC hb hg)
        | (go_at_call 28; (refine (slices_Clone_string_string.calls A2 c2 l2 l2 _ ?side1 HCC.out HCL.out).mono ?_); (case side1 => exact Kd.C_below HC2.out HB.out); rintro e w2 ⟨v, rfl, ho, hb⟩; have HO := Aside0.mk (Kd.R_lower ho HB.out.size); have HB2 := Aside0.mk (HB.out.trans (hb.mono HB.out.size)); have HC3 := Aside0.mk (HC.out.below hb); clear ho hb)
        | (go_at_call 23; refine (WR.out _ g HC3.out).mono ?_; rintro e w3 ⟨v3, rfl, ho, hb⟩; (obtain ⟨Av, cv, ev⟩ := Kd.R_slice ho); subst ev; have HO3 := Aside0.mk (Kd.R_below HO.out hb); have HB3 := Aside0.mk (HB2.out.trans (hb.mono HB2.out.size)); clear ho hb))
      go_ret3
      exact ⟨_, rfl, HO3.out, HB3.out⟩
    · rw [if_neg h0] at hq
      have FD := Aside0.mk (fun (W : World) (g : Nat) (hC : Clue W g kn mn l2 o) => find_calls g kn mn l2 o W hC H1.out (by have := hmn h0; have := H4.out; omega) H2.out H4.out H5.out)
      have b1 : ((wl.length : Int) == 0) = false := beq_eq_false_iff_ne.mpr (by omega)
      have FI := fun e => findR_in (kn := kn) H4.out H5.out e
      obtain ⟨fr, hfr⟩ : ∃ x, x = findR kn mn o := ⟨_, rfl⟩
      rw [← hfr] at hq FD FI
      obtain ⟨f1, f2, f3⟩ := fr
      dsimp only at hq FD FI
      clear h0 hmn hfr
      by_cases h3 : f3 = 0
      · rw [if_neg (by simp [h3])] at hq
        injection hq with e1 e2
        injection e2 with e2 e3
        subst e1 e2 e3
        obtain ⟨i, hi, hil, his⟩ := FI h3
        subst h3 hi
        rw [Int.toNat_natCast]
        have q1 : (i : Int) < (l2.length : Int) := by have := H3.out; omega
        have q0 : (0 : Int) ≤ (i : Int) := by omega
        have PUT := Aside0.mk (put_some (txt l2 i) f2 (H6.out i (by omega)) his)
        obtain ⟨px, hpx⟩ : ∃ x, x = putX (txt l2 i) f2 := ⟨_, rfl⟩
        obtain ⟨ti, hti⟩ : ∃ x, x = txt l2 i := ⟨_, rfl⟩
        rw [← hpx] at PUT ⊢
        rw [← hti] at PUT
        have HTI := Aside0.mk hti
        have HIL := Aside0.mk hil
        clear hpx hti FI hil his
        go_enter Tryd.func13, Tryd.ntmps13
        go_upto_region 10 with (first
          | (go_at_call 22; refine HLK.out.mono ?_; rintro e w1 ⟨g, rfl, hg, hC, hb⟩; have HC := Aside0.mk hC; have HB := Aside0.mk hb; clear hC hb hg)
          | (go_at_call 28; (refine (slices_Clone_string_string.calls A2 c2 l2 l2 _ ?side1 HCC.out HCL.out).mono ?_); (case side1 => exact Kd.C_below HC2.out HB.out); rintro e w2 ⟨v, rfl, ho, hb⟩; have HO := Aside0.mk (Kd.R_lower ho HB.out.size); have HB2 := Aside0.mk (HB.out.trans (hb.mono HB.out.size)); have HC3 := Aside0.mk (HC.out.below hb); clear ho hb)
          | (go_at_call 23; refine (WR.out _ g HC3.out).mono ?_; rintro e w3 ⟨v3, rfl, ho, hb⟩; (obtain ⟨Av, cv, ev⟩ := Kd.R_slice ho); subst ev; have HO3 := Aside0.mk (Kd.R_below HO.out hb); have HB3 := Aside0.mk (HB2.out.trans (hb.mono HB2.out.size)); have HC4 := Aside0.mk (HC3.out.below hb); clear ho hb)
          | (go_at_call 26; refine (FD.out _ g HC4.out).mono ?_; rintro e w4 ⟨rfl, hb⟩; have HO4 := Aside0.mk (Kd.R_below HO3.out hb); have HB4 := Aside0.mk (HB3.out.trans (hb.mono HB3.out.size)); clear hb))
        obtain ⟨g5, c5, eg, gb5, gl5, -⟩ := Kd.R_form HO4.out (by omega)
        subst eg
        obtain ⟨x1, x2⟩ := Kd.R_celln (⟨#[]⟩ : ByteArray) HO4.out (i : Int) q0 q1
        have ert : rdOf (⟨#[]⟩ : ByteArray) l2 (i : Int) = ti := by rw [HTI.out]; exact rdOf_txt l2 i
        rw [ert, Int.toNat_natCast] at x1
        rw [Int.toNat_natCast] at x2
        have CP := Aside0.mk x1
        clear ert HO HO3 HC HC3 HC4 HB HB2 HB3
        go_wp2_with (go_at_call 29; (refine (locate_put.calls ti f2 px _ PUT.out).mono ?_); rintro e w5 ⟨rfl, hb⟩; have y1 := (hb.cell (p := ⟨g5, i, none⟩) gl5).trans x1; have y2 := (hb.frozen (p := ⟨g5, i, none⟩) gl5).trans x2; have HO5 := Aside0.mk (Kd.R_below HO4.out hb); have HB5 := Aside0.mk (HB4.out.trans (hb.mono HB4.out.size)); clear hb)
        go_ret3
        have hput := (Kd.R_putg HO5.out (i : Int) px).1
        rw [Int.toNat_natCast] at hput
        exact ⟨_, rfl, hput, HB5.out.setCell (p := ⟨g5, i, none⟩) gb5 _⟩
      · rw [if_pos h3] at hq
        injection hq with e1 e2
        injection e2 with e2 e3
        subst e1 e2 e3
        have b2 : (f3 != 0) = true := bne_iff_ne.mpr h3
        clear h3 FI
        go_enter Tryd.func13, Tryd.ntmps13
        go_wp2_with (first
          | (go_at_call 22; refine HLK.out.mono ?_; rintro e w1 ⟨g, rfl, hg, hC, hb⟩; have HC := Aside0.mk hC; have HB := Aside0.mk hb; clear hC hb hg)
          | (go_at_call 28; (refine (slices_Clone_string_string.calls A2 c2 l2 l2 _ ?side1 HCC.out HCL.out).mono ?_); (case side1 => exact Kd.C_below HC2.out HB.out); rintro e w2 ⟨v, rfl, ho, hb⟩; have HO := Aside0.mk (Kd.R_lower ho HB.out.size); have HB2 := Aside0.mk (HB.out.trans (hb.mono HB.out.size)); have HC3 := Aside0.mk (HC.out.below hb); clear ho hb)
          | (go_at_call 23; refine (WR.out _ g HC3.out).mono ?_; rintro e w3 ⟨v3, rfl, ho, hb⟩; (obtain ⟨Av, cv, ev⟩ := Kd.R_slice ho); subst ev; have HO3 := Aside0.mk (Kd.R_below HO.out hb); have HB3 := Aside0.mk (HB2.out.trans (hb.mono HB2.out.size)); have HC4 := Aside0.mk (HC3.out.below hb); clear ho hb)
          | (go_at_call 26; refine (FD.out _ g HC4.out).mono ?_; rintro e w4 ⟨rfl, hb⟩; have HB4 := Aside0.mk (HB3.out.trans (hb.mono HB3.out.size)); clear hb))
        go_ret3
        exact ⟨_, rfl, Kd.R_nil _ _ _ _ _, HB4.out⟩
  · rw [if_pos hy] at hq
    injection hq with e1 e2
    injection e2 with e2 e3
    subst e1 e2 e3
    have HLK := Aside0.mk (look_bad k a0 a1 A2 c2 l2 o y w hr2 hc2 hp hy)
    have b1 : (y != 0) = true := bne_iff_ne.mpr hy
    clear hp h hr2 hc2 hy
    go_enter Tryd.func13, Tryd.ntmps13
    go_wp2_with (go_at_call 22; refine HLK.out.mono ?_; rintro e w1 ⟨rfl, hb⟩; have HB := Aside0.mk hb; clear hb)
    go_ret3
    exact ⟨_, rfl, Kd.R_nil _ _ _ _ _, HB.out⟩
end Go.Proofs.YteiiaonpdamkhaaDoor.G
