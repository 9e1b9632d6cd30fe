/- GfScales: the pure statement: numbers and lists alone. Conditions: those of the statement itself. -/
import Derived.Test.YtgiljibkjccgfabGx4
import Derived.OpenShut
namespace Go.Proofs.Ytgiljibkjccgfab.Pure
open Go.RowKit Go.Proofs.Ytgiljibkjccgfab.G Go.Proofs.YtgiljibkjccgfabW.PrintWords Go.Proofs.YtgiljibkjccgfabW.PrintLast Go.Proofs.YtgiljibkjccgfabW.PrintMore Go.OpenShut
set_option linter.unusedVariables false
set_option linter.unusedSimpArgs false
theorem lives02 : caulklaw02_lives.f = some true := by decide +kernel
theorem isB_of {a : Int} (h : (Lit.int .u8 a).wf = true) : isB a := by have := bounds_u8 h; unfold isB; omega
theorem mulI_isB (a b : Int) : isB (mulI a b) := el_range _
theorem gfmul {a b : Int} (ha : isB a) (hb : isB b) : gf_Mul.f a b = some (mulI a b) := if_pos ⟨ha, hb⟩
theorem refmul {a b : Int} (ha : isB a) (hb : isB b) : caulkref02_Mul.f a b = some (mulI a b) := if_pos ⟨ha, hb⟩
theorem el_mulI (a b : Int) : el (mulI a b) = GfM.mul (el a) (el b) := el_nat _
theorem mulI_nat (a b : BitVec 8) : mulI (a.toNat : Int) (b.toNat : Int) = ((GfM.mul a b).toNat : Int) := by unfold mulI; rw [el_nat, el_nat]
theorem asel {a : Int} (h : isB a) : ∃ x : BitVec 8, a = (x.toNat : Int) := ⟨el a, (el_back h.1 h.2).symm⟩
theorem isB_nat (x : BitVec 8) : isB (x.toNat : Int) := el_range x
theorem el_ne {x : BitVec 8} (h : (x.toNat : Int) ≠ 0) : x ≠ 0#8 := by intro e; apply h; rw [e]; rfl
theorem ne_el {x : BitVec 8} (h : x ≠ 0#8) : (x.toNat : Int) ≠ 0 := by intro e; apply h; apply BitVec.eq_of_toNat_eq; simp; omega
/-- The inverse. -/
def invI (a : Int) : Int := ((GfM.inv (el a)).toNat : Int)
theorem invI_isB (a : Int) : isB (invI a) := el_range _
theorem inv_eq {a : Int} (h : isB a) : gf_Inv.f a = some (if a = 0 then (0, 13) else (invI a, 0)) := by
  unfold gf_Inv.f
  by_cases h0 : a = 0
  · rw [if_pos h0, if_pos h0]
  · rw [if_neg h0, if_neg h0]
    unfold gf_power.f
    rw [if_pos ⟨h, by decide, by decide⟩]
    simp only [Option.bind_some]
    have : powI a 254 = invI a := by
      unfold powI invI GfM.inv
      rw [show (254 : Int).toNat = 254 from rfl]
      rw [show (64 : Nat) = 8 + 56 from rfl, pwk_more 8 _ _ _ 56 (by decide)]
    rw [this]
theorem refinv_l0 (x : BitVec 8) (hx : x ≠ 0#8) : ∀ (d i : Nat), i + d = (GfM.inv x).toNat → 1 ≤ i → ∀ k, d < k → caulkref02_Inv.l0 k (x.toNat : Int) (i : Int) = some (((GfM.inv x).toNat : Int), 0)
  | 0, i, hi, h1, k, hk => by
    obtain ⟨k, rfl⟩ : ∃ m, k = m + 1 := ⟨k - 1, by omega⟩
    have hlt := (GfM.inv x).isLt
    obtain rfl : i = (GfM.inv x).toNat := by omega
    simp only [caulkref02_Inv.l0]
    rw [if_pos (by omega), Int.emod_eq_of_lt (by omega) (by omega), refmul (isB_nat _) (isB_nat _), mulI_nat, GfM.mul_inv x hx]
    rfl
  | d + 1, i, hi, h1, k, hk => by
    obtain ⟨k, rfl⟩ : ∃ m, k = m + 1 := ⟨k - 1, by omega⟩
    have hlt := (GfM.inv x).isLt
    simp only [caulkref02_Inv.l0]
    have hi8 : i < 256 := by omega
    have ei : (i : Int) = ((BitVec.ofNat 8 i).toNat : Int) := by rw [BitVec.toNat_ofNat]; omega
    have hne : mulI (x.toNat : Int) (i : Int) ≠ 1 := by
      rw [ei, mulI_nat]
      intro e
      have e1 : GfM.mul x (BitVec.ofNat 8 i) = 1#8 := BitVec.eq_of_toNat_eq (by show _ = 1; omega)
      have e2 := GfM.mul_cancel hx (e1.trans (GfM.mul_inv x hx).symm)
      have := congrArg BitVec.toNat e2
      rw [BitVec.toNat_ofNat] at this
      omega
    rw [if_pos (by omega), Int.emod_eq_of_lt (by omega) (by omega), refmul (isB_nat _) ⟨by omega, by omega⟩]
    simp only [Option.bind_some]
    rw [if_neg hne, show wrap64 ((i : Int) + 1) = ((i + 1 : Nat) : Int) from by unfold wrap64; omega]
    exact refinv_l0 x hx d (i + 1) (by omega) (by omega) k (by omega)
theorem refinv_zero : ∀ (d i : Nat), i + d = 256 → ∀ k, d < k → caulkref02_Inv.l0 k 0 (i : Int) = some (0, 13)
  | 0, i, hi, k, hk => by
    obtain ⟨k, rfl⟩ : ∃ m, k = m + 1 := ⟨k - 1, by omega⟩
    simp only [caulkref02_Inv.l0]
    rw [if_neg (by omega)]
  | d + 1, i, hi, k, hk => by
    obtain ⟨k, rfl⟩ : ∃ m, k = m + 1 := ⟨k - 1, by omega⟩
    simp only [caulkref02_Inv.l0]
    have hz : mulI 0 (i : Int) = 0 := by
      unfold mulI; rw [show el 0 = 0#8 from rfl, GfM.zero_mul]; rfl
    rw [if_pos (by omega), Int.emod_eq_of_lt (by omega) (by omega), refmul ⟨by decide, by decide⟩ ⟨by omega, by omega⟩, hz]
    simp only [Option.bind_some]
    rw [if_neg (by decide), show wrap64 ((i : Int) + 1) = ((i + 1 : Nat) : Int) from by unfold wrap64; omega]
    exact refinv_zero d (i + 1) (by omega) k (by omega)
theorem refinv_eq {a : Int} (h : isB a) (k : Nat) (hk : 300 ≤ k) : caulkref02_Inv.f k a = some (if a = 0 then (0, 13) else (invI a, 0)) := by
  unfold caulkref02_Inv.f
  by_cases h0 : a = 0
  · subst h0
    rw [if_pos rfl]
    exact refinv_zero 255 1 rfl k (by omega)
  · rw [if_neg h0]
    obtain ⟨x, rfl⟩ := asel h
    have hi := GfM.mul_inv x (el_ne h0)
    have h1 : 1 ≤ (GfM.inv x).toNat := by
      by_cases e : (GfM.inv x).toNat = 0
      · have : GfM.inv x = 0#8 := BitVec.eq_of_toNat_eq (by simpa using e)
        rw [this, GfM.mul_zero] at hi
        exact absurd hi (by decide)
      · omega
    have hlt := (GfM.inv x).isLt
    unfold invI
    rw [el_nat]
    exact refinv_l0 x (el_ne h0) ((GfM.inv x).toNat - 1) 1 (by omega) (by omega) k (by omega)
theorem div_eq {a b : Int} (ha : isB a) (hb : isB b) : gf_Div.f a b = some (if b = 0 then (0, 13) else (mulI a (invI b), 0)) := by
  unfold gf_Div.f
  rw [inv_eq hb]
  by_cases h0 : b = 0
  · rw [if_pos h0, if_pos h0]; rfl
  · rw [if_neg h0, if_neg h0]
    simp only [Option.bind_some, if_true]
    rw [gfmul ha (invI_isB b)]; rfl
theorem refdiv_eq {a b : Int} (ha : isB a) (hb : isB b) (k : Nat) (hk : 300 ≤ k) : caulkref02_Div.f k a b = some (if b = 0 then (0, 13) else (mulI a (invI b), 0)) := by
  unfold caulkref02_Div.f
  rw [refinv_eq hb k hk]
  by_cases h0 : b = 0
  · rw [if_pos h0, if_pos h0]; rfl
  · rw [if_neg h0, if_neg h0]
    simp only [Option.bind_some, if_true]
    rw [refmul ha (invI_isB b)]; rfl
theorem son_size (xs : List Int) : (strOfNums xs).size = xs.length := by
  show (strOfNums xs).data.size = _; simp [strOfNums]
theorem son_bt (xs : List Int) (i : Nat) (hi : i < xs.length) (hb : isB (xs.getD i 0)) : bt (strOfNums xs) (i : Int) = xs.getD i 0 := by
  have hs : (i : Int).toNat < (strOfNums xs).size := by rw [son_size]; omega
  rw [← bt_at _ _ hs]
  show (((strOfNums xs).data[(i : Int).toNat]'hs).toNat : Int) = _
  simp only [strOfNums, Int.toNat_natCast, List.getElem_toArray, List.getElem_map]
  have e : xs.getD i 0 = xs[i] := by rw [List.getD_eq_getElem?_getD, List.getElem?_eq_getElem hi]; rfl
  rw [e] at hb ⊢
  rw [UInt8.toNat_ofNat', Nat.mod_eq_of_lt (by unfold isB at hb; omega)]
  unfold isB at hb; omega
theorem bytes_get (s : ByteArray) (i : Nat) : (bytesOf s).getD i 0 = bt s (i : Int) := by
  rw [← rd_bytesOf]; rfl
theorem refscale_l0 (c : Int) (hc : isB c) (s : ByteArray) (hs : s.size ≤ 16384) : ∀ (d i : Nat), i + d = s.size → ∀ k, d < k → caulkref02_Scale.l0 k c s (((bytesOf s).take i).map (mulI c)) (i : Int) = some (strOfNums ((bytesOf s).map (mulI c)))
  | 0, i, hi, k, hk => by
    obtain ⟨k, rfl⟩ : ∃ m, k = m + 1 := ⟨k - 1, by omega⟩
    simp only [caulkref02_Scale.l0]
    rw [if_neg (by omega), List.take_of_length_le (by rw [bytesOf_length]; omega)]
  | d + 1, i, hi, k, hk => by
    obtain ⟨k, rfl⟩ : ∃ m, k = m + 1 := ⟨k - 1, by omega⟩
    have hlt : i < (bytesOf s).length := by rw [bytesOf_length]; omega
    simp only [caulkref02_Scale.l0]
    rw [if_pos (by omega), if_pos (by omega), refmul hc (bt_range s i)]
    simp only [Option.bind_some]
    have hl : (((bytesOf s).take i).map (mulI c)).length < 140737488355328 := by simp; omega
    rw [if_pos hl, show wrap64 ((i : Int) + 1) = ((i + 1 : Nat) : Int) from by unfold wrap64; omega]
    have e : ((bytesOf s).take i).map (mulI c) ++ [mulI c (bt s (i : Int))] = ((bytesOf s).take (i + 1)).map (mulI c) := by
      rw [List.take_succ_eq_append_getElem hlt, List.map_append]
      have := bytes_get s i
      rw [List.getD_eq_getElem?_getD, List.getElem?_eq_getElem hlt] at this
      rw [← this]; rfl
    rw [e]
    exact refscale_l0 c hc s hs d (i + 1) (by omega) k (by omega)
theorem refscale_eq (c : Int) (hc : isB c) (s : ByteArray) (hs : s.size ≤ 16384) (k : Nat) (hk : 16384 < k) : caulkref02_Scale.f k c s = some (strOfNums ((bytesOf s).map (mulI c))) := by
  unfold caulkref02_Scale.f
  have := refscale_l0 c hc s hs s.size 0 (by omega) k (by omega)
  simpa using this
theorem scale_eq (c : Int) (hc : isB c) (s : ByteArray) (hs : s.size ≤ 16384) : gf_Scale.f c s = some (strOfNums ((bytesOf s).map (mulI c))) := by
  unfold gf_Scale.f; rw [if_pos ⟨hc, by omega⟩]
theorem putL_at (c : Int) (s l : List Int) : ∀ (k i : Nat), i < l.length → (putL c s l k).getD i 0 = if i < k then Go.bits .xor .u8 (l.getD i 0) (mulI c (s.getD i 0)) else l.getD i 0
  | 0, i, _ => by rw [if_neg (by omega)]; rfl
  | k + 1, i, hi => by
    simp only [putL]
    rw [List.getD_eq_getElem?_getD, List.getElem?_set]
    by_cases e : k = i
    · subst e
      rw [if_pos rfl, if_pos (by rw [putL_length]; exact hi), if_pos (by omega)]; rfl
    · rw [if_neg e, ← List.getD_eq_getElem?_getD, putL_at c s l k i hi]
      by_cases h : i < k
      · rw [if_pos h, if_pos (by omega)]
      · rw [if_neg h, if_neg (by omega)]
theorem GfScales : caulklaw02_GfScales.Pure := by
  intro c s l wc ws ⟨wl, wx⟩
  have hc := isB_of wc
  obtain ⟨K, hK⟩ : ∃ K : Nat, 19999 ≤ K := ⟨19999, Nat.le_refl _⟩
  refine ⟨K + 1, ?_⟩
  unfold caulklaw02_GfScales.f
  have out : caulklaw02_GfScales.j0 (K + 1) c s l true = some true := by
    simp only [caulklaw02_GfScales.j0, if_true]
    rw [lives02]; rfl
  by_cases h1 : (s.size : Int) > 16384
  · rw [if_pos h1]; exact out
  rw [if_neg h1]
  by_cases h2 : (l.length : Int) > 16384
  · rw [decide_eq_true h2]; exact out
  rw [decide_eq_false h2]
  have hx : ∀ x ∈ l, isB x := fun x hx => isB_of (wx x hx)
  have hs : s.size ≤ 16384 := by omega
  have hl : l.length ≤ 16384 := by omega
  simp only [caulklaw02_GfScales.j0, Bool.false_eq_true, if_false, Option.bind_some, List.nil_append, List.length_nil]
  rw [if_pos (by omega)]
  unfold gf_Put.f
  rw [if_pos ⟨hc, by omega, by omega, hx⟩, refscale_eq c hc s hs K (by omega)]
  simp only [Option.bind_some]
  obtain ⟨P, hP⟩ : ∃ P, P = putL c (bytesOf s) l (min l.length s.size) := ⟨_, rfl⟩
  have hPl : P.length = l.length := by rw [hP]; exact putL_length _ _ _ _
  have hPa : ∀ i, i < l.length → P.getD i 0 = if i < min l.length s.size then Go.bits .xor .u8 (l.getD i 0) (mulI c ((bytesOf s).getD i 0)) else l.getD i 0 := fun i hi => by rw [hP]; exact putL_at _ _ _ _ i hi
  rw [← hP]
  clear hP
  have loop : ∀ (d i k : Nat), i + d = l.length → d < k → caulklaw02_GfScales.l0 k c s l P (strOfNums ((bytesOf s).map (mulI c))) (l.length : Int) (i : Int) = some true := by
    intro d
    induction d with
    | zero =>
      intro i k hi hk
      obtain ⟨k, rfl⟩ : ∃ m, k = m + 1 := ⟨k - 1, by omega⟩
      simp only [caulklaw02_GfScales.l0]
      rw [if_neg (by omega), lives02]
      simp only [Option.bind_some, if_true]
      rw [scale_eq c hc s hs]
      simp only [Option.bind_some, if_true]
      rw [hPl]; simp
    | succ d ih =>
      intro i k hi hk
      obtain ⟨k, rfl⟩ : ∃ m, k = m + 1 := ⟨k - 1, by omega⟩
      have hlt : i < l.length := by omega
      have hi3 : (i : Int) < (l.length : Int) := by omega
      have hi0 : (0 : Int) ≤ (i : Int) := by omega
      have hi4 : (i : Int) < (P.length : Int) := by omega
      have hmn : i < s.size → i < min l.length s.size := fun h => by omega
      have hmx : ¬ i < s.size → ¬ i < min l.length s.size := fun h => by omega
      have hi5 : i < s.size → (i : Int) < (s.size : Int) := fun h => by omega
      have hi6 : ¬ i < s.size → ¬ (i : Int) < (s.size : Int) := fun h => by omega
      have ih' := ih (i + 1) k (by omega) (by omega)
      clear ih
      have e1 : rd P (i : Int) = P.getD i 0 := rfl
      have e2 : rd l (i : Int) = l.getD i 0 := rfl
      have ew : wrap64 ((i : Int) + 1) = ((i + 1 : Nat) : Int) := by unfold wrap64; omega
      simp only [caulklaw02_GfScales.l0]
      rw [if_pos hi3, if_pos hi0, if_pos hi3, son_size, List.length_map, bytesOf_length, ew]
      by_cases hi2 : i < s.size
      · have hg : ((bytesOf s).map (mulI c)).getD i 0 = mulI c ((bytesOf s).getD i 0) := by
          have hb : i < (bytesOf s).length := by rw [bytesOf_length]; exact hi2
          simp [List.getD_eq_getElem?_getD, List.getElem?_eq_getElem hb]
        have e3 : bt (strOfNums ((bytesOf s).map (mulI c))) (i : Int) = mulI c ((bytesOf s).getD i 0) := by
          rw [son_bt _ i (by rw [List.length_map, bytesOf_length]; exact hi2) (by rw [hg]; exact mulI_isB _ _), hg]
        rw [if_pos (hi5 hi2), if_pos hi4, e1, e2, e3, hPa i hlt, if_pos (hmn hi2), if_pos rfl]
        exact ih'
      · rw [if_neg (hi6 hi2), if_pos hi4, e1, e2, hPa i hlt, if_neg (hmx hi2), if_pos rfl]
        exact ih'
  exact loop l.length 0 K (by omega) (by omega)
end Go.Proofs.Ytgiljibkjccgfab.Pure
