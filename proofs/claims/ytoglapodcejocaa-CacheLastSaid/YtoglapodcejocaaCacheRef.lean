/- What the document's cache computes, in lists of places and texts, over this seat's program. Conditions: each lemma's own. -/
import Derived.Test.YtoglapodcejocaaCacheRefPut
import Derived.Test.YtoglapodcejocaaCacheDropAll
namespace Go.Proofs.Ytoglapodcejocaa.G
open Go.RowKit Go.Proofs.YtoglapodcejocaaW.PrintWords Go.Proofs.YtoglapodcejocaaW.PrintLast Go.Proofs.YtoglapodcejocaaW.PrintMore
set_option linter.unusedVariables false
set_option linter.unusedSimpArgs false
set_option maxRecDepth 100000
def toS (x : Pl × ByteArray) : S90 := ⟨⟨x.1.1, x.1.2⟩, x.2⟩
def toP (p : Pl) : S34 := ⟨p.1, p.2⟩
theorem rd_toS {E : List (Pl × ByteArray)} {i : Nat} (h : i < E.length) : rd_T90 (E.map toS) (i : Int) = toS E[i] := by
  unfold rd_T90
  simp [List.getD_eq_getElem?_getD, List.getElem?_eq_getElem h]
theorem rd_toP {E : List Pl} {i : Nat} (h : i < E.length) : rd_T34 (E.map toP) (i : Int) = toP E[i] := by
  unfold rd_T34
  simp [List.getD_eq_getElem?_getD, List.getElem?_eq_getElem h]
theorem wrap_nat {n : Nat} (h : n ≤ 4398046511104) : wrap64 ((n : Int) + 1) = ((n + 1 : Nat) : Int) := by unfold wrap64; omega
theorem bne_place (p q : Pl) : (!(p.1 == q.1) || !(p.2 == q.2)) = decide (p ≠ q) := by
  by_cases h : p = q
  · subst h; simp
  · have : ¬ (p.1 = q.1 ∧ p.2 = q.2) := fun h2 => h (Prod.ext h2.1 h2.2)
    simp only [decide_eq_true h]
    by_cases h1 : p.1 = q.1
    · have h2 : p.2 ≠ q.2 := fun h2 => this ⟨h1, h2⟩
      simp [h2]
    · simp [h1]
theorem without_l0 (E : List (Pl × ByteArray)) (p : Pl) (hE : E.length ≤ 1000000) : ∀ (d i : Nat) (k : Nat) (X : List S90), i + d = E.length → d < k → X.length ≤ i → caulkref36_Cache_without.l0 k X (E.map toS) (E.length : Int) (i : Int) p.1 p.2 = some (X ++ (withoutE (E.drop i) p).map toS)
  | 0, i, k + 1, X, hi, hk, hX => by
    rw [caulkref36_Cache_without.l0, if_neg (by omega), List.drop_eq_nil_of_le (by omega)]
    simp [withoutE]
  | d + 1, i, k + 1, X, hi, hk, hX => by
    have hlt : i < E.length := by omega
    rw [caulkref36_Cache_without.l0, if_pos (by omega), if_pos (by omega), if_pos (by rw [List.length_map]; omega), rd_toS hlt, wrap_nat (by omega)]
    have hb := bne_place E[i].1 p
    rw [show (!(toS E[i]).f0.f0 == p.1 || !(toS E[i]).f0.f1 == p.2) = decide (E[i].1 ≠ p) from hb, List.drop_eq_getElem_cons hlt]
    by_cases he : E[i].1 ≠ p
    · rw [if_pos (decide_eq_true he), if_pos (by omega), without_l0 E p hE d (i + 1) k _ (by omega) (by omega) (by simp; omega)]
      unfold withoutE
      rw [List.filter_cons_of_pos (by exact decide_eq_true he)]
      simp [toS]
    · rw [if_neg (by simpa using he), without_l0 E p hE d (i + 1) k _ (by omega) (by omega) (by omega)]
      unfold withoutE
      rw [List.filter_cons_of_neg (by simpa using he)]
theorem without_f (E : List (Pl × ByteArray)) (p : Pl) (hE : E.length ≤ 1000000) (a c d : Int) (k : Nat) (hk : 1000001 ≤ k) : caulkref36_Cache_without.f k a (E.map toS) c d p.1 p.2 = some ((withoutE E p).map toS) := by
  unfold caulkref36_Cache_without.f
  have := without_l0 E p hE E.length 0 k [] (by omega) (by omega) (by simp)
  rw [List.length_map]
  simpa using this
theorem withoutE_le (E : List (Pl × ByteArray)) (p : Pl) : (withoutE E p).length ≤ E.length := List.length_filter_le _ _
theorem putE_le {room : Int} {E : List (Pl × ByteArray)} (p : Pl) (s : ByteArray) (h1 : 1 ≤ room) (h : (E.length : Int) ≤ room) : ((putE room E p s).length : Int) ≤ room := by
  have := withoutE_le E p
  unfold putE
  split
  · rw [List.length_dropLast]; simp; omega
  · simp; omega
theorem put_l {room : Int} {E : List (Pl × ByteArray)} (p : Pl) (s : ByteArray) (h1 : 1 ≤ room) (h : (E.length : Int) ≤ room) : caulkref36_Cache_Put.l room p.1 p.2 s ((withoutE E p).map toS) = (putE room E p s).map toS := by
  have hw := withoutE_le E p
  have e : (⟨⟨p.1, p.2⟩, s⟩ : S90) :: (withoutE E p).map toS = ((p, s) :: withoutE E p).map toS := rfl
  unfold caulkref36_Cache_Put.l putE
  rw [e, List.length_map]
  split
  · rw [if_neg (by omega), List.take_of_length_le (by simp)]
  · have hl : ((withoutE E p).length : Int) + 1 > room := by omega
    rw [if_pos hl, ← List.map_take, List.dropLast_eq_take]
    have : room.toNat = ((p, s) :: withoutE E p).length - 1 := by simp; omega
    rw [this]
theorem put_f (E : List (Pl × ByteArray)) (p : Pl) (s : ByteArray) (room hit miss : Int) (h1 : 1 ≤ room) (h2 : room ≤ 4096) (h : (E.length : Int) ≤ room) : caulkref36_Cache_Put.f 1000001 room (E.map toS) hit miss p.1 p.2 s = some (room, (putE room E p s).map toS, hit, miss) := by
  unfold caulkref36_Cache_Put.f
  rw [without_f E p (by omega) _ _ _ _ (Nat.le_refl _), Option.bind_some, if_pos ⟨by rw [List.length_map]; have := withoutE_le E p; omega, by omega⟩, put_l p s h1 h]
theorem drop_l0 (E : List (Pl × ByteArray)) (n : Int) (hE : E.length ≤ 1000000) (a : Int) (l : List S90) (hl : l.length = E.length) (c d' : Int) : ∀ (d i : Nat) (k : Nat) (X : List S90), i + d = E.length → d < k → X.length ≤ i → caulkref36_Cache_Drop.l0 k n X (E.map toS) (E.length : Int) (i : Int) a l c d' = some (a, X ++ (dropE (E.drop i) n).map toS, c, d', (E.length : Int) - ((X ++ (dropE (E.drop i) n).map toS).length : Int))
  | 0, i, k + 1, X, hi, hk, hX => by
    rw [caulkref36_Cache_Drop.l0, if_neg (by omega), List.drop_eq_nil_of_le (by omega)]
    have : wrap64 ((l.length : Int) - (X.length : Int)) = (l.length : Int) - (X.length : Int) := by unfold wrap64; omega
    rw [this]
    simp [dropE, hl]
  | d + 1, i, k + 1, X, hi, hk, hX => by
    have hlt : i < E.length := by omega
    rw [caulkref36_Cache_Drop.l0, if_pos (by omega), if_pos (by omega), if_pos (by rw [List.length_map]; omega), rd_toS hlt, wrap_nat (by omega), List.drop_eq_getElem_cons hlt]
    by_cases he : E[i].1.1 = n
    · rw [if_pos (show (toS E[i]).f0.f0 = n from he), drop_l0 E n hE a l hl c d' d (i + 1) k _ (by omega) (by omega) (by omega)]
      unfold dropE
      rw [List.filter_cons_of_neg (by simpa using he)]
    · rw [if_neg (show ¬ (toS E[i]).f0.f0 = n from he), if_pos (by omega), drop_l0 E n hE a l hl c d' d (i + 1) k _ (by omega) (by omega) (by simp; omega)]
      unfold dropE
      rw [List.filter_cons_of_pos (by simpa using he)]
      simp [toS]
theorem drop_f (E : List (Pl × ByteArray)) (n : Int) (hE : E.length ≤ 1000000) (room hit miss : Int) : caulkref36_Cache_Drop.f 1000001 room (E.map toS) hit miss n = some (room, (dropE E n).map toS, hit, miss, (E.length : Int) - ((dropE E n).length : Int)) := by
  unfold caulkref36_Cache_Drop.f
  have := drop_l0 E n hE room (E.map toS) (by simp) hit miss E.length 0 1000001 [] (by omega) (by omega) (by simp)
  rw [List.length_map]
  simpa using this
theorem dropE_le (E : List (Pl × ByteArray)) (n : Int) : (dropE E n).length ≤ E.length := List.length_filter_le _ _
theorem order_l0 (E : List (Pl × ByteArray)) (hE : E.length ≤ 1000000) : ∀ (d i : Nat) (k : Nat) (X : List S34), i + d = E.length → d < k → X.length ≤ i → caulkref36_Cache_Order.l0 k X (E.map toS) (E.length : Int) (i : Int) = some (X ++ ((E.drop i).map (·.1)).map toP)
  | 0, i, k + 1, X, hi, hk, hX => by
    rw [caulkref36_Cache_Order.l0, if_neg (by omega), List.drop_eq_nil_of_le (by omega)]
    simp
  | d + 1, i, k + 1, X, hi, hk, hX => by
    have hlt : i < E.length := by omega
    rw [caulkref36_Cache_Order.l0, if_pos (by omega), if_pos (by omega), if_pos (by rw [List.length_map]; omega), rd_toS hlt, wrap_nat (by omega), List.drop_eq_getElem_cons hlt, if_pos (by omega), order_l0 E hE d (i + 1) k _ (by omega) (by omega) (by simp; omega), List.map_cons, List.map_cons]
    simp only [List.append_assoc, List.singleton_append]
    rfl
theorem order_f (E : List (Pl × ByteArray)) (hE : E.length ≤ 1000000) (room hit miss : Int) : caulkref36_Cache_Order.f 1000001 room (E.map toS) hit miss = some ((E.map (·.1)).map toP) := by
  unfold caulkref36_Cache_Order.f
  have := order_l0 E hE E.length 0 1000001 [] (by omega) (by omega) (by simp)
  rw [List.length_map]
  simpa using this
theorem same_l0 (L : List Pl) (hL : L.length ≤ 1000000) : ∀ (d i : Nat) (k : Nat), i + d = L.length → d < k → caulkref26_SamePlaces.l0 k (L.map toP) (L.map toP) (L.length : Int) (i : Int) = some true
  | 0, i, k + 1, hi, hk => by rw [caulkref26_SamePlaces.l0, if_neg (by omega)]
  | d + 1, i, k + 1, hi, hk => by
    rw [caulkref26_SamePlaces.l0, if_pos (by omega), if_pos (by omega), if_pos (by rw [List.length_map]; omega), if_pos (by rw [List.length_map]; omega), if_neg (by simp), wrap_nat (by omega)]
    exact same_l0 L hL d (i + 1) k (by omega) (by omega)
theorem same_f (L : List Pl) (hL : L.length ≤ 1000000) : caulkref26_SamePlaces.f 1000001 (L.map toP) (L.map toP) = some true := by
  unfold caulkref26_SamePlaces.f
  rw [if_pos rfl, List.length_map]
  exact same_l0 L hL L.length 0 1000001 (by omega) (by omega)
end Go.Proofs.Ytoglapodcejocaa.G
