/- The last places that were used, as lists: plain mathematics over this seat's lists of a cache. Conditions: each lemma's own. -/
import Derived.Test.YtoglapodcejocaaCachePlays
namespace Go.Proofs.Ytoglapodcejocaa.G
open Go.RowKit Go.Proofs.YtoglapodcejocaaW.PrintWords Go.Proofs.YtoglapodcejocaaW.PrintLast Go.Proofs.YtoglapodcejocaaW.PrintMore
set_option linter.unusedVariables false
set_option linter.unusedSimpArgs false
/-- Each place once, where it is first met. -/
def ddStep (A : List Pl) (x : Pl) : List Pl := if x ∈ A then A else A ++ [x]
def dd (R : List Pl) : List Pl := R.foldl ddStep []
theorem dd_snoc (R : List Pl) (x : Pl) : dd (R ++ [x]) = ddStep (dd R) x := by unfold dd; rw [List.foldl_append]; rfl
theorem fold_cons (p : Pl) : ∀ (R A : List Pl), R.foldl ddStep (p :: A.filter (fun q => decide (q ≠ p))) = p :: (R.foldl ddStep A).filter (fun q => decide (q ≠ p))
  | [], A => rfl
  | x :: R, A => by
    have h : ddStep (p :: A.filter (fun q => decide (q ≠ p))) x = p :: (ddStep A x).filter (fun q => decide (q ≠ p)) := by
      unfold ddStep
      by_cases hx : x = p
      · subst hx
        rw [if_pos (by simp)]
        by_cases h2 : x ∈ A
        · rw [if_pos h2]
        · rw [if_neg h2, List.filter_append]; simp
      · by_cases h2 : x ∈ A
        · rw [if_pos h2, if_pos (by simp [h2, hx])]
        · rw [if_neg h2, if_neg (by simp [h2, hx]), List.filter_append]; simp [hx]
    rw [List.foldl_cons, h, fold_cons p R (ddStep A x), List.foldl_cons]
theorem dd_cons (p : Pl) (R : List Pl) : dd (p :: R) = p :: (dd R).filter (fun q => decide (q ≠ p)) := by
  have h := fold_cons p R []
  have e : dd (p :: R) = R.foldl ddStep [p] := by unfold dd; rw [List.foldl_cons]; rfl
  rw [e]
  exact h
theorem dd_nodup_fold : ∀ (R A : List Pl), A.Nodup → (R.foldl ddStep A).Nodup
  | [], A, h => h
  | x :: R, A, h => by
    rw [List.foldl_cons]
    refine dd_nodup_fold R _ ?_
    unfold ddStep
    by_cases h2 : x ∈ A
    · rw [if_pos h2]; exact h
    · rw [if_neg h2, List.nodup_append]
      exact ⟨h, by simp, fun a ha b hb => by simp at hb; subst hb; exact fun e => h2 (e ▸ ha)⟩
theorem dd_nodup (R : List Pl) : (dd R).Nodup := dd_nodup_fold R [] List.nodup_nil
theorem take_filter (p : Pl) : ∀ (L : List Pl) (r : Nat), L.Nodup → ((L.take r).filter (fun q => decide (q ≠ p))).take (r - 1) = (L.filter (fun q => decide (q ≠ p))).take (r - 1)
  | [], r, _ => by simp
  | x :: L, 0, _ => by simp
  | x :: L, r + 1, h => by
    obtain ⟨h1, h2⟩ := List.nodup_cons.1 h
    rw [List.take_succ_cons]
    by_cases hx : x = p
    · subst hx
      have e : ∀ M : List Pl, x ∉ M → M.filter (fun q => decide (q ≠ x)) = M := fun M hM => List.filter_eq_self.2 (fun a ha => decide_eq_true (fun e => hM (e ▸ ha)))
      rw [List.filter_cons_of_neg (by simp), List.filter_cons_of_neg (by simp), e L h1, e (L.take r) (fun hm => h1 (List.mem_of_mem_take hm))]
      simp [List.take_take]
    · rw [List.filter_cons_of_pos (by simpa using hx), List.filter_cons_of_pos (by simpa using hx)]
      cases r with
      | zero => simp
      | succ m =>
        have ih := take_filter p L (m + 1) h2
        simp only [Nat.add_sub_cancel, List.take_succ_cons] at ih ⊢
        rw [ih]
theorem take_cons_filter (p : Pl) (L : List Pl) (r : Nat) (h1 : 1 ≤ r) (h : L.Nodup) : (p :: (L.take r).filter (fun q => decide (q ≠ p))).take r = (p :: L.filter (fun q => decide (q ≠ p))).take r := by
  obtain ⟨m, rfl⟩ : ∃ m, r = m + 1 := ⟨r - 1, by omega⟩
  have := take_filter p L (m + 1) h
  simp only [Nat.add_sub_cancel] at this
  rw [List.take_succ_cons, List.take_succ_cons, this]
/-- The last ones of what was used, no more than r. -/
def lastU (r : Nat) (U : List Pl) : List Pl := (dd U.reverse).take r
theorem lastU_snoc (r : Nat) (U : List Pl) (p : Pl) (h1 : 1 ≤ r) : lastU r (U ++ [p]) = (p :: (lastU r U).filter (fun q => decide (q ≠ p))).take r := by
  unfold lastU
  rw [List.reverse_append, List.reverse_singleton, List.singleton_append, dd_cons, take_cons_filter p _ r h1 (dd_nodup _)]
theorem withoutE_fst (E : List (Pl × ByteArray)) (p : Pl) : (withoutE E p).map (·.1) = (E.map (·.1)).filter (fun q => decide (q ≠ p)) := by
  unfold withoutE
  rw [List.filter_map]
  rfl
/-- What a cache has are the last places that were used, each with what was put under it last. -/
structure LastI (r : Nat) (E : List (Pl × ByteArray)) (U : List Pl) (Q : List S36) : Prop where
  fst : E.map (·.1) = lastU r U
  txt : ∀ p s, (p, s) ∈ E → ∀ a, Q.reverse.find? (fun a => decide ((a.f1.f0, a.f1.f1) = p)) = some a → a.f2 = s
theorem LastI.nil (r : Nat) : LastI r [] [] [] := ⟨by simp [lastU, dd], fun p s h => by cases h⟩
theorem putE_take (room : Int) (r : Nat) (hr : (r : Int) = room) (h1 : 1 ≤ r) (E : List (Pl × ByteArray)) (p : Pl) (s : ByteArray) (hE : E.length ≤ r) : putE room E p s = ((p, s) :: withoutE E p).take r := by
  have hw := withoutE_le E p
  unfold putE
  split
  · rw [List.dropLast_eq_take]
    have : ((p, s) :: withoutE E p).length - 1 = r := by simp; omega
    rw [this]
  · rw [List.take_of_length_le (by simp; omega)]
theorem LastI.put {room : Int} {r : Nat} {E : List (Pl × ByteArray)} {U : List Pl} {Q : List S36} (h : LastI r E U Q) (hr : (r : Int) = room) (h1 : 1 ≤ r) (hE : E.length ≤ r) (x : S36) : LastI r (putE room E (x.f1.f0, x.f1.f1) x.f2) (U ++ [(x.f1.f0, x.f1.f1)]) (Q ++ [x]) := by
  obtain ⟨p, hp⟩ : ∃ p : Pl, p = (x.f1.f0, x.f1.f1) := ⟨_, rfl⟩
  rw [← hp, putE_take room r hr h1 E p x.f2 hE]
  refine ⟨?_, fun q t hq a ha => ?_⟩
  · rw [List.map_take, List.map_cons, withoutE_fst, h.fst, lastU_snoc r U p h1]
  · rw [List.reverse_append, List.reverse_singleton, List.singleton_append] at ha
    have hq' := List.mem_of_mem_take hq
    rcases List.mem_cons.1 hq' with h' | h'
    · injection h' with e1 e2
      rw [List.find?_cons_of_pos (by rw [← hp, e1]; simp)] at ha
      rw [← Option.some.inj ha, e2]
    · have hm := List.mem_filter.1 h'
      have hne : q ≠ p := by simpa using hm.2
      rw [List.find?_cons_of_neg (by rw [← hp]; simpa using fun e => hne e.symm)] at ha
      exact h.txt q t hm.1 a ha
theorem LastI.get {r : Nat} {E E' : List (Pl × ByteArray)} {U : List Pl} {Q : List S36} (h : LastI r E U Q) (h1 : 1 ≤ r) (hE : E.length ≤ r) {p : Pl} {hit miss hit' miss' : Int} {s : ByteArray} {is : Bool} (hg : getE E p hit miss = (E', s, is, hit', miss')) :
    (is = false ∧ E' = E) ∨ (is = true ∧ LastI r E' (U ++ [p]) Q ∧ ∀ a, Q.reverse.find? (fun a => decide ((a.f1.f0, a.f1.f1) = p)) = some a → a.f2 = s) := by
  have hle := (getE_le E p hit miss hg).1
  unfold getE at hg
  cases hf : findE E p with
  | none =>
    rw [hf] at hg
    simp only [Prod.mk.injEq] at hg
    exact .inl ⟨hg.2.2.1.symm, hg.1.symm⟩
  | some x =>
    rw [hf] at hg
    simp only [Prod.mk.injEq] at hg
    obtain ⟨rfl, rfl, rfl, _, _⟩ := hg
    have hm := List.mem_of_find?_eq_some hf
    have hp : x.1 = p := by simpa using List.find?_some hf
    have hx : (p, x.2) ∈ E := by rw [← hp]; exact hm
    refine .inr ⟨rfl, ⟨?_, fun q t hq a ha => ?_⟩, fun a ha => h.txt p x.2 hx a ha⟩
    · rw [lastU_snoc r U p h1, List.map_cons, withoutE_fst, h.fst, List.take_of_length_le]
      have hl : ((p, x.2) :: withoutE E p).length ≤ r := by omega
      have e : (p :: (lastU r U).filter (fun q => decide (q ≠ p))).length = ((p, x.2) :: withoutE E p).length := by
        rw [← h.fst, ← withoutE_fst]; simp
      rw [e]; exact hl
    · rcases List.mem_cons.1 hq with h' | h'
      · injection h' with e1 e2
        rw [e1] at ha
        rw [h.txt p x.2 hx a ha, e2]
      · exact h.txt q t (List.mem_filter.1 h').1 a ha
/-- The search from the end. -/
theorem find_rev {Q : List S36} {p : Pl} {j : Nat} (hj : j < Q.length) (hn : ∀ m (hm : m < Q.length), j < m → (Q[m].f1.f0, Q[m].f1.f1) ≠ p) (he : (Q[j].f1.f0, Q[j].f1.f1) = p) : Q.reverse.find? (fun a => decide ((a.f1.f0, a.f1.f1) = p)) = some Q[j] := by
  rw [List.find?_eq_some_iff_getElem]
  refine ⟨by simpa using he, Q.length - 1 - j, by simp; omega, ?_, fun m hm => ?_⟩
  · rw [List.getElem_reverse]; congr 1; omega
  · rw [List.getElem_reverse]
    simpa using hn (Q.length - 1 - m) (by omega) (by omega)
/-- What is wanted, when j of those used were looked at, from the end. -/
def wantU (r : Nat) (U : List Pl) (j : Nat) : List Pl := (dd (U.reverse.take j)).take r
theorem wantU_zero (r : Nat) (U : List Pl) : wantU r U 0 = [] := by simp [wantU, dd]
theorem dd_prefix_fold : ∀ (R A : List Pl), A <+: R.foldl ddStep A
  | [], A => List.prefix_rfl
  | x :: R, A => by
    rw [List.foldl_cons]
    refine List.IsPrefix.trans ?_ (dd_prefix_fold R (ddStep A x))
    unfold ddStep
    split
    · exact List.prefix_rfl
    · exact List.prefix_append _ _
theorem wantU_full {r : Nat} {U : List Pl} {j : Nat} (h : r ≤ (wantU r U j).length) : wantU r U j = lastU r U := by
  unfold wantU lastU at *
  have hp : dd (U.reverse.take j) <+: dd U.reverse := by
    have e : U.reverse = U.reverse.take j ++ U.reverse.drop j := (List.take_append_drop _ _).symm
    unfold dd
    rw [show (List.foldl ddStep [] U.reverse) = List.foldl ddStep (List.foldl ddStep [] (U.reverse.take j)) (U.reverse.drop j) from by rw [← List.foldl_append, ← e]]
    exact dd_prefix_fold _ _
  obtain ⟨t, ht⟩ := hp
  rw [List.length_take] at h
  rw [← ht, List.take_append_of_le_length (by omega)]
theorem wantU_all (r : Nat) (U : List Pl) : wantU r U U.length = lastU r U := by
  unfold wantU lastU
  rw [List.take_of_length_le (l := U.reverse) (by simp)]
theorem wantU_succ {r : Nat} {U : List Pl} {j : Nat} (hj : j < U.length) (h : (wantU r U j).length < r) : wantU r U (j + 1) = if U[U.length - 1 - j] ∈ wantU r U j then wantU r U j else wantU r U j ++ [U[U.length - 1 - j]] := by
  have e0 : U.reverse[j]'(by simpa using hj) = U[U.length - 1 - j] := List.getElem_reverse _
  have hl : (dd (U.reverse.take j)).length < r := by
    unfold wantU at h
    rw [List.length_take] at h
    omega
  have hw : wantU r U j = dd (U.reverse.take j) := by unfold wantU; exact List.take_of_length_le (by omega)
  rw [hw]
  unfold wantU
  rw [List.take_succ_eq_append_getElem (by simpa using hj), dd_snoc, e0]
  unfold ddStep
  split
  · exact List.take_of_length_le (by omega)
  · exact List.take_of_length_le (by simp; omega)
end Go.Proofs.Ytoglapodcejocaa.G
