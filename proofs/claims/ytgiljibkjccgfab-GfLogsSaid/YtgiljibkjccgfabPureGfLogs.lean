/- GfLogs: the pure statement: numbers and lists alone. Conditions: those of the statement itself. -/
import Derived.Test.YtgiljibkjccgfabGx4
import Derived.OpenShut
namespace Go.Proofs.Ytgiljibkjccgfab.Pure
open Go.RowKit Go.Proofs.Ytgiljibkjccgfab.G Go.Proofs.YtgiljibkjccgfabW.PrintWords Go.Proofs.YtgiljibkjccgfabW.PrintLast Go.Proofs.YtgiljibkjccgfabW.PrintMore Go.OpenShut
set_option linter.unusedVariables false
set_option linter.unusedSimpArgs false
theorem lives02 : caulklaw02_lives.f = some true := by decide +kernel
theorem isB_of {a : Int} (h : (Lit.int .u8 a).wf = true) : isB a := by have := bounds_u8 h; unfold isB; omega
theorem mulI_isB (a b : Int) : isB (mulI a b) := el_range _
theorem gfmul {a b : Int} (ha : isB a) (hb : isB b) : gf_Mul.f a b = some (mulI a b) := if_pos ⟨ha, hb⟩
theorem refmul {a b : Int} (ha : isB a) (hb : isB b) : caulkref02_Mul.f a b = some (mulI a b) := if_pos ⟨ha, hb⟩
theorem el_mulI (a b : Int) : el (mulI a b) = GfM.mul (el a) (el b) := el_nat _
theorem mulI_nat (a b : BitVec 8) : mulI (a.toNat : Int) (b.toNat : Int) = ((GfM.mul a b).toNat : Int) := by unfold mulI; rw [el_nat, el_nat]
theorem asel {a : Int} (h : isB a) : ∃ x : BitVec 8, a = (x.toNat : Int) := ⟨el a, (el_back h.1 h.2).symm⟩
theorem isB_nat (x : BitVec 8) : isB (x.toNat : Int) := el_range x
theorem el_ne {x : BitVec 8} (h : (x.toNat : Int) ≠ 0) : x ≠ 0#8 := by intro e; apply h; rw [e]; rfl
theorem ne_el {x : BitVec 8} (h : x ≠ 0#8) : (x.toNat : Int) ≠ 0 := by intro e; apply h; apply BitVec.eq_of_toNat_eq; simp; omega
/-- The inverse. -/
def invI (a : Int) : Int := ((GfM.inv (el a)).toNat : Int)
theorem invI_isB (a : Int) : isB (invI a) := el_range _
theorem inv_eq {a : Int} (h : isB a) : gf_Inv.f a = some (if a = 0 then (0, 13) else (invI a, 0)) := by
  unfold gf_Inv.f
  by_cases h0 : a = 0
  · rw [if_pos h0, if_pos h0]
  · rw [if_neg h0, if_neg h0]
    unfold gf_power.f
    rw [if_pos ⟨h, by decide, by decide⟩]
    simp only [Option.bind_some]
    have : powI a 254 = invI a := by
      unfold powI invI GfM.inv
      rw [show (254 : Int).toNat = 254 from rfl]
      rw [show (64 : Nat) = 8 + 56 from rfl, pwk_more 8 _ _ _ 56 (by decide)]
    rw [this]
theorem refinv_l0 (x : BitVec 8) (hx : x ≠ 0#8) : ∀ (d i : Nat), i + d = (GfM.inv x).toNat → 1 ≤ i → ∀ k, d < k → caulkref02_Inv.l0 k (x.toNat : Int) (i : Int) = some (((GfM.inv x).toNat : Int), 0)
  | 0, i, hi, h1, k, hk => by
    obtain ⟨k, rfl⟩ : ∃ m, k = m + 1 := ⟨k - 1, by omega⟩
    have hlt := (GfM.inv x).isLt
    obtain rfl : i = (GfM.inv x).toNat := by omega
    simp only [caulkref02_Inv.l0]
    rw [if_pos (by omega), Int.emod_eq_of_lt (by omega) (by omega), refmul (isB_nat _) (isB_nat _), mulI_nat, GfM.mul_inv x hx]
    rfl
  | d + 1, i, hi, h1, k, hk => by
    obtain ⟨k, rfl⟩ : ∃ m, k = m + 1 := ⟨k - 1, by omega⟩
    have hlt := (GfM.inv x).isLt
    simp only [caulkref02_Inv.l0]
    have hi8 : i < 256 := by omega
    have ei : (i : Int) = ((BitVec.ofNat 8 i).toNat : Int) := by rw [BitVec.toNat_ofNat]; omega
    have hne : mulI (x.toNat : Int) (i : Int) ≠ 1 := by
      rw [ei, mulI_nat]
      intro e
      have e1 : GfM.mul x (BitVec.ofNat 8 i) = 1#8 := BitVec.eq_of_toNat_eq (by show _ = 1; omega)
      have e2 := GfM.mul_cancel hx (e1.trans (GfM.mul_inv x hx).symm)
      have := congrArg BitVec.toNat e2
      rw [BitVec.toNat_ofNat] at this
      omega
    rw [if_pos (by omega), Int.emod_eq_of_lt (by omega) (by omega), refmul (isB_nat _) ⟨by omega, by omega⟩]
    simp only [Option.bind_some]
    rw [if_neg hne, show wrap64 ((i : Int) + 1) = ((i + 1 : Nat) : Int) from by unfold wrap64; omega]
    exact refinv_l0 x hx d (i + 1) (by omega) (by omega) k (by omega)
theorem refinv_zero : ∀ (d i : Nat), i + d = 256 → ∀ k, d < k → caulkref02_Inv.l0 k 0 (i : Int) = some (0, 13)
  | 0, i, hi, k, hk => by
    obtain ⟨k, rfl⟩ : ∃ m, k = m + 1 := ⟨k - 1, by omega⟩
    simp only [caulkref02_Inv.l0]
    rw [if_neg (by omega)]
  | d + 1, i, hi, k, hk => by
    obtain ⟨k, rfl⟩ : ∃ m, k = m + 1 := ⟨k - 1, by omega⟩
    simp only [caulkref02_Inv.l0]
    have hz : mulI 0 (i : Int) = 0 := by
      unfold mulI; rw [show el 0 = 0#8 from rfl, GfM.zero_mul]; rfl
    rw [if_pos (by omega), Int.emod_eq_of_lt (by omega) (by omega), refmul ⟨by decide, by decide⟩ ⟨by omega, by omega⟩, hz]
    simp only [Option.bind_some]
    rw [if_neg (by decide), show wrap64 ((i : Int) + 1) = ((i + 1 : Nat) : Int) from by unfold wrap64; omega]
    exact refinv_zero d (i + 1) (by omega) k (by omega)
theorem refinv_eq {a : Int} (h : isB a) (k : Nat) (hk : 300 ≤ k) : caulkref02_Inv.f k a = some (if a = 0 then (0, 13) else (invI a, 0)) := by
  unfold caulkref02_Inv.f
  by_cases h0 : a = 0
  · subst h0
    rw [if_pos rfl]
    exact refinv_zero 255 1 rfl k (by omega)
  · rw [if_neg h0]
    obtain ⟨x, rfl⟩ := asel h
    have hi := GfM.mul_inv x (el_ne h0)
    have h1 : 1 ≤ (GfM.inv x).toNat := by
      by_cases e : (GfM.inv x).toNat = 0
      · have : GfM.inv x = 0#8 := BitVec.eq_of_toNat_eq (by simpa using e)
        rw [this, GfM.mul_zero] at hi
        exact absurd hi (by decide)
      · omega
    have hlt := (GfM.inv x).isLt
    unfold invI
    rw [el_nat]
    exact refinv_l0 x (el_ne h0) ((GfM.inv x).toNat - 1) 1 (by omega) (by omega) k (by omega)
theorem div_eq {a b : Int} (ha : isB a) (hb : isB b) : gf_Div.f a b = some (if b = 0 then (0, 13) else (mulI a (invI b), 0)) := by
  unfold gf_Div.f
  rw [inv_eq hb]
  by_cases h0 : b = 0
  · rw [if_pos h0, if_pos h0]; rfl
  · rw [if_neg h0, if_neg h0]
    simp only [Option.bind_some, if_true]
    rw [gfmul ha (invI_isB b)]; rfl
theorem refdiv_eq {a b : Int} (ha : isB a) (hb : isB b) (k : Nat) (hk : 300 ≤ k) : caulkref02_Div.f k a b = some (if b = 0 then (0, 13) else (mulI a (invI b), 0)) := by
  unfold caulkref02_Div.f
  rw [refinv_eq hb k hk]
  by_cases h0 : b = 0
  · rw [if_pos h0, if_pos h0]; rfl
  · rw [if_neg h0, if_neg h0]
    simp only [Option.bind_some, if_true]
    rw [refmul ha (invI_isB b)]; rfl
theorem mul_two_all : ∀ i, i < 256 → GfM.mul (BitVec.ofNat 8 i) 2#8 = GfM.dbl (BitVec.ofNat 8 i) := by decide +kernel
theorem mul_two (x : BitVec 8) : GfM.mul x 2#8 = GfM.dbl x := by have := mul_two_all x.toNat x.isLt; simpa using this
theorem gpow_add (i : Nat) : ∀ j, gpow (i + j) = GfM.mul (gpow i) (gpow j)
  | 0 => by rw [Nat.add_zero]; exact (GfM.mul_one _).symm
  | j + 1 => by
    rw [← Nat.add_assoc]
    show GfM.dbl (gpow (i + j)) = GfM.mul (gpow i) (GfM.dbl (gpow j))
    rw [gpow_add i j, ← mul_two, ← mul_two, GfM.mul_assoc]
theorem gpow_255 : gpow 255 = 1#8 := by decide +kernel
theorem gpow_wrap (i q : Nat) : gpow (i + 255 * q) = gpow i := by
  induction q with
  | zero => rfl
  | succ q ih => rw [Nat.mul_succ, ← Nat.add_assoc, gpow_add, ih, gpow_255, GfM.mul_one]
theorem gpow_mod (i : Nat) : gpow (i % 255) = gpow i := by
  have := gpow_wrap (i % 255) (i / 255)
  rw [Nat.mod_add_div] at this
  exact this.symm
theorem gpow_ne1_all : ∀ d, d < 255 → d ≠ 0 → gpow d ≠ 1#8 := by decide +kernel
theorem gpow_nz (i : Nat) : gpow i ≠ 0#8 := by
  intro e
  have h := gpow_add (i % 255) (255 - i % 255)
  have hl := Nat.mod_lt i (show 0 < 255 from by decide)
  rw [show i % 255 + (255 - i % 255) = 255 from by omega, gpow_255, gpow_mod, e, GfM.zero_mul] at h
  exact absurd h (by decide)
theorem gpow_inj {n r : Nat} (hn : n < r) (hr : r < 255) : gpow n ≠ gpow r := by
  intro e
  have h := gpow_add n (r - n)
  rw [show n + (r - n) = r from by omega, ← e] at h
  have := GfM.mul_cancel (gpow_nz n) ((GfM.mul_one (gpow n)).trans h)
  exact gpow_ne1_all (r - n) (by omega) (by omega) this.symm
theorem log_gpow (r : Nat) (hr : r < 255) : logI ((gpow r).toNat : Int) = ((r : Int), 0) := by
  obtain ⟨rest, hs⟩ := gxs_split r hr
  unfold logI
  rw [hs, el_nat, find_hit (last := (r, gpow r)) (fun p hp => ?_) rfl]
  simp only [gxs, List.mem_map, List.mem_range] at hp
  obtain ⟨n, hn, rfl⟩ := hp
  exact gpow_inj hn hr
theorem log_zero : logI 0 = (0, 13) := by
  unfold logI
  rw [List.find?_eq_none.2 (fun p hp => ?_)]
  simp only [gxs, List.mem_map, List.mem_range] at hp
  obtain ⟨n, hn, rfl⟩ := hp
  have := gpow_nz n
  rw [show el 0 = 0#8 from rfl]
  simpa using this
def dlist : Nat → BitVec 8 → List (BitVec 8)
  | 0, _ => []
  | n + 1, x => x :: dlist n (GfM.dbl x)
theorem dlist_mem : ∀ (n m : Nat) (y : BitVec 8), y ∈ dlist n (gpow m) → ∃ r, r < m + n ∧ gpow r = y
  | 0, _, _, h => by simp [dlist] at h
  | n + 1, m, y, h => by
    simp only [dlist, List.mem_cons] at h
    rcases h with rfl | h
    · exact ⟨m, by omega, rfl⟩
    · obtain ⟨r, hr, e⟩ := dlist_mem n (m + 1) y h
      exact ⟨r, by omega, e⟩
theorem dlist_all : ∀ i, i < 256 → i ≠ 0 → (dlist 255 1#8).contains (BitVec.ofNat 8 i) = true := by decide +kernel
theorem has_log (x : BitVec 8) (hx : x ≠ 0#8) : ∃ r, r < 255 ∧ gpow r = x := by
  have := dlist_all x.toNat x.isLt (fun e => hx (BitVec.eq_of_toNat_eq (by simpa using e)))
  rw [BitVec.ofNat_toNat, BitVec.setWidth_eq, List.contains_iff_mem] at this
  obtain ⟨r, hr, e⟩ := dlist_mem 255 0 x this
  exact ⟨r, by omega, e⟩
theorem pw_gpow_all : ∀ m, m < 255 → GfM.pwk 8 1#8 m 2#8 = gpow m := by decide +kernel
theorem powI_two (m : Nat) (hm : m < 255) : powI 2 (m : Int) = ((gpow m).toNat : Int) := by
  unfold powI
  rw [Int.toNat_natCast, show el 2 = 2#8 from rfl, show (64 : Nat) = 8 + 56 from rfl, pwk_more 8 _ _ _ 56 (by omega), pw_gpow_all m hm]
/-- The rest by 255. -/
def r255 (n : Int) : Nat := (n % 255).toNat
theorem r255_lt (n : Int) : r255 n < 255 := by unfold r255; omega
theorem tmod255 (n : Int) : (if Int.tmod n 255 < 0 then Int.tmod n 255 + 255 else Int.tmod n 255) = (r255 n : Int) := by
  unfold r255
  by_cases h : 0 ≤ n
  · rw [Int.tmod_eq_emod_of_nonneg h, if_neg (by omega)]; omega
  · obtain ⟨m, rfl⟩ : ∃ m : Int, n = -m := ⟨-n, by omega⟩
    rw [Int.neg_tmod, Int.tmod_eq_emod_of_nonneg (by omega)]
    split <;> omega
theorem exp_eq (n : Int) : gf_Exp.f n = some ((gpow (r255 n)).toNat : Int) := by
  have ht := tmod255 n
  have hr := r255_lt n
  unfold gf_Exp.f
  by_cases h : Int.tmod n 255 < 0
  · rw [if_pos h] at ht ⊢
    rw [show wrap64 (Int.tmod n 255 + 255) = (r255 n : Int) from by rw [ht]; unfold wrap64; omega, show IntKind.u64.wrap (r255 n : Int) = (r255 n : Int) from by rw [IntKind.wrap_u64]; omega]
    unfold gf_power.f
    rw [if_pos ⟨⟨by decide, by decide⟩, by omega, by omega⟩, powI_two _ hr]; rfl
  · rw [if_neg h] at ht ⊢
    rw [ht, show IntKind.u64.wrap (r255 n : Int) = (r255 n : Int) from by rw [IntKind.wrap_u64]; omega]
    unfold gf_power.f
    rw [if_pos ⟨⟨by decide, by decide⟩, by omega, by omega⟩, powI_two _ hr]; rfl
theorem refexp_l0 (m : Nat) (hm : m < 255) : ∀ (d i : Nat), i + d = m → ∀ k, d < k → caulkref02_Exp.l0 k (m : Int) ((gpow i).toNat : Int) (i : Int) = some ((gpow m).toNat : Int)
  | 0, i, hi, k, hk => by
    obtain ⟨k, rfl⟩ : ∃ m, k = m + 1 := ⟨k - 1, by omega⟩
    obtain rfl : i = m := by omega
    simp only [caulkref02_Exp.l0]
    rw [if_neg (by omega)]
  | d + 1, i, hi, k, hk => by
    obtain ⟨k, rfl⟩ : ∃ m, k = m + 1 := ⟨k - 1, by omega⟩
    simp only [caulkref02_Exp.l0]
    rw [if_pos (by omega), refmul (isB_nat _) ⟨by decide, by decide⟩, show (2 : Int) = ((2#8 : BitVec 8).toNat : Int) from rfl, mulI_nat, mul_two, show wrap64 ((i : Int) + 1) = ((i + 1 : Nat) : Int) from by unfold wrap64; omega]
    exact refexp_l0 m hm d (i + 1) (by omega) k (by omega)
theorem refexp_eq (n : Int) (k : Nat) (hk : 300 ≤ k) : caulkref02_Exp.f k n = some ((gpow (r255 n)).toNat : Int) := by
  have ht := tmod255 n
  have hr := r255_lt n
  obtain ⟨k, rfl⟩ : ∃ m, k = m + 1 := ⟨k - 1, by omega⟩
  have h0 := refexp_l0 (r255 n) hr (r255 n) 0 (by omega) k (by omega)
  rw [show ((gpow 0).toNat : Int) = 1 from rfl, show ((0 : Nat) : Int) = 0 from rfl] at h0
  unfold caulkref02_Exp.f
  by_cases h : Int.tmod n 255 < 0
  · rw [if_pos h] at ht ⊢
    rw [show wrap64 (Int.tmod n 255 + 255) = (r255 n : Int) from by rw [ht]; unfold wrap64; omega]
    exact h0
  · rw [if_neg h] at ht ⊢
    rw [ht]
    exact h0
theorem gflog {a : Int} (ha : isB a) : gf_Log.f a = some (logI a) := if_pos ha
theorem reflog_l0 (a : BitVec 8) : ∀ (d i : Nat), i + d = 255 → (∀ p ∈ gxs i, p.2 ≠ a) → ∀ k, d < k → caulkref02_Log.l0 k (a.toNat : Int) ((gpow i).toNat : Int) (i : Int) = some (logI (a.toNat : Int))
  | 0, i, hi, hp, k, hk => by
    obtain ⟨k, rfl⟩ : ∃ m, k = m + 1 := ⟨k - 1, by omega⟩
    obtain rfl : i = 255 := by omega
    simp only [caulkref02_Log.l0]
    rw [if_neg (by omega)]
    unfold logI
    rw [el_nat, List.find?_eq_none.2 (fun p h => by simpa using hp p h)]
  | d + 1, i, hi, hp, k, hk => by
    obtain ⟨k, rfl⟩ : ∃ m, k = m + 1 := ⟨k - 1, by omega⟩
    simp only [caulkref02_Log.l0]
    rw [if_pos (by omega)]
    by_cases e : gpow i = a
    · rw [if_pos (by rw [e]), ← e, log_gpow i (by omega)]
    · rw [if_neg (fun h => e (BitVec.eq_of_toNat_eq (by omega))), refmul (isB_nat _) ⟨by decide, by decide⟩, show (2 : Int) = ((2#8 : BitVec 8).toNat : Int) from rfl, mulI_nat, mul_two, show wrap64 ((i : Int) + 1) = ((i + 1 : Nat) : Int) from by unfold wrap64; omega]
      refine reflog_l0 a d (i + 1) (by omega) (fun p h => ?_) k (by omega)
      rw [gxs_succ, List.mem_append] at h
      rcases h with h | h
      · exact hp p h
      · simp at h; rw [h]; exact e
theorem reflog_eq {a : Int} (ha : isB a) (k : Nat) (hk : 300 ≤ k) : caulkref02_Log.f k a = some (logI a) := by
  obtain ⟨x, rfl⟩ := asel ha
  exact reflog_l0 x 255 0 rfl (fun p h => by simp [gxs] at h) k (by omega)
theorem r255_cast (m n : Int) : gpow (r255 (m + n)) = GfM.mul (gpow (r255 m)) (gpow (r255 n)) := by
  rw [← gpow_add, ← gpow_mod (r255 m + r255 n)]
  congr 1
  unfold r255
  omega
theorem GfLogs : caulklaw02_GfLogs.Pure := by
  intro m n a wm wn wa
  have bm := bounds_i32 wm
  have bn := bounds_i32 wn
  have ha := isB_of wa
  refine ⟨2, ?_⟩
  have w1 : wrap64 m = m := by unfold wrap64; omega
  have w2 : wrap64 n = n := by unfold wrap64; omega
  have w3 : wrap64 (m + n) = m + n := by unfold wrap64; omega
  have main : caulklaw02_GfLogs.j0 2 m n false = some true := by
    simp only [caulklaw02_GfLogs.j0, Bool.false_eq_true, if_false]
    rw [w1, w2, w3, exp_eq, exp_eq, exp_eq]
    simp only [Option.bind_some]
    rw [gflog (isB_nat _), log_gpow _ (r255_lt m)]
    simp only [Option.bind_some, if_true]
    have hd : Int.tmod (wrap64 (m - (r255 m : Int))) 255 = 0 := by
      have hr := r255_lt m
      rw [show wrap64 (m - (r255 m : Int)) = m - (r255 m : Int) from by unfold wrap64; omega]
      apply Int.tmod_eq_zero_of_dvd
      unfold r255
      omega
    rw [if_pos hd, gfmul (isB_nat _) (isB_nat _), mulI_nat, r255_cast]
    simp
  unfold caulklaw02_GfLogs.f
  rw [lives02, gflog ha]
  simp only [Option.bind_some, if_true]
  by_cases h0 : a = 0
  · rw [if_pos h0]; exact main
  · rw [if_neg h0]
    obtain ⟨x, rfl⟩ := asel ha
    obtain ⟨r, hr, rfl⟩ := has_log x (el_ne h0)
    rw [log_gpow r hr]
    simp only [if_true]
    rw [exp_eq, show r255 (r : Int) = r from by unfold r255; omega]
    simp only [Option.bind_some, if_true]
    rw [if_neg (by omega), show decide ((r : Int) > 254) = false from decide_eq_false (by omega)]
    exact main
end Go.Proofs.Ytgiljibkjccgfab.Pure
