/- GeomBack: the pure statement: numbers and lists alone. Conditions: those of the statement itself. -/
import Derived.Test.YtegfembmnnmnbabGx7
import Derived.OpenShut
namespace Go.Proofs.Ytegfembmnnmnbab.Pure
open Go.RowKit Go.Proofs.Ytegfembmnnmnbab.G Go.Proofs.YtegfembmnnmnbabW.PrintWords Go.Proofs.YtegfembmnnmnbabW.PrintLast Go.Proofs.YtegfembmnnmnbabW.PrintMore Go.OpenShut
set_option linter.unusedVariables false
set_option linter.unusedSimpArgs false
theorem rs_eq (k m : Int) (hk : -9223372036854775808 ≤ k ∧ k ≤ 9223372036854775807) : rs_Check.f k m = some (if 1 ≤ k ∧ 0 ≤ m ∧ k ≤ 255 ∧ m ≤ 255 - k then 0 else 1) := by
  unfold rs_Check.f
  by_cases h1 : k < 1
  · rw [if_pos h1, if_neg (by omega)]
  rw [if_neg h1]
  by_cases h2 : m < 0
  · rw [if_pos h2, if_neg (by omega)]
  rw [if_neg h2]
  by_cases h3 : k > 255
  · rw [if_pos h3, if_neg (by omega)]
  rw [if_neg h3, show wrap64 (255 - k) = 255 - k from by unfold wrap64; omega]
  by_cases h4 : m > 255 - k
  · rw [if_pos h4, if_neg (by omega)]
  · rw [if_neg h4, if_pos (by omega)]
theorem rs4_eq (k m : Int) : caulkref04_Check.f k m = some (if 1 ≤ k ∧ 0 ≤ m ∧ k ≤ 255 ∧ m ≤ 255 - k then 0 else 1) := by
  unfold caulkref04_Check.f
  by_cases h1 : k < 1
  · rw [if_pos h1, if_neg (by omega)]
  rw [if_neg h1]
  by_cases h2 : m < 0
  · rw [if_pos h2, if_neg (by omega)]
  rw [if_neg h2]
  by_cases h3 : k > 255
  · rw [if_pos h3, if_neg (by omega)]
  rw [if_neg h3]
  by_cases h5 : m > 255
  · rw [if_pos h5, if_neg (by omega)]
  rw [if_neg h5, show wrap64 (k + m) = k + m from by unfold wrap64; omega]
  by_cases h4 : k + m > 255
  · rw [if_pos h4, if_neg (by omega)]
  · rw [if_neg h4, if_pos (by omega)]

/-- a right geometry -/
def good (s k m c : Int) : Prop := (0 ≤ s ∧ s ≤ 7) ∧ (1 ≤ k ∧ 0 ≤ m ∧ k ≤ 255 ∧ m ≤ 255 - k) ∧ 4 ≤ c ∧ c ≤ 4096 ∧ c * 2 ^ s.toNat ≤ 32768
instance (s k m c : Int) : Decidable (good s k m c) := by unfold good; infer_instance

theorem s_cases {s : Int} (h : 0 ≤ s ∧ s ≤ 7) : s = 0 ∨ s = 1 ∨ s = 2 ∨ s = 3 ∨ s = 4 ∨ s = 5 ∨ s = 6 ∨ s = 7 := by omega

theorem geom_eq (n : Nat) (s k m c : Int) (hk : -9223372036854775808 ≤ k ∧ k ≤ 9223372036854775807) : geom_Check.f (n + 1) s k m c = some (if good s k m c then 0 else 2) := by
  unfold geom_Check.f
  by_cases h1 : s < 0
  · rw [if_pos h1, if_neg (by unfold good; omega)]; simp [geom_Check.j0]
  rw [if_neg h1]
  by_cases h2 : s > 7
  · rw [if_pos h2, if_neg (by unfold good; omega)]; simp [geom_Check.j0]
  rw [if_neg h2, rs_eq k m hk]
  simp only [Option.bind_some, geom_Check.j0]
  by_cases h3 : 1 ≤ k ∧ 0 ≤ m ∧ k ≤ 255 ∧ m ≤ 255 - k
  · rw [if_pos h3]
    simp only [show ((0 : Int) != 0) = false from rfl, Bool.false_eq_true, if_false]
    by_cases h4 : c < 4
    · rw [if_pos h4, if_neg (by unfold good; omega)]
    rw [if_neg h4]
    by_cases h5 : c > 4096
    · rw [if_pos h5, if_neg (by unfold good; omega)]
    rw [if_neg h5, if_pos (by omega)]
    have hs : (0 : Int) ≤ s ∧ s ≤ 7 := by omega
    have key : (c > shr .i64 32768 s) ↔ ¬ (c * 2 ^ s.toNat ≤ 32768) := by
      rcases s_cases hs with rfl | rfl | rfl | rfl | rfl | rfl | rfl | rfl <;> simp [shr, IntKind.bits] <;> omega
    by_cases h6 : c * 2 ^ s.toNat ≤ 32768
    · rw [if_neg (fun h => key.1 h h6), if_pos ⟨hs, h3, by omega, by omega, h6⟩]
    · rw [if_pos (key.2 h6), if_neg (fun h => h6 h.2.2.2.2)]
  · have hg : ¬ good s k m c := fun h => h3 h.2.1
    rw [if_neg h3, if_neg hg]
    rfl

theorem each_eq (n : Nat) (s k m c : Int) (hs : 0 ≤ s ∧ s ≤ 7) : caulkref06_each.f (n + 9) s k m c = some (2 ^ s.toNat) := by
  unfold caulkref06_each.f
  rcases s_cases hs with rfl | rfl | rfl | rfl | rfl | rfl | rfl | rfl <;> simp [caulkref06_each.l0, wrap64]

theorem ref_eq (n : Nat) (s k m c : Int) : caulkref06_Check.f (n + 9) s k m c = some (if good s k m c then 0 else 2) := by
  unfold caulkref06_Check.f
  by_cases h1 : s < 0
  · rw [if_pos h1, if_neg (by unfold good; omega)]
  rw [if_neg h1]
  by_cases h2 : s > 7
  · rw [if_pos h2, if_neg (by unfold good; omega)]
  rw [if_neg h2, rs4_eq k m]
  have hs : (0 : Int) ≤ s ∧ s ≤ 7 := by omega
  simp only [Option.bind_some]
  by_cases h3 : 1 ≤ k ∧ 0 ≤ m ∧ k ≤ 255 ∧ m ≤ 255 - k
  · rw [if_pos h3, if_pos rfl]
    by_cases h4 : c < 4
    · rw [if_pos h4, if_neg (by unfold good; omega)]
    rw [if_neg h4]
    by_cases h5 : c > 4096
    · rw [if_pos h5, if_neg (by unfold good; omega)]
    rw [if_neg h5, each_eq n s k m c hs]
    simp only [Option.bind_some]
    have key : wrap64 (c * 2 ^ s.toNat) = c * 2 ^ s.toNat := by
      rcases s_cases hs with rfl | rfl | rfl | rfl | rfl | rfl | rfl | rfl <;> simp [wrap64] <;> omega
    rw [key]
    by_cases h6 : c * 2 ^ s.toNat > 32768
    · rw [if_pos h6, if_neg (fun h => by have := h.2.2.2.2; omega)]
    · rw [if_neg h6, if_pos ⟨hs, h3, by omega, by omega, by omega⟩]
  · rw [if_neg h3, if_neg (by decide), if_neg (fun h => h3 h.2.1)]

theorem right_eq (n : Nat) (s k m c : Int) (hk : -9223372036854775808 ≤ k ∧ k ≤ 9223372036854775807) : geom_right.f (n + 1) s k m c = some (decide (good s k m c)) := by
  unfold geom_right.f
  rw [geom_eq n s k m c hk]
  simp only [Option.bind_some]
  by_cases h : good s k m c <;> simp [h]

theorem first_good (n : Nat) (s k m c a : Int) (hk : -9223372036854775808 ≤ k ∧ k ≤ 9223372036854775807) (g : good s k m c) (ha : 0 ≤ a) (hc : a < c) : geom_First.f (n + 1) s k m c a = some (a * 2 ^ s.toNat, 0) := by
  unfold geom_First.f
  rw [right_eq n s k m c hk]
  simp only [Option.bind_some, g, decide_true, if_true]
  obtain ⟨hs, hk', h4, h5, h6⟩ := g
  rw [if_neg (by omega), if_neg (by omega), if_pos hs.1]
  have : shl .i64 a s = a * 2 ^ s.toNat := by
    rcases s_cases hs with rfl | rfl | rfl | rfl | rfl | rfl | rfl | rfl <;> simp [shl, IntKind.bits, IntKind.wrap_i64] <;> omega
  rw [this]
theorem first_range (n : Nat) (s k m c a : Int) (hk : -9223372036854775808 ≤ k ∧ k ≤ 9223372036854775807) (g : good s k m c) (ha : a < 0 ∨ c ≤ a) : geom_First.f (n + 1) s k m c a = some (0, 1) := by
  unfold geom_First.f
  rw [right_eq n s k m c hk]
  simp only [Option.bind_some, g, decide_true, if_true]
  by_cases h : a < 0
  · rw [if_pos h]
  · rw [if_neg h, if_pos (by omega)]
theorem first_bad (n : Nat) (s k m c a : Int) (hk : -9223372036854775808 ≤ k ∧ k ≤ 9223372036854775807) (g : ¬ good s k m c) : geom_First.f (n + 1) s k m c a = some (0, 2) := by
  unfold geom_First.f
  rw [right_eq n s k m c hk]
  simp [g]
theorem sectors_eq (n : Nat) (s k m c : Int) (hk : -9223372036854775808 ≤ k ∧ k ≤ 9223372036854775807) : geom_Sectors.f (n + 1) s k m c = some (if good s k m c then c * 2 ^ s.toNat else 0) := by
  unfold geom_Sectors.f
  rw [right_eq n s k m c hk]
  simp only [Option.bind_some]
  by_cases g : good s k m c
  · simp only [g, decide_true, if_true]
    obtain ⟨hs, hk', h4, h5, h6⟩ := g
    rw [if_pos hs.1]
    have : shl .i64 c s = c * 2 ^ s.toNat := by
      rcases s_cases hs with rfl | rfl | rfl | rfl | rfl | rfl | rfl | rfl <;> simp [shl, IntKind.bits, IntKind.wrap_i64] <;> omega
    rw [this]
  · simp [g]
theorem size_eq (n : Nat) (s k m c : Int) (hk : -9223372036854775808 ≤ k ∧ k ≤ 9223372036854775807) : geom_Size.f (n + 1) s k m c = some (if good s k m c then 512 * 2 ^ s.toNat else 0) := by
  unfold geom_Size.f
  rw [right_eq n s k m c hk]
  simp only [Option.bind_some]
  by_cases g : good s k m c
  · simp only [g, decide_true, if_true]
    obtain ⟨hs, hk', h4, h5, h6⟩ := g
    rcases s_cases hs with rfl | rfl | rfl | rfl | rfl | rfl | rfl | rfl <;> simp [shl, IntKind.bits, IntKind.wrap_i64, wrap64]
  · simp [g]
theorem cluster_good (n : Nat) (s k m c a : Int) (hk : -9223372036854775808 ≤ k ∧ k ≤ 9223372036854775807) (g : good s k m c) (ha : 0 ≤ a) (hc : a < c * 2 ^ s.toNat) : geom_Cluster.f (n + 1) s k m c a = some (a / 2 ^ s.toNat, 0) := by
  unfold geom_Cluster.f
  rw [right_eq n s k m c hk, sectors_eq n s k m c hk]
  simp only [Option.bind_some, g, decide_true, if_true]
  obtain ⟨hs, hk', h4, h5, h6⟩ := g
  rw [if_neg (by omega), if_neg (by omega), if_pos hs.1]
  have : shr .i64 a s = a / 2 ^ s.toNat := by
    rcases s_cases hs with rfl | rfl | rfl | rfl | rfl | rfl | rfl | rfl <;> simp [shr, IntKind.bits]
  rw [this]
theorem cluster_range (n : Nat) (s k m c a : Int) (hk : -9223372036854775808 ≤ k ∧ k ≤ 9223372036854775807) (g : good s k m c) (ha : a < 0 ∨ c * 2 ^ s.toNat ≤ a) : geom_Cluster.f (n + 1) s k m c a = some (0, 1) := by
  unfold geom_Cluster.f
  rw [right_eq n s k m c hk, sectors_eq n s k m c hk]
  simp only [Option.bind_some, g, decide_true, if_true]
  by_cases h : a < 0
  · rw [if_pos h]
  · rw [if_neg h, if_pos (by omega)]
theorem cluster_bad (n : Nat) (s k m c a : Int) (hk : -9223372036854775808 ≤ k ∧ k ≤ 9223372036854775807) (g : ¬ good s k m c) : geom_Cluster.f (n + 1) s k m c a = some (0, 2) := by
  unfold geom_Cluster.f
  rw [right_eq n s k m c hk]
  simp [g]
theorem blocks_good (n : Nat) (s k m c a : Int) (hk : -9223372036854775808 ≤ k ∧ k ≤ 9223372036854775807) (g : good s k m c) (ha : 0 ≤ a) (hc : a ≤ 1099511627776) : geom_Blocks.f (n + 1) s k m c a = some ((a + 512 * 2 ^ s.toNat - 1) / (512 * 2 ^ s.toNat), 0) := by
  unfold geom_Blocks.f
  rw [right_eq n s k m c hk]
  simp only [Option.bind_some, g, decide_true, if_true]
  obtain ⟨hs, hk', h4, h5, h6⟩ := g
  rw [if_neg (by omega), if_neg (by omega), if_pos (by unfold wrap64; omega)]
  rcases s_cases hs with rfl | rfl | rfl | rfl | rfl | rfl | rfl | rfl <;> simp [shl, shr, IntKind.bits, IntKind.wrap_i64, wrap64] <;> omega
theorem blocks_range (n : Nat) (s k m c a : Int) (hk : -9223372036854775808 ≤ k ∧ k ≤ 9223372036854775807) (g : good s k m c) (ha : a < 0 ∨ 1099511627776 < a) : geom_Blocks.f (n + 1) s k m c a = some (0, 1) := by
  unfold geom_Blocks.f
  rw [right_eq n s k m c hk]
  simp only [Option.bind_some, g, decide_true, if_true]
  by_cases h : a < 0
  · rw [if_pos h]
  · rw [if_neg h, if_pos (by omega)]
theorem blocks_bad (n : Nat) (s k m c a : Int) (hk : -9223372036854775808 ≤ k ∧ k ≤ 9223372036854775807) (g : ¬ good s k m c) : geom_Blocks.f (n + 1) s k m c a = some (0, 2) := by
  unfold geom_Blocks.f
  rw [right_eq n s k m c hk]
  simp [g]
theorem lives_eq (n : Nat) : caulklaw06_lives.f (n + 1) = some true := by
  have i : (-9223372036854775808 : Int) ≤ 2 ∧ (2 : Int) ≤ 9223372036854775807 := by decide
  have i0 : (-9223372036854775808 : Int) ≤ 0 ∧ (0 : Int) ≤ 9223372036854775807 := by decide
  have g : good 1 2 1 10 := by decide
  have b : ¬ good 0 0 0 0 := by decide
  unfold caulklaw06_lives.f geom_Fan.f geom_Entries.f
  rw [first_good n _ _ _ _ _ i g (by decide) (by decide), cluster_good n _ _ _ _ _ i g (by decide) (by decide), first_range n _ _ _ _ _ i g (by decide), blocks_good n _ _ _ _ _ i g (by decide) (by decide), blocks_bad n _ _ _ _ _ i0 b, geom_eq n _ _ _ _ i, size_eq n _ _ _ _ i, sectors_eq n _ _ _ _ i, geom_eq n _ _ _ _ i0]
  simp [g, b, wrap64]
theorem GeomBack : caulklaw06_GeomBack.Pure := by
  intro s k m c a1 a2 a3 w0 w1 w2 w3 w4 w5 w6
  have hk := bounds_i64 w1
  have h2 := bounds_i64 w5
  have h1 := bounds_i64 w4
  refine ⟨4, ?_⟩
  unfold caulklaw06_GeomBack.f
  rw [lives_eq 3, geom_eq 3 s k m c hk, size_eq 3 s k m c hk]
  simp only [Option.bind_some, if_true]
  by_cases g : good s k m c
  · simp only [g, if_true]
    have e0 : caulklaw06_GeomBack.j0 4 a1 a2 (512 * 2 ^ s.toNat) false s k m c = some true := by
      simp only [caulklaw06_GeomBack.j0, Bool.false_eq_true, if_false]
      by_cases ha : 0 ≤ a1 ∧ a1 < c
      · rw [first_good 2 s k m c a1 hk g ha.1 ha.2]
        simp only [Option.bind_some, if_true]
        have e512 : wrap64 (Int.tdiv (512 * 2 ^ s.toNat) 512) = 2 ^ s.toNat := by
          rcases s_cases g.1 with rfl | rfl | rfl | rfl | rfl | rfl | rfl | rfl <;> simp [wrap64]
        by_cases hn : a2 < 0
        · rw [if_pos hn]; simp [caulklaw06_GeomBack.j1]
        rw [if_neg hn, e512]
        by_cases hb : a2 ≥ 2 ^ s.toNat
        · simp [caulklaw06_GeomBack.j1, hb]
        · simp only [hb, decide_false, caulklaw06_GeomBack.j1, Bool.false_eq_true, if_false]
          have hsum : wrap64 (a1 * 2 ^ s.toNat + a2) = a1 * 2 ^ s.toNat + a2 ∧ 0 ≤ a1 * 2 ^ s.toNat + a2 ∧ a1 * 2 ^ s.toNat + a2 < c * 2 ^ s.toNat ∧ (a1 * 2 ^ s.toNat + a2) / 2 ^ s.toNat = a1 ∧ wrap64 (a1 * 2 ^ s.toNat + 2 ^ s.toNat) ≤ c * 2 ^ s.toNat := by
            have g5 := g.2.2.2.2
            have g4 := g.2.2.2.1
            rcases s_cases g.1 with rfl | rfl | rfl | rfl | rfl | rfl | rfl | rfl <;> simp [wrap64] at * <;> omega
          rw [hsum.1, cluster_good 1 s k m c _ hk g hsum.2.1 hsum.2.2.1, hsum.2.2.2.1]
          simp only [Option.bind_some, if_true]
          rw [sectors_eq 1 s k m c hk, if_pos g, e512]
          simp [hsum.2.2.2.2]
      · rw [first_range 2 s k m c a1 hk g (by omega)]
        simp [caulklaw06_GeomBack.j1]
    by_cases hr : 0 ≤ a3 ∧ a3 ≤ 1099511627776
    · rw [blocks_good 3 s k m c a3 hk g hr.1 hr.2]
      simp only [Option.bind_some, if_true]
      have key : ¬ wrap64 ((a3 + 512 * 2 ^ s.toNat - 1) / (512 * 2 ^ s.toNat) * (512 * 2 ^ s.toNat)) < a3 ∧ ((a3 + 512 * 2 ^ s.toNat - 1) / (512 * 2 ^ s.toNat) > 0 → ¬ wrap64 (wrap64 ((a3 + 512 * 2 ^ s.toNat - 1) / (512 * 2 ^ s.toNat) - 1) * (512 * 2 ^ s.toNat)) ≥ a3) := by
        rcases s_cases g.1 with rfl | rfl | rfl | rfl | rfl | rfl | rfl | rfl <;> simp [wrap64] <;> omega
      rw [if_neg key.1]
      by_cases hp : (a3 + 512 * 2 ^ s.toNat - 1) / (512 * 2 ^ s.toNat) > 0
      · rw [if_pos hp, decide_eq_false (key.2 hp)]; exact e0
      · rw [if_neg hp]; exact e0
    · rw [blocks_range 3 s k m c a3 hk g (by omega)]
      simp only [Option.bind_some, show ¬ ((1 : Int) = 0) from by decide, if_false]
      exact e0
  · simp only [g, if_false, show ¬ ((2 : Int) = 0) from by decide, if_true]
    rw [sectors_eq 3 s k m c hk, if_neg g]
    rfl
end Go.Proofs.Ytegfembmnnmnbab.Pure
