/- The contract of gf.Log over this seat's program: the first number whose power of the generator is the element. No condition. -/
import Derived.Test.YtgiljibkjccgfabGfMul
namespace Go.Proofs.Ytgiljibkjccgfab.G
open Go.RowKit Go.Shelf Go.Proofs.YtgiljibkjccgfabW.PrintWords Go.Proofs.YtgiljibkjccgfabW.PrintLast Go.Proofs.YtgiljibkjccgfabW.PrintMore
set_option linter.unusedVariables false
set_option linter.unusedSimpArgs false
attribute [local go_sem] Oper.semAt_some

/-- Powers of the generator. -/
def gpow : Nat → BitVec 8
  | 0 => 1#8
  | n + 1 => GfM.dbl (gpow n)
def gxs (k : Nat) : List (Nat × BitVec 8) := (List.range k).map fun n => (n, gpow n)
theorem gxs_succ (k : Nat) : gxs (k + 1) = gxs k ++ [(k, gpow k)] := by simp [gxs, List.range_succ]
theorem gxs_length (k : Nat) : (gxs k).length = k := by simp [gxs]
abbrev gencs (x : Nat × BitVec 8) : Array Value := #[.int .i64 (x.1 : Int), .int .u8 (x.2.toNat : Int)]

theorem double_same (x : BitVec 8) (w : World) : Calls Try.prog 40 #[.int .u8 (x.toNat : Int)] w fun e w' => e = .returned (.int .u8 ((GfM.dbl x).toNat : Int)) ∧ w = w' := by
  have H := gfi_double_eq x
  unfold gfi_double.f at H
  have h0 := el_range x
  obtain ⟨a0, ha⟩ : ∃ a0 : Int, a0 = (x.toNat : Int) := ⟨_, rfl⟩
  rw [← ha] at H h0 ⊢
  clear ha
  rw [← Option.some.inj H]
  clear H
  go_enter Try.func40, Try.ntmps40
  go_wp2
  go_ret
  exact ⟨by first | rfl | (simp; done) | (simp [*]; done), rfl⟩
theorem double_wide (n : Nat) (x : BitVec 8) (w : World) : CallsIn Fence.wide n Try.prog 40 #[.int .u8 (x.toNat : Int)] w fun e w' => e = .returned (.int .u8 ((GfM.dbl x).toNat : Int)) ∧ w = w' :=
  callsIn_wide.2 (double_same x w)

set_option maxRecDepth 100000 in
set_option maxHeartbeats 2000000 in
theorem powers_stops (n : Nat) (hn : 1 ≤ n) (w : World) :
    SeqStopsK Fence.wide n Try.prog 47 #[] gencs (fun _ _ => True) (fun xs => xs = gxs 255) (fun pre => ∃ k, k ≤ 255 ∧ pre = gxs k) 255 w := fun l J Jx W hW hJ hJx hY h0 => by
  refine callsIn_of_wp Try.func47 rfl trivial ?_ rfl
  simp only [Try.ntmps47, List.size_toArray, List.length_cons, List.length_nil, Nat.reduceAdd, Nat.reduceSub, Array.replicate_succ, Array.replicate_zero, List.push_toArray, List.append_toArray, List.nil_append, List.cons_append]
  gi_wp2
  gi_loopw [2, 4] (fun x i wr => ∃ k : Nat, k ≤ 255 ∧ i = .int .i64 k ∧ x = .int .u8 ((gpow k).toNat : Int) ∧ J (gxs k) wr)
    (fun _ i _ => 255 - (intOf i).toNat)
  case atStart => exact ⟨0, by decide, rfl, rfl, h0⟩
  case round =>
    obtain ⟨k, hk, rfl, rfl, hJs⟩ := hrel
    by_cases hlt : k < 255
    · obtain ⟨fn, tmps, assign, body, hy, hR⟩ := hY _ (k, gpow k) wr hJs (by rw [gxs_length]; exact hlt)
      dsimp only [gencs] at hy
      gi_wp2
      refine hR.mono ?_
      rintro e W3 (⟨rfl, hJ3, hk3⟩ | ⟨rfl, hJx3⟩)
      · gi_wp2_with (refine ⟨trivial, ?_⟩; gi_at_call 40; refine (double_wide _ _ _).mono ?_; rintro e w' ⟨rfl, rfl⟩)
        go_roundw
        case rel => exact ⟨k + 1, by omega, by simp, rfl, by rw [gxs_succ]; exact hJ3⟩
        case measure => simp [intOf]; omega
      · gi_wp2
        refine bodyPost_ret (results_none rfl _ _ _) rfl ?_
        exact ⟨⟨_, rfl⟩, .inr ⟨_, ⟨k + 1, by omega, (gxs_succ _).symm⟩, hJx3⟩⟩
    · obtain rfl : k = 255 := by omega
      gi_wp2
      go_end0
      exact ⟨⟨_, rfl⟩, .inl ⟨_, rfl, hJs⟩⟩

/-- Which power an element is: the number and an errno. -/
def logI (a : Int) : Int × Int :=
  match (gxs 255).find? (fun p => p.2 == el a) with
  | some p => ((p.1 : Int), 0)
  | none => (0, 13)
theorem find_hit {a : BitVec 8} {ini : List (Nat × BitVec 8)} {last : Nat × BitVec 8} {rest : List (Nat × BitVec 8)} (h : ∀ p ∈ ini, p.2 ≠ a) (hl : last.2 = a) : (ini ++ last :: rest).find? (fun p => p.2 == a) = some last := by
  rw [List.find?_append, List.find?_eq_none.2 (fun p hp => by simpa using h p hp)]
  simp [hl]
theorem gxs_split (k : Nat) (hk : k < 255) : ∃ rest, gxs 255 = gxs k ++ (k, gpow k) :: rest := by
  refine ⟨(gxs 255).drop (k + 1), ?_⟩
  have e : gxs k ++ [(k, gpow k)] = (gxs 255).take (k + 1) := by
    rw [← gxs_succ]
    unfold gxs
    rw [← List.map_take, List.take_range, Nat.min_eq_left (by omega)]
  rw [← List.singleton_append, ← List.append_assoc, e, List.take_append_drop]

theorem box_own {W W' : World} {row : Option Nat} {B : Nat} {t : TypeId} {v : Value} (h : Boxed W B t v) (hg : W.grownBy W' row) (hr : ∀ r, row = some r → ∃ o : Obj, W.heap[r]? = some o ∧ o.isCells = false) : Boxed W' B t v :=
  h.kept hg (fun e' => by obtain ⟨o, ho, hc⟩ := hr B e'.symm; rw [show W.heap[B]? = _ from h] at ho; cases ho; cases hc)

set_option maxRecDepth 100000 in
set_option maxHeartbeats 2000000 in
theorem log_walk (a : BitVec 8) (w : World) :
    CallsIn Fence.wide 3 Try.prog 14 #[.int .u8 (a.toNat : Int)] w fun e W' => e = .returned (.tuple #[.int .i64 (logI (a.toNat : Int)).1, .int .i64 (logI (a.toNat : Int)).2]) ∧ Below w.heap.size w W' := by
  have pw : ∀ w : World, CallsIn Fence.wide 2 Try.prog 39 #[] w fun e w' => e = .returned (.func (.func 47) #[] #[]) ∧ w' = w := by
    intro w
    refine callsIn_of_wp Try.func39 rfl trivial ?_ rfl
    simp only [Try.ntmps39, List.size_toArray, List.length_cons, List.length_nil, Nat.reduceAdd, Nat.reduceSub, Array.replicate_succ, Array.replicate_zero, List.push_toArray, List.append_toArray, List.nil_append, List.cons_append]
    gi_wp2
    go_ret
    exact ⟨rfl, rfl⟩
  have hro : Fence.wide.round = none := rfl
  have h1 : 1 ≤ 3 := by decide
  refine callsIn_of_wp_marks Try.func14 rfl trivial ?_ hro
  simp only [Try.ntmps14, List.size_toArray, List.length_cons, List.length_nil, Nat.reduceAdd, Nat.reduceSub, Array.replicate_succ, Array.replicate_zero, List.push_toArray, List.append_toArray, List.nil_append, List.cons_append]
  gi_wp2_with (refine ⟨trivial, ?_⟩; gi_at_call 39; refine (pw _).mono ?_; rintro e w' ⟨rfl, rfl⟩)
  have bA := Boxed.new w 5 (.int .u8 (a.toNat : Int))
  have bN := Boxed.new (w.alloc (.cells #[.int .u8 (a.toNat : Int)] 5)) 3 (.int .i64 0)
  have bE := Boxed.new ((w.alloc (.cells #[.int .u8 (a.toNat : Int)] 5)).alloc (.cells #[.int .i64 0] 3)) 22 (.int .i64 0)
  rw [World.size_alloc] at bN
  rw [World.size_alloc, World.size_alloc] at bE
  have hB0 : Below w.heap.size w (((w.alloc (.cells #[.int .u8 (a.toNat : Int)] 5)).alloc (.cells #[.int .i64 0] 3)).alloc (.cells #[.int .i64 0] 22)) := (((Below.refl _ w).alloc (Nat.le_refl _) _).alloc (by simp) _).alloc (by simp; omega) _
  refine wpIn_rangeFunc_ownG hro h1 (gf := 47) (lb := #[]) rfl trivial (enters_of Try.func47 (by kernel_rfl) rfl)
    (powers_stops (3 - 1) (by decide) _) (fun _ _ => trivial) (fun _ _ _ _ _ _ _ _ => trivial) (Below.refl _ _) (fun _ => rfl)
    (fun pre W => ((∀ p ∈ pre, p.2 ≠ a) ∧ Boxed W w.heap.size 5 (.int .u8 (a.toNat : Int)) ∧ Boxed W (w.heap.size + 1) 3 (.int .i64 0) ∧ Boxed W (w.heap.size + 1 + 1) 22 (.int .i64 0)) ∧ Below w.heap.size w W)
    (fun c pre W => (c = .ret ∧ ∃ ini last, pre = ini ++ [last] ∧ (∀ p ∈ ini, p.2 ≠ a) ∧ last.2 = a ∧ W.cell? ⟨w.heap.size + 1, 0, none⟩ = some (.int .i64 (last.1 : Int)) ∧ W.cell? ⟨w.heap.size + 1 + 1, 0, none⟩ = some (.int .i64 0)) ∧ Below w.heap.size w W)
    (OwnFrom.and (Own.from (fun s A B row hs hg hr => ⟨hs.1, box_own hs.2.1 hg hr, box_own hs.2.2.1 hg hr, box_own hs.2.2.2 hg hr⟩) _) (ownFrom_below (Nat.le_refl _) (by simp; omega)))
    (fun c => OwnFrom.and (Own.from (fun s A B row hs hg hr => by obtain ⟨hc, ini, last, e1, e2, e3, e4, e5⟩ := hs; exact ⟨hc, ini, last, e1, e2, e3, cell_kept e4 hg hr, cell_kept e5 hg hr⟩) _) (ownFrom_below (Nat.le_refl _) (by simp; omega)))
    ⟨⟨by simp, (bA.alloc _).alloc _, bN.alloc _, bE⟩, hB0⟩
    (fun x => { tmps := #[.int .u8 (a.toNat : Int), .pointer (some ⟨w.heap.size, 0, none⟩), .pointer (some ⟨w.heap.size + 1, 0, none⟩), .pointer (some ⟨w.heap.size + 1 + 1, 0, none⟩), .int .i64 (x.1 : Int), .int .u8 (x.2.toNat : Int), .func (.func 47) #[] #[], .int .i64 (x.1 : Int), .int .u8 (x.2.toNat : Int), undef, undef, undef, undef], defers := [] }) ?assign ?body ?done ?stop
  case assign =>
    intro l x W K hK
    gi_wp2
    exact hK
  case body =>
    rintro l pre x W ⟨⟨hp, bA, bN, bE⟩, hB⟩ _
    have c1 := bA.cell
    have c2 := bN.cell
    have f2 := bN.frozen
    have c3 := bE.cell
    have f3 := bE.frozen
    gi_wp2
    · have hx : ((x.2.toNat : Int) == (a.toNat : Int)) = true := by assumption
      have hx' : x.2 = a := by apply BitVec.eq_of_toNat_eq; have := beq_iff_eq.1 hx; omega
      refine ⟨((KeepsOthers.setCell _ _ _).trans (KeepsOthers.setCell _ _ _)).from _, ⟨rfl, pre, x, rfl, hp, hx', ?_, ?_⟩, (hB.setCell (p := ⟨w.heap.size + 1, 0, none⟩) (by simp) _).setCell (p := ⟨w.heap.size + 1 + 1, 0, none⟩) (by simp; omega) _⟩
      · exact ((bN.set _).other (by omega) _).cell
      · exact ((bE.other (by omega) _).set _).cell
    · have hx : ((x.2.toNat : Int) == (a.toNat : Int)) = false := by assumption
      have hx' : x.2 ≠ a := by intro e; rw [e] at hx; simp at hx
      exact ⟨KeepsFrom.refl _ _, trivial, ⟨fun p hp' => (List.mem_append.1 hp').elim (hp p) (fun e => by simp at e; subst e; exact hx'), bA, bN, bE⟩, hB⟩
  case done =>
    rintro D ys W hD rfl ⟨⟨hne, bA, bN, bE⟩, hB⟩ hK
    have c2 := bN.cell
    have f2 := bN.frozen
    have c3 := bE.cell
    have f3 := bE.frozen
    gi_wp2
    have hB2 : Below w.heap.size w ((W.setCell ⟨w.heap.size + 1, 0, none⟩ (.int .i64 0)).setCell ⟨w.heap.size + 1 + 1, 0, none⟩ (.int .i64 13)) := (hB.setCell (p := ⟨w.heap.size + 1, 0, none⟩) (by simp) _).setCell (p := ⟨w.heap.size + 1 + 1, 0, none⟩) (by simp; omega) _
    have hK' := ((KeepsOthers.setCell W ⟨w.heap.size + 1, 0, none⟩ (.int .i64 0)).trans (KeepsOthers.setCell _ ⟨w.heap.size + 1 + 1, 0, none⟩ (.int .i64 13))).same D _ hK rfl
    have d2 := ((bN.set (.int .i64 0)).other (B' := w.heap.size + 1 + 1) (by omega) (.int .i64 13)).cell
    have d3 := ((bE.other (B' := w.heap.size + 1) (by omega) (.int .i64 0)).set (.int .i64 13)).cell
    refine ⟨by simp, .inl ⟨_, _, rfl, run_takeDeferred hK', ?_⟩⟩
    have hc2 := cell_kept d2 (grownBy_putObj' _ D (.deferred none)) (fun r e => by cases e; exact ⟨_, hK', rfl⟩)
    have hc3 := cell_kept d3 (grownBy_putObj' _ D (.deferred none)) (fun r e => by cases e; exact ⟨_, hK', rfl⟩)
    have hlog : logI (a.toNat : Int) = (0, 13) := by
      unfold logI
      rw [el_nat, List.find?_eq_none.2 (fun p hp => by simpa using hne p hp)]
    refine ⟨.tuple #[.int .i64 0, .int .i64 13], ?_, by rw [hlog], hB2.trans (belowK_b (w := w) (Nat.le_refl _) _ D _ _ (by simp at hD; omega) hK' rfl rfl)⟩
    simp [results, Try.f14, go_sem, hc2, hc3]
  case stop =>
    rintro D c pre W hD ⟨k, hk, rfl⟩ ⟨⟨rfl, ini, last, e1, e2, e3, c2, c3⟩, hB⟩ hK
    gi_wp2
    refine ⟨by simp, .inl ⟨_, _, rfl, run_takeDeferred hK, ?_⟩⟩
    have hc2 := cell_kept c2 (grownBy_putObj' _ D (.deferred none)) (fun r e => by cases e; exact ⟨_, hK, rfl⟩)
    have hc3 := cell_kept c3 (grownBy_putObj' _ D (.deferred none)) (fun r e => by cases e; exact ⟨_, hK, rfl⟩)
    obtain ⟨k', rfl⟩ : ∃ k', k = k' + 1 := by
      cases k with
      | zero => simp [gxs] at e1
      | succ k' => exact ⟨k', rfl⟩
    rw [gxs_succ] at e1
    obtain ⟨rfl, e5⟩ := List.append_inj' e1 rfl
    obtain rfl : (k', gpow k') = last := by simpa using e5
    have hlog : logI (a.toNat : Int) = ((k' : Int), 0) := by
      obtain ⟨rest, hr⟩ := gxs_split k' (by omega)
      unfold logI
      rw [hr, el_nat, find_hit e2 e3]
    refine ⟨.tuple #[.int .i64 (k' : Int), .int .i64 0], ?_, by rw [hlog], hB.trans (belowK_b (w := w) (Nat.le_refl _) W D _ _ (by simp at hD; omega) hK rfl rfl)⟩
    simp [results, Try.f14, go_sem, hc2, hc3]

def gf_Log.f (a0 : Int) : Option (Int × Int) := if isB a0 then some (logI a0) else none
theorem gf_Log.calls (a0 : Int) (r1 r2 : Int) (w : World) (h : gf_Log.f a0 = some (r1, r2)) :
    Calls Try.prog 14 #[.int .u8 a0] w fun e w' => e = .returned (.tuple #[.int .i64 r1, .int .i64 r2]) ∧ Below w.heap.size w w' := by
  unfold gf_Log.f at h
  by_cases hc : isB a0
  · rw [if_pos hc] at h
    have h := Option.some.inj h
    have := callsIn_wide.1 (log_walk (el a0) w)
    rwa [el_back hc.1 hc.2, h] at this
  · rw [if_neg hc] at h; cases h
end Go.Proofs.Ytgiljibkjccgfab.G
