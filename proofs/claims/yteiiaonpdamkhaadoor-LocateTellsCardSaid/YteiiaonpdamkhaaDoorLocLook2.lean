/- locate's look where pieces may not be, and wrong. Conditions: each lemma's own. -/
import Derived.Test.YteiiaonpdamkhaaDoorLocLook
namespace Go.Proofs.YteiiaonpdamkhaaDoor.G
open Go.RowKit Go.Proofs.YteiiaonpdamkhaaDoorW.PrintWords Go.Proofs.YteiiaonpdamkhaaDoorW.PrintLast Go.Proofs.YteiiaonpdamkhaaDoorW.PrintMore
set_option linter.unusedVariables false
set_option linter.unusedSimpArgs false
open Classical in
/-- Why pieces may not be looked at (0: they may). -/
noncomputable def lookWhy (k m : Int) (l : List ByteArray) : Int := if k < 1 ∨ m < 0 ∨ 255 < k + m then 1 else if (l.length : Int) ≠ k + m ∨ Uneven l then 2 else 0
theorem check_why (k m : Int) : rs_Check.f k m = some (if k < 1 ∨ m < 0 ∨ 255 < k + m then 1 else 0) := by
  unfold rs_Check.f
  by_cases c1 : k < 1
  · rw [if_pos c1, if_pos (.inl c1)]
  · rw [if_neg c1]
    by_cases c2 : m < 0
    · rw [if_pos c2, if_pos (.inr (.inl c2))]
    · rw [if_neg c2]
      by_cases c3 : k > 255
      · rw [if_pos c3, if_pos (by omega)]
      · have e2 : wrap64 (255 - k) = 255 - k := by unfold wrap64; omega
        rw [if_neg c3, e2]
        by_cases c4 : m > 255 - k
        · rw [if_pos c4, if_pos (by omega)]
        · rw [if_neg c4, if_neg (by omega)]
set_option maxHeartbeats 4000000 in
set_option maxRecDepth 100000 in
theorem look_range (k m : Int) (A : Option Addr) (c : Nat) (l : List ByteArray) (w : World) (hck : rs_Check.f k m = some 1) :
    Calls Tryd.prog 22 #[.int .i64 k, .int .i64 m, .slice A l.length c] w fun e w' => e = .returned (.tuple #[.pointer none, .int .i64 1]) ∧ Below w.heap.size w w' := by
  have CK := Aside0.mk hck
  have HB1 := Aside0.mk (below_alloc (Below.refl w.heap.size w) (.cells #[.slice A l.length c] 22))
  clear hck
  go_enter Tryd.func22, Tryd.ntmps22
  go_wp2_with (go_at_call 30; (with_reducible refine (rs_Check.calls _ _ _ _ CK.out).mono ?_); rintro e w2 ⟨rfl, ⟨nd, rfl⟩⟩)
  go_ret2
  exact ⟨rfl, pw_below_drewN HB1.out nd⟩
set_option maxHeartbeats 4000000 in
set_option maxRecDepth 100000 in
theorem look_many (k m : Int) (A : Option Addr) (c : Nat) (l : List ByteArray) (w : World) (hck : rs_Check.f k m = some 0) (h1 : 1 ≤ k) (h2 : 0 ≤ m) (h3 : k + m ≤ 255) (hl : (l.length : Int) ≠ k + m) :
    Calls Tryd.prog 22 #[.int .i64 k, .int .i64 m, .slice A l.length c] w fun e w' => e = .returned (.tuple #[.pointer none, .int .i64 2]) ∧ Below w.heap.size w w' := by
  have CK := Aside0.mk hck
  have HB1 := Aside0.mk (below_alloc (Below.refl w.heap.size w) (.cells #[.slice A l.length c] 22))
  have d1 : ((l.length : Int) != k + m) = true := bne_iff_ne.mpr hl
  have hbx : (w.alloc (.cells #[.slice A l.length c] 22)).cell? ⟨w.heap.size, 0, none⟩ = some (.slice A l.length c) := by
    have hn : (w.alloc (.cells #[.slice A l.length c] 22)).heap[w.heap.size]? = some (.cells #[.slice A l.length c] 22 (0, 0)) := blk_new w _
    unfold World.cell?; dsimp only; rw [hn]; rfl
  clear hck hl
  go_enter Tryd.func22, Tryd.ntmps22
  go_wp2_with (first
    | (go_at_call 30; (with_reducible refine (rs_Check.calls _ _ _ _ CK.out).mono ?_); rintro e w2 ⟨rfl, ⟨nd, rfl⟩⟩))
  go_ret2
  exact ⟨rfl, pw_below_drewN HB1.out _⟩
open Classical in
set_option maxHeartbeats 4000000 in
set_option maxRecDepth 100000 in
theorem look_uneven (k m : Int) (A : Option Addr) (c : Nat) (l : List ByteArray) (w : World) (hr : Kd.C Kd.string w A l.length l) (hc : l.length ≤ c) (hck : rs_Check.f k m = some 0) (h1 : 1 ≤ k) (h2 : 0 ≤ m) (h3 : k + m ≤ 255) (hl : (l.length : Int) = k + m) (hu : Uneven l) :
    Calls Tryd.prog 22 #[.int .i64 k, .int .i64 m, .slice A l.length c] w fun e w' => e = .returned (.tuple #[.pointer none, .int .i64 2]) ∧ Below w.heap.size w w' := by
  have HC := Aside0.mk hr
  have HCC := Aside0.mk hc
  have CK := Aside0.mk hck
  have HL := Aside0.mk (show l.length ≤ 1099511627776 by omega)
  have HB1 := Aside0.mk (below_alloc (Below.refl w.heap.size w) (.cells #[.slice A l.length c] 22))
  have d1 : ((l.length : Int) != k + m) = false := by rw [hl]; simp
  have d2 : decide (Uneven l) = true := decide_eq_true hu
  have hbx : (w.alloc (.cells #[.slice A l.length c] 22)).cell? ⟨w.heap.size, 0, none⟩ = some (.slice A l.length c) := by
    have hn : (w.alloc (.cells #[.slice A l.length c] 22)).heap[w.heap.size]? = some (.cells #[.slice A l.length c] 22 (0, 0)) := blk_new w _
    unfold World.cell?; dsimp only; rw [hn]; rfl
  have HBX := Aside0.mk hbx
  clear hck hl hu hr hc
  go_enter Tryd.func22, Tryd.ntmps22
  go_wp2_with (first
    | (go_at_call 30; (with_reducible refine (rs_Check.calls _ _ _ _ CK.out).mono ?_); rintro e w2 ⟨rfl, ⟨nd, rfl⟩⟩)
    | (go_at_call 38; (refine (contains_calls A c l w.heap.size _ ?side1 HCC.out ?side2 HL.out).mono ?_); (case side1 => exact Kd.C_below HC.out (pw_below_drewN HB1.out _)); (case side2 => exact HBX.out); rintro e w3 ⟨rfl, hb⟩; have HB3 := Aside0.mk ((pw_below_drewN HB1.out nd).trans (hb.mono (by simp))); clear hb))
  go_ret2
  exact ⟨rfl, HB3.out⟩
/-- A text of noughts, as the program says. -/
def nought (s : ByteArray) : Bool := (locate_blank.f s).getD false
theorem nought_eq (s : ByteArray) (h : s.size ≤ 9223372036854775807) : locate_blank.f s = some (nought s) := by
  unfold nought
  have : ∃ b, locate_blank.f s = some b := by
    unfold locate_blank.f strings_Trim.f
    rw [if_pos ⟨rfl, h⟩]
    exact ⟨_, rfl⟩
  obtain ⟨b, hb⟩ := this
  rw [hb]; rfl
def wrongL (O : List ByteArray) (n : Nat) : List Int := ((List.range n).filter fun i => !nought (txt O i)).map fun (i : Nat) => (i : Int)
theorem wrongL_succ (O : List ByteArray) (n : Nat) : wrongL O (n + 1) = if nought (txt O n) = true then wrongL O n else wrongL O n ++ [(n : Int)] := by
  unfold wrongL
  rw [List.range_succ, List.filter_append, List.map_append]
  by_cases h : nought (txt O n) = true
  · rw [if_pos h, List.filter_cons_of_neg (p := fun i => !nought (txt O i)) (by simp [h])]; simp
  · rw [if_neg h, List.filter_cons_of_pos (p := fun i => !nought (txt O i)) (by simp [h])]; rfl
theorem wrongL_len (O : List ByteArray) (n : Nat) : (wrongL O n).length ≤ n := by
  unfold wrongL
  rw [List.length_map]
  have := List.length_filter_le (fun i => !nought (txt O i)) (List.range n)
  rwa [List.length_range] at this
set_option maxHeartbeats 4000000 in
set_option maxRecDepth 100000 in
theorem wrong_calls (g : Nat) (k m : Int) (P O : List ByteArray) (w : World) (hC : Clue w g k m P O) (hn : O.length ≤ 1000) (hs : ∀ i : Nat, i < O.length → (txt O i).size ≤ 9223372036854775807) :
    Calls Tryd.prog 23 #[.pointer (some ⟨g, 0, none⟩)] w fun e w' => ∃ v0_ : Value, e = .returned v0_ ∧ Kd.R (Kd.int .i64) 3 w' w.heap.size (fun _ => True) v0_ (wrongL O O.length) ∧ Below w.heap.size w w' := by
  obtain ⟨A2, c2, A3, c3, hb, hl2, hl3, hP, hO⟩ := hC
  have h3 : w.cell? ⟨g, 3, none⟩ = some (.slice A3 O.length c3) := by rw [blk_cell hb]; rfl
  have HO := Aside0.mk hO
  have HS := Aside0.mk hs
  have HN := Aside0.mk hn
  clear hb hP hO hs hl2 hl3
  go_enter Tryd.func23, Tryd.ntmps23
  go_wp2
  clear hn h3
  go_loopg [11, 3] O.length (fun kq v11 v3 wr => ∃ (q : Nat), Aside0 (q + kq = O.length) ∧ v11 = .int .i64 q ∧ Aside0 (Below w.heap.size w wr) ∧ Aside0 (Kd.R (Kd.int .i64) 3 wr w.heap.size (fun _ => True) v3 (wrongL O q)))
  case atStart => exact ⟨0, ⟨by omega⟩, rfl, ⟨Below.refl _ _⟩, ⟨Kd.R_nil _ _ _ _ _⟩⟩
  case round =>
    obtain ⟨q, HQ, rfl, HB, HR⟩ := hrel
    cases gk with
    | succ k1 =>
      have hlt : q < O.length := by have := HQ.out; omega
      have HLT := Aside0.mk hlt
      have c1 : decide ((q : Int) < (O.length : Int)) = true := decide_eq_true (by omega)
      have e3 : (q : Int) < (O.length : Int) := by omega
      obtain ⟨ao, rfl, hx⟩ := Kd.at_string HO.out (q : Int) (by omega) e3
      rw [Int.toNat_natCast, rdOf_txt] at hx
      replace hx := (HB.out.cell (World.block_lt_of_cell? w _ hx)).trans hx
      obtain ⟨sp, hsp⟩ : ∃ s, s = txt O q := ⟨_, rfl⟩
      have hnb := nought_eq (txt O q) (HS.out q hlt)
      have hsu := wrongL_succ O q
      rw [← hsp] at hx hnb hsu
      have HNB := Aside0.mk hnb
      obtain ⟨Av, cv, ev⟩ := Kd.R_slice HR.out
      subst ev
      by_cases hq : nought sp = true
      · rw [if_pos hq] at hsu
        have HSU := Aside0.mk hsu
        rw [hq] at hnb
        have HNB := Aside0.mk hnb
        clear hnb hsu hq hsp hlt
        go_wp2_with (go_at_call 40; (with_reducible refine (locate_blank.calls sp true _ HNB.out).mono ?_); rintro e w2 ⟨rfl, ⟨nd, rfl⟩⟩)
        go_roundg k1
        case measure => omega
        case rel => exact ⟨q + 1, ⟨by have := HQ.out; omega⟩, by first | rfl | (rw [wrap_succ q (by have := HLT.out; have := HN.out; omega)]; rfl), ⟨pw_below_drewN HB.out _⟩, ⟨by rw [HSU.out]; exact Kd.R_drewN HR.out _⟩⟩
      · rw [if_neg hq] at hsu
        have HSU := Aside0.mk hsu
        have hqf : nought sp = false := by simpa using hq
        rw [hqf] at hnb
        have HNB := Aside0.mk hnb
        clear hnb hsu hq hqf hsp hlt
        have lit : ∀ W : World, Kd.C (Kd.int .i64) (W.alloc (.cells #[.int .i64 q] 3)) (some ⟨W.heap.size, 0, none⟩) 1 [(q : Int)] := fun W => by
          have h := World.ownsRow_lit (base := 0) (e := 3) (size := 1) W #[.int .i64 q] 1 (Nat.zero_le _) (by simp [maxLen]) (by simp)
          have h2 : Kd.R (Kd.int .i64) 3 (W.alloc (.cells #[.int .i64 q] 3)) 0 (fun _ => True) (.slice (some ⟨W.heap.size, 0, none⟩) 1 1) [(q : Int)] := Kd.R_of_own (by simpa [encs] using h) (fun _ _ => trivial)
          exact (Kd.R_reads' h2).2.2
        have LIT := Aside0.mk lit
        clear lit
        go_wp2_with (first
          | (go_at_call 40; (with_reducible refine (locate_blank.calls sp false _ HNB.out).mono ?_); rintro e w2 ⟨rfl, ⟨nd, rfl⟩⟩)
          | ((with_reducible refine gate_builtin (b := .append) (xs := #[.tmp 19, .tmp 21]) rfl ?_); (try (refine gate_guard (by rfl) ?_; dsimp only)); at_builtin; refine Kd.R_append_rows (Kd.int .i64) (w0 := w) w.heap.size rfl (.tmp 19) (.tmp 21) 25 3 (.int .i64 0) 8 rfl Tryd.underlying25 info3 rfl (by decide) (by omega) (.slice Av (wrongL O q).length cv) (wrongL O q) [(q : Int)] _ _ _ (fun _ => True) (fun _ => False) rfl rfl ?aO ?aR (fun _ _ h => h) (fun _ h => h.elim) (fun _ _ => trivial) ?aB ?aS ?aL ?_; (case aO => exact Kd.R_alloc (Kd.R_drewN HR.out _) _); (case aR => exact LIT.out _); (case aB => exact below_alloc (pw_below_drewN HB.out _) _); (case aS => have := HB.out.size; simp; omega); (case aL => have := wrongL_len O q; have := HN.out; have := HLT.out; omega); intro v1 w10 ho10 hb10 _ _; have HO10 := Aside0.mk ho10; have HB10 := Aside0.mk hb10; clear ho10 hb10))
        go_roundg k1
        case measure => omega
        case rel => exact ⟨q + 1, ⟨by have := HQ.out; omega⟩, by first | rfl | (rw [wrap_succ q (by have := HLT.out; have := HN.out; omega)]; rfl), HB10, ⟨by rw [HSU.out]; exact HO10.out⟩⟩
    | zero =>
      have hqq : q = O.length := by have := HQ.out; omega
      subst hqq
      have c1 : decide ((O.length : Int) < (O.length : Int)) = false := decide_eq_false (by omega)
      go_wp2
      go_ret
      exact ⟨_, rfl, HR.out, HB.out⟩
end Go.Proofs.YteiiaonpdamkhaaDoor.G
