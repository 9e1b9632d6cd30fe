/- The walk of dedupe.First over this seat's program. Conditions: each text has a sum below 2^32, and there are at most 2^40 of them. -/
import Derived.Test.YtgiaopmakkdojaaDoorDedSeen
namespace Go.Proofs.YtgiaopmakkdojaaDoor.G
open Go.RowKit Go.Proofs.YtgiaopmakkdojaaDoorW.PrintWords Go.Proofs.YtgiaopmakkdojaaDoorW.PrintLast Go.Proofs.YtgiaopmakkdojaaDoorW.PrintMore
open DD Go.ChangeMaps
set_option linter.unusedVariables false
set_option linter.unusedSimpArgs false
theorem key_cells (W : World) (g : Nat) (hg : g = W.heap.size) (cs z : Int) : (W.alloc (.cells #[.int .u32 0, .int .i64 0] 35)).cell? ⟨g, 0, none⟩ = some (.int .u32 0) ∧ ((W.alloc (.cells #[.int .u32 0, .int .i64 0] 35)).setCell ⟨g, 0, none⟩ (.int .u32 cs)).cell? ⟨g, 1, none⟩ = some (.int .i64 0) ∧ (W.alloc (.cells #[.int .u32 0, .int .i64 0] 35)).frozen? ⟨g, 0, none⟩ = false ∧ ((W.alloc (.cells #[.int .u32 0, .int .i64 0] 35)).setCell ⟨g, 0, none⟩ (.int .u32 cs)).frozen? ⟨g, 1, none⟩ = false := by
  subst hg
  have hn : (W.alloc (.cells #[.int .u32 0, .int .i64 0] 35)).heap[W.heap.size]? = some (.cells #[.int .u32 0, .int .i64 0] 35 (0, 0)) := blk_new W _
  refine ⟨by unfold World.cell?; dsimp only; rw [hn]; rfl, ?_, by unfold World.frozen?; dsimp only; rw [hn]; rfl, ?_⟩
  · rw [World.cell?_setCell_other _ _ _ _ (by intro h; injection h with _ h; cases h)]
    unfold World.cell?; dsimp only; rw [hn]; rfl
  · rw [World.frozen?_setCell]
    unfold World.frozen?; dsimp only; rw [hn]; rfl
theorem toList_inj {a b : ByteArray} (h : a.toList = b.toList) : a = b := by
  rw [ByteArray.toList_eq, ByteArray.toList_eq] at h
  cases a; cases b
  simp only [ByteArray.mk.injEq]
  exact Array.ext' h
theorem wrap_succ (n : Nat) (h : n ≤ 1099511627776) : wrap64 ((n : Int) + 1) = (n : Int) + 1 := by unfold wrap64; omega
def sumOk (s : ByteArray) : Prop := crc_Sum.f s = some (crcS s) ∧ kwf (crcS s) (s.size : Int)
set_option maxHeartbeats 4000000 in
set_option maxRecDepth 100000 in
theorem first_walk (A0 : Option Addr) (c0 : Nat) (l0 : List ByteArray) (w : World) (hG : GT w) (hr0 : Kd.C Kd.string w A0 l0.length l0) (hc0 : l0.length ≤ c0) (hl : l0.length ≤ 1099511627776) (hs : ∀ i : Nat, i < l0.length → sumOk (txt l0 i)) :
    Calls Tryd.prog 11 #[.slice A0 l0.length c0] w fun e w' => ∃ v0_ : Value, e = .returned v0_ ∧ Kd.R (Kd.int .i64) 3 w' w.heap.size (fun _ => True) v0_ (firstsL l0) ∧ Below w.heap.size w w' := by
  have mk := print_make_of (P := Tryd.prog) 29 3 (.int .i64 0) 8 Tryd.underlying29 (by kernel_rfl) rfl (by decide) l0.length (by omega)
  have mm := fun W : World => run_makeMap (P := Tryd.prog) 33 W
  have HL := Aside0.mk hl
  have HS := Aside0.mk hs
  clear hs
  go_enter Tryd.func11, Tryd.ntmps11
  go_wp2
  go_step3
  go_wp2
  go_step3
  go_wp2
  have HR0 := Aside0.mk hr0
  have HG := Aside0.mk hG
  clear mm mk hr0 hG
  have hB1 : Below w.heap.size w ((w.alloc (Obj.map #[] 0)).alloc (Obj.cells (madeCells #[Value.int IntKind.i64 0] l0.length) 3)) := below_alloc (below_alloc (Below.refl _ _) _) _
  have hz1 : ((w.alloc (Obj.map #[] 0)).alloc (Obj.cells (madeCells #[Value.int IntKind.i64 0] l0.length) 3)).heap.size = w.heap.size + 2 := by simp
  have hm1 : ((w.alloc (Obj.map #[] 0)).alloc (Obj.cells (madeCells #[Value.int IntKind.i64 0] l0.length) 3)).heap[w.heap.size]? = some (.map #[] 0) := by
    rw [Below.heap_alloc _ _ _ (by simp)]
    exact (MapKept.heap_alloc w _).1
  have hR1 : Kd.R (Kd.int .i64) 3 ((w.alloc (Obj.map #[] 0)).alloc (Obj.cells (madeCells #[Value.int IntKind.i64 0] l0.length) 3)) w.heap.size (fun k => k = w.heap.size + 1) (.slice (some ⟨w.heap.size + 1, 0, none⟩) l0.length l0.length) (outL l0 0) := by
    rw [outL_zero]
    have ho := own_made (w.alloc (Obj.map #[] 0)) w.heap.size 3 .i64 l0.length (by simp) (by omega)
    have e1 : (w.alloc (Obj.map #[] 0)).heap.size = w.heap.size + 1 := by simp
    rw [e1] at ho
    exact Kd.R_of_own (by simpa [nums, encs] using ho) (fun k hk => by simpa [Value.ownBlock] using hk.symm)
  have hS1 := Seen.start (l := l0) (b := w.heap.size) (go := w.heap.size + 1) _ _ hm1
  obtain ⟨b, hb⟩ : ∃ b, b = w.heap.size := ⟨_, rfl⟩
  generalize ((w.alloc (Obj.map #[] 0)).alloc (Obj.cells (madeCells #[Value.int IntKind.i64 0] l0.length) 3)) = w1 at *
  have HB1 := Aside0.mk hB1
  have HZ1 := Aside0.mk hz1
  have HR1 := Aside0.mk hR1
  have HS1 := Aside0.mk hS1
  clear hB1 hz1 hR1 hS1 hm1 hl hb
  clear b
  go_loopg [16] l0.length (fun kq v16 wr => ∃ (q : Nat) (E : List (Value × Value)), Aside0 (q + kq = l0.length) ∧ v16 = .int .i64 q ∧ Aside0 (Below w.heap.size w wr ∧ w.heap.size + 2 ≤ wr.heap.size) ∧ Aside0 (Seen l0 q w.heap.size w.heap.size (w.heap.size + 1) wr E) ∧ Aside0 (Kd.R (Kd.int .i64) 3 wr w.heap.size (fun k => k = w.heap.size + 1) (.slice (some ⟨w.heap.size + 1, 0, none⟩) l0.length l0.length) (outL l0 q)))
  case atStart => exact ⟨0, [], ⟨by omega⟩, rfl, ⟨HB1.out, by have := HZ1.out; omega⟩, HS1, HR1⟩
  case round =>
    obtain ⟨q, E, HQ, rfl, HB, HSN, HO⟩ := hrel
    have HGK := Aside0.mk (rfl : gk = gk)
    cases gk with
    | succ kk =>
      have hlt : q < l0.length := by have := HQ.out; omega
      have HLT := Aside0.mk hlt
      have c1 : decide ((q : Int) < (l0.length : Int)) = true := decide_eq_true (by omega)
      have c3 : (q : Int) < (l0.length : Int) := by omega
      obtain ⟨ad, rfl, hx⟩ := Kd.at_string HR0.out (q : Int) (by omega) c3
      replace hx := (HB.out.1.cell (World.block_lt_of_cell? w _ hx)).trans hx
      rw [Int.toNat_natCast] at hx
      obtain ⟨sp, hsp⟩ : ∃ s, s = txt l0 q := ⟨_, rfl⟩
      have hrd : rdOf ByteArray.empty l0 (q : Int) = txt l0 q := by simp [rdOf, txt]
      rw [hrd, ← hsp] at hx
      obtain ⟨hcs, hkw⟩ := HS.out q hlt
      rw [← hsp] at hcs hkw
      obtain ⟨cs, hcse⟩ : ∃ cs, cs = crcS sp := ⟨_, rfl⟩
      rw [← hcse] at hcs hkw
      have HCS := Aside0.mk hcs
      have HSP := Aside0.mk hsp
      have HKW := Aside0.mk hkw
      have HCE := Aside0.mk hcse
      clear hcs hsp hrd hkw hcse hlt
      go_upto_region 7 with (first | (go_at_call 17; (with_reducible refine (crc_Sum.calls sp cs _ ?side1 HCS.out).mono ?_); (case side1 => exact HG.out.below HB.out.1); rintro e w' ⟨rfl, ⟨nd, rfl⟩⟩; obtain ⟨k0, k1, f0, f1⟩ := key_cells (wr.drewN nd) wr.heap.size rfl cs 0))
      obtain ⟨g7, hg7⟩ : ∃ g, g = wr.heap.size := ⟨_, rfl⟩
      have hz7 : ((((wr.drewN nd).alloc (Obj.cells #[Value.int .u32 0, Value.int .i64 0] 35)).setCell ⟨wr.heap.size, 0, none⟩ (.int .u32 cs)).setCell ⟨wr.heap.size, 1, none⟩ (.int .i64 sp.size)).heap.size = wr.heap.size + 1 := by simp [World.setCell]
      have hb7 : Below wr.heap.size wr ((((wr.drewN nd).alloc (Obj.cells #[Value.int .u32 0, Value.int .i64 0] 35)).setCell ⟨wr.heap.size, 0, none⟩ (.int .u32 cs)).setCell ⟨wr.heap.size, 1, none⟩ (.int .i64 sp.size)) :=
        Below.setCell (Below.setCell (below_alloc (pw_below_drewN (Below.refl wr.heap.size wr) nd) _) (p := ⟨wr.heap.size, 0, none⟩) (Nat.le_refl _) _) (p := ⟨wr.heap.size, 1, none⟩) (Nat.le_refl _) _
      have k00 : ((((wr.drewN nd).alloc (Obj.cells #[Value.int .u32 0, Value.int .i64 0] 35)).setCell ⟨wr.heap.size, 0, none⟩ (.int .u32 cs)).setCell ⟨wr.heap.size, 1, none⟩ (.int .i64 sp.size)).cell? ⟨wr.heap.size, 0, none⟩ = some (.int .u32 cs) := by
        rw [World.cell?_setCell_other _ _ _ _ (by intro h; injection h with _ h; cases h)]
        exact World.cell?_setCell_same _ _ _ k0
      have k11 : ((((wr.drewN nd).alloc (Obj.cells #[Value.int .u32 0, Value.int .i64 0] 35)).setCell ⟨wr.heap.size, 0, none⟩ (.int .u32 cs)).setCell ⟨wr.heap.size, 1, none⟩ (.int .i64 sp.size)).cell? ⟨wr.heap.size, 1, none⟩ = some (.int .i64 sp.size) :=
        World.cell?_setCell_same _ _ _ k1
      clear k0 k1 f0 f1
      generalize ((((wr.drewN nd).alloc (Obj.cells #[Value.int .u32 0, Value.int .i64 0] 35)).setCell ⟨wr.heap.size, 0, none⟩ (.int .u32 cs)).setCell ⟨wr.heap.size, 1, none⟩ (.int .i64 sp.size)) = w7 at *
      have hB7 : Below w.heap.size w w7 := HB.out.1.trans (hb7.mono (by have := HB.out.2; omega))
      have hS7 := HSN.out.below hb7 (by omega)
      have hO7 := Kd.R_below HO.out hb7
      have hsz7 : w.heap.size + 2 ≤ w7.heap.size := by have := HB.out.2; omega
      rw [← hg7] at k00 k11 hz7 ⊢
      have hg8 : w.heap.size + 2 ≤ g7 := by have := HB.out.2; omega
      have hG8 := Aside0.mk hg8
      have hx7 : w7.cell? (ad.add q) = some (.string sp) := (hb7.cell (World.block_lt_of_cell? wr _ hx)).trans hx
      clear hx hb7 hg7 hg8
      have HB7 := Aside0.mk hB7
      have HS7 := Aside0.mk hS7
      have HO7 := Aside0.mk hO7
      have HZ7 := Aside0.mk hz7
      have HX7 := Aside0.mk hx7
      clear hB7 hS7 hO7 hsz7 hz7 hx7 HB HSN HO
      have hzero : ∀ u : World, (zeroValue 29).run Tryd.prog u = .ok (.slice none 0 0) u := fun u => by rfl
      obtain ⟨v7, A7, c7, hv1, hv2, hv3, hv4, hv5⟩ : ∃ (v : Value) (A : Option Addr) (c : Nat), (Instr.lookup 33 (.map (some w.heap.size)) (.agg #[.int .u32 cs, .int .i64 sp.size]) false).run Tryd.prog w7 = .ok v w7 ∧ v = .slice A (reps l0 q cs sp.size).length c ∧ (reps l0 q cs sp.size).length ≤ c ∧ Kd.C (Kd.int .i64) w7 A (reps l0 q cs sp.size).length (reps l0 q cs sp.size) ∧ ((∀ x ∈ E, x.1 ≠ kv cs sp.size) ∨ ∃ j : Nat, E[j]? = some (kv cs sp.size, v)) := by
        rcases DedMap.lookup_run lawK Tryd.underlying33 hzero HS7.out.at_ HS7.out.keys (kv_key HKW.out).choose_spec with ⟨n1, n2⟩ | ⟨j, v, n1, n2⟩
        · have e := HS7.out.none_ cs sp.size n1
          rw [e]
          exact ⟨_, none, 0, n2, rfl, Nat.le_refl _, Kd.C_nil _ _, .inl n1⟩
        · obtain ⟨cs', n', e1, _, e2, e3⟩ := HS7.out.each j _ _ n1
          obtain ⟨rfl, rfl⟩ := kv_inj e1
          obtain ⟨A, c, e4, e5, e6⟩ := Kd.R_reads e3
          exact ⟨v, A, c, n2, e4, e5, e6, .inr ⟨j, n1⟩⟩
      subst hv2
      obtain ⟨R, hR⟩ : ∃ R, R = reps l0 q cs sp.size := ⟨_, rfl⟩
      rw [← hR] at hv1 hv3 hv4 hv5
      have HV5 := Aside0.mk hv5
      have HV4 := Aside0.mk hv4
      have HV3 := Aside0.mk hv3
      have HR := Aside0.mk hR
      clear hzero hv3 hv4 hv5 hR
      go_upto_region 8 with (fail)
      go_loopg [30] R.length (fun kq v30 wi => ∃ m : Nat, Aside0 (m + kq = R.length) ∧ v30 = .int .i64 m ∧ Aside0 (wi = w7) ∧ Aside0 (∀ j : Nat, j < m → txt l0 (R.getD j 0).toNat ≠ sp))
      case atStart => exact ⟨0, ⟨by omega⟩, rfl, ⟨rfl⟩, ⟨fun j hj => absurd hj (Nat.not_lt_zero _)⟩⟩
      case round =>
        obtain ⟨m, HM, rfl, HWI, HNO⟩ := hrel
        have hwi := HWI.out
        subst hwi
        cases gk with
        | succ km =>
          have hlm : m < R.length := by have := HM.out; omega
          have b1 : decide ((m : Int) < (R.length : Int)) = true := decide_eq_true (by omega)
          have b3 : (m : Int) < (R.length : Int) := by omega
          obtain ⟨a7, rfl, hy⟩ := Kd.at_int HV4.out (m : Int) (by omega) b3
          rw [Int.toNat_natCast] at hy
          have hmem : Go.Proofs.YtgiaopmakkdojaaDoorW.PrintWords.rd R (m : Int) ∈ reps l0 q cs (sp.size : Int) := by
            rw [← HR.out]
            simp [Go.Proofs.YtgiaopmakkdojaaDoorW.PrintWords.rd, hlm]
          obtain ⟨p, hp1, hp2, hp3, hp4, hp5⟩ := reps_mem.1 hmem
          rw [hp1] at hy
          have hpl : (p : Int) < (l0.length : Int) := by have := HLT.out; omega
          obtain ⟨ad', had, hxp⟩ := Kd.at_string HR0.out (p : Int) (by omega) hpl
          cases had
          replace hxp := (HB7.out.cell (World.block_lt_of_cell? w _ hxp)).trans hxp
          rw [Int.toNat_natCast] at hxp
          obtain ⟨tp, htp⟩ : ∃ s, s = txt l0 p := ⟨_, rfl⟩
          have hrd : rdOf ByteArray.empty l0 (p : Int) = txt l0 p := by simp [rdOf, txt]
          rw [hrd, ← htp] at hxp
          have HTP := Aside0.mk htp
          have HP1 := Aside0.mk hp1
          have HP2 := Aside0.mk hp2
          have HP3 := Aside0.mk hp3
          have HMEM := Aside0.mk hmem
          clear htp hrd hp1 hp2 hp3 hp4 hp5 hmem
          by_cases heq : tp = sp
          · have e1 : (tp.toList == sp.toList) = true := beq_iff_eq.mpr (by rw [heq])
            have HEQ := Aside0.mk heq
            clear heq
            obtain ⟨o1, o2⟩ := Kd.R_celln (0 : Int) HO7.out (q : Int) (by omega) c3
            rw [Int.toNat_natCast] at o1 o2
            go_wp2
            have hf : firstOf l0 q = p := reps_hit HLT.out (by have := HMEM.out; rw [HP1.out, HCE.out, HSP.out] at this; exact this) (by rw [← HTP.out, HEQ.out, HSP.out])
            have hput := (Kd.R_putg HO7.out (q : Int) (p : Int)).1
            rw [Int.toNat_natCast] at hput
            have hset := outL_set l0 q
            rw [hf] at hset
            rw [hset] at hput
            have hsk := (HS7.out.step (W' := wr.setCell ⟨w.heap.size + 1, q, none⟩ (.int .i64 p)) (fun k _ hk => Below.heap_setCell _ _ _ _ hk) (by omega)).skip (by have := HP2.out; omega)
            have hbl : Below w.heap.size w (wr.setCell ⟨w.heap.size + 1, q, none⟩ (.int .i64 p)) := Below.setCell HB7.out (p := ⟨w.heap.size + 1, q, none⟩) (Nat.le_succ _) _
            have hsz : w.heap.size + 2 ≤ (wr.setCell ⟨w.heap.size + 1, q, none⟩ (.int .i64 p)).heap.size := by
              have := hG8.out
              have := HZ7.out
              simp [World.setCell]
              omega
            go_roundg kk
            case measure => omega
            case rel => exact ⟨q + 1, E, ⟨by have := HQ.out; omega⟩, by rw [wrap_succ q (by have := HL.out; have := HLT.out; omega)]; rfl, ⟨hbl, hsz⟩, ⟨hsk⟩, ⟨hput⟩⟩
          · have e1 : (tp.toList == sp.toList) = false := beq_eq_false_iff_ne.mpr (fun h => heq (toList_inj h))
            have HNE := Aside0.mk heq
            clear heq
            go_wp2
            have hno : ∀ j : Nat, j < m + 1 → txt l0 (R.getD j 0).toNat ≠ sp := by
              intro j hj
              rcases Nat.lt_succ_iff_lt_or_eq.1 hj with h | h
              · exact HNO.out j h
              · subst h
                have h1 := HP1.out
                simp only [Go.Proofs.YtgiaopmakkdojaaDoorW.PrintWords.rd, Int.toNat_natCast] at h1
                rw [h1, Int.toNat_natCast, ← HTP.out]
                exact HNE.out
            have hrl : R.length ≤ q := by rw [HR.out]; exact reps_len _ _ _ _
            go_roundg km
            case measure => omega
            case rel => exact ⟨m + 1, ⟨by have := HM.out; omega⟩, by rw [wrap_succ m (by have := HL.out; have := HLT.out; omega)]; rfl, ⟨rfl⟩, ⟨hno⟩⟩
        | zero =>
          have hmm : m = R.length := by have := HM.out; omega
          have hno := HNO.out
          rw [hmm] at hno
          have hff : firstOf l0 q = q := by
            refine reps_miss HLT.out (fun z hz => ?_)
            rw [← HSP.out, ← HCE.out, ← HR.out] at hz
            obtain ⟨j, hj⟩ := List.mem_iff_getElem?.1 hz
            have hjl := (List.getElem?_eq_some_iff.1 hj).1
            have := hno j hjl
            rw [List.getD_eq_getElem?_getD, hj] at this
            rw [← HSP.out]
            exact this
          have b1 : decide ((m : Int) < (R.length : Int)) = false := decide_eq_false (by omega)
          clear hno
          subst hmm
          have HFF := Aside0.mk hff
          clear hff
          go_upto_region 13 with (fail)
          have hlen : R.length ≤ q := by rw [HR.out]; exact reps_len _ _ _ _
          have HLEN := Aside0.mk hlen
          clear hlen
          have hmapne : w.heap.size ≠ w.heap.size + 1 := by omega
          obtain ⟨E8, j8, v8, hme, hj8, hrow8, hfin⟩ : ∃ (E8 : List (Value × Value)) (j8 : Nat) (v8 : Value),
              (∀ W, DedMap.At W w.heap.size E → (Instr.mapEntry 33 (.map (some w.heap.size)) (.agg #[.int .u32 cs, .int .i64 sp.size])).run Tryd.prog W = .ok (.tuple #[v8, .int .i64 j8]) (setBlock W w.heap.size (.map (DedMap.ents E8).toArray E8.length))) ∧
              E8[j8]? = some (kv cs sp.size, v8) ∧
              Kd.R (Kd.int .i64) 3 wr w.heap.size (fun k => k ≠ w.heap.size ∧ k ≠ w.heap.size + 1) v8 R ∧
              (∀ (W' : World) (v : Value), DedMap.At W' w.heap.size (E8.set j8 (kv cs sp.size, v)) → Kd.R (Kd.int .i64) 3 W' w.heap.size (fun k => k ≠ w.heap.size ∧ k ≠ w.heap.size + 1) v (R ++ [(q : Int)]) → (v.ownBlock = v8.ownBlock ∨ ∃ x, v.ownBlock = some x ∧ wr.heap.size ≤ x) →
                (∀ k, k < wr.heap.size → k ≠ w.heap.size → k ≠ w.heap.size + 1 → some k ≠ v8.ownBlock → W'.heap[k]? = wr.heap[k]?) → Seen l0 (q + 1) w.heap.size w.heap.size (w.heap.size + 1) W' (E8.set j8 (kv cs sp.size, v))) := by
            have hff := HFF.out
            have hkw := HKW.out
            have hS := HS7.out
            have hRe := HR.out
            obtain ⟨kl, hkl⟩ := kv_key hkw
            have hce := HCE.out
            have hse : (sp.size : Int) = ((txt l0 q).size : Int) := by rw [HSP.out]
            have hcc : cs = crcS (txt l0 q) := by rw [hce, HSP.out]
            clear HCS HKW HCE HR HX7 k11 hv1
            have hzero : ∀ u : World, (zeroValue 29).run Tryd.prog u = .ok (.slice none 0 0) u := fun u => by rfl
            rcases HV5.out with n1 | ⟨j, n1⟩
            · have e := hS.none_ cs sp.size n1
              rw [hRe, e]
              refine ⟨E ++ [(kv cs sp.size, .slice none 0 0)], E.length, .slice none 0 0, fun W hW => ?_, by rw [List.getElem?_append_right (Nat.le_refl _), Nat.sub_self]; rfl, Kd.R_nil _ _ _ _ _, fun W' v ha hR hv hk => ?_⟩
              · have h2 := DedMap.entry_new lawK Tryd.underlying33 hzero hW hS.keys hkl n1
                rw [List.length_append]
                exact h2
              · have es : (E ++ [(kv cs (sp.size : Int), Value.slice none 0 0)]).set E.length (kv cs (sp.size : Int), v) = E ++ [(kv cs (sp.size : Int), v)] := by
                  rw [List.set_append_right _ _ (Nat.le_refl _), Nat.sub_self]; rfl
                rw [es] at ha ⊢
                rw [hcc, hse] at ha n1 hkw ⊢
                refine hS.snoc hff hkw n1 ha hR (fun x hx => ?_) (fun k h1 h2 h3 => hk k h1 h2 h3 (by simp [Value.ownBlock]))
                rcases hv with hv | ⟨y, hy, hle⟩
                · rw [hx] at hv
                  simp [Value.ownBlock] at hv
                · rw [hx] at hy
                  injection hy with hy
                  omega
            · obtain ⟨cs', n', e1, _, e2, e3⟩ := hS.each j _ _ n1
              obtain ⟨rfl, rfl⟩ := kv_inj e1
              refine ⟨E, j, _, fun W hW => DedMap.entry_old lawK Tryd.underlying33 hW hS.keys hS.nd hkl n1, n1, by rw [← hRe] at e3; exact e3, fun W' v ha hR hv hk => ?_⟩
              rw [hRe] at hR
              have hlit := n1
              rw [hcc, hse] at ha n1 hkw hR ⊢
              exact hS.set_ hff hkw n1 ha hR hv hk
          obtain ⟨A8, c8, ev8⟩ := Kd.R_slice hrow8
          subst ev8
          have hat8 : DedMap.At (wr.alloc (.cells #[.int .i64 q] 3)) w.heap.size E := by
            unfold DedMap.At
            rw [Below.heap_alloc _ _ _ (by have := hG8.out; have := HZ7.out; omega)]
            exact HS7.out.at_
          have hme8 := hme _ hat8
          have hzr : w.heap.size + 2 ≤ wr.heap.size := by have := hG8.out; have := HZ7.out; omega
          have hlow : ∀ k, k < wr.heap.size → k ≠ w.heap.size → (setBlock (wr.alloc (.cells #[.int .i64 q] 3)) w.heap.size (.map (DedMap.ents E8).toArray E8.length)).heap[k]? = wr.heap[k]? := fun k hk hne => by
            rw [Go.ChangeMaps.heap_setBlock_other hat8 _ hne]
            exact Below.heap_alloc _ _ _ hk
          have hat9 : DedMap.At (setBlock (wr.alloc (.cells #[.int .i64 q] 3)) w.heap.size (.map (DedMap.ents E8).toArray E8.length)) w.heap.size E8 := DedMap.at_set hat8 rfl
          have hz9 : (setBlock (wr.alloc (.cells #[.int .i64 q] 3)) w.heap.size (.map (DedMap.ents E8).toArray E8.length)).heap.size = wr.heap.size + 1 := by simp [setBlock]
          have hb9 : Below w.heap.size w (setBlock (wr.alloc (.cells #[.int .i64 q] 3)) w.heap.size (.map (DedMap.ents E8).toArray E8.length)) := HB7.out.trans ⟨rfl, rfl, rfl, by rw [hz9]; omega, fun k hk => hlow k (by omega) (by omega)⟩
          have hC9 : Kd.C (Kd.int .i64) (setBlock (wr.alloc (.cells #[.int .i64 q] 3)) w.heap.size (.map (DedMap.ents E8).toArray E8.length)) (some ⟨wr.heap.size, 0, none⟩) 1 [(q : Int)] := by
            have h := World.ownsRow_lit (base := w.heap.size) (e := 3) (size := 1) wr #[.int .i64 q] 1 (by omega) (by simp [maxLen]) (by simp)
            have h2 : Kd.R (Kd.int .i64) 3 (wr.alloc (.cells #[.int .i64 q] 3)) w.heap.size (fun k => k = wr.heap.size) (.slice (some ⟨wr.heap.size, 0, none⟩) 1 1) [(q : Int)] := Kd.R_of_own (by simpa [encs] using h) (fun k hk => by simpa [Value.ownBlock] using hk.symm)
            exact (Kd.R_reads' (Kd.R_step h2 (fun k hk _ => Go.ChangeMaps.heap_setBlock_other hat8 _ (by omega)))).2.2
          have hrow9 := Kd.R_step hrow8 (w1 := (setBlock (wr.alloc (.cells #[.int .i64 q] 3)) w.heap.size (.map (DedMap.ents E8).toArray E8.length))) (fun k hk hlt => hlow k hlt hk.1)
          have hg8 : some (w.heap.size + 1) ≠ (Value.slice A8 R.length c8).ownBlock := fun e => (hrow8.1 _ e.symm).2 rfl
          have hg8' : some w.heap.size ≠ (Value.slice A8 R.length c8).ownBlock := fun e => (hrow8.1 _ e.symm).1 rfl
          generalize (setBlock (wr.alloc (.cells #[.int .i64 q] 3)) w.heap.size (.map (DedMap.ents E8).toArray E8.length)) = w9 at *
          have HG8a := Aside0.mk hg8
          have HG8b := Aside0.mk hg8'
          have HROW := Aside0.mk hrow9
          have HC9 := Aside0.mk hC9
          have HB9 := Aside0.mk hb9
          have HZ9 := Aside0.mk hz9
          have HAT9 := Aside0.mk hat9
          have HLOW := Aside0.mk hlow
          have HJ8 := Aside0.mk hj8
          have HFIN := Aside0.mk hfin
          clear hme hj8 hrow8 hfin hmapne hat8 hzr hlow hat9 hz9 hb9 hC9 hrow9 hg8 hg8'
          have info3 : (Tryd.prog.info? 3).map (fun i => (i.zero, i.size, i.bytes)) = some (some (.int .i64 0), 1, 8) := by kernel_rfl
          go_upto_region 14 with (first
            | ((with_reducible refine gate_builtin (b := .append) (xs := #[.tmp 47, .tmp 49]) rfl ?_); (try (refine gate_guard (by rfl) ?_; dsimp only)); at_builtin; refine Kd.R_append_rows (Kd.int .i64) (w0 := w) w.heap.size rfl (.tmp 47) (.tmp 49) 29 3 (.int .i64 0) 8 rfl Tryd.underlying29 info3 rfl (by decide) (by omega) (.slice A8 R.length c8) R [(q : Int)] _ _ _ (fun k => k ≠ w.heap.size ∧ k ≠ w.heap.size + 1) (fun _ => False) rfl rfl ?aO ?aR (fun _ _ h => h) (fun _ h => h.elim) ?aF ?aB ?aS ?aL ?_; (case aR => exact HC9.out); (case aB => exact HB9.out); (case aF => exact (fun k hk => by have := HZ9.out; have := hG8.out; have := HZ7.out; exact ⟨by omega, by omega⟩)); (case aO => exact HROW.out); (case aS => exact HB9.out.size); (case aL => have := HL.out; have := HLEN.out; have := HLT.out; omega); intro v10 w10 ho10 hb10 hg10 hat10; have HO10 := Aside0.mk ho10; have HB10 := Aside0.mk hb10; have HG10 := Aside0.mk hg10; have HAT10 := Aside0.mk hat10;
                have hma : DedMap.At w10 w.heap.size E8 := (hg10.block w.heap.size (by have := HZ9.out; have := hG8.out; have := HZ7.out; omega) HG8b.out).trans HAT9.out;
                have hst : (Instr.entryStore 33 (.map (some w.heap.size)) (.int .i64 j8) v10).run Tryd.prog w10 = .ok () (setBlock w10 w.heap.size (.map (DedMap.ents (E8.set j8 (kv cs sp.size, v10))).toArray E8.length)) := DedMap.store_run hma HJ8.out v10;
                have HMA := Aside0.mk hma; clear hma ho10 hb10 hg10 hat10))
          obtain ⟨w11, hw11⟩ : ∃ W, W = setBlock w10 w.heap.size (Obj.map (DedMap.ents (E8.set j8 (kv cs sp.size, v10))).toArray E8.length) := ⟨_, rfl⟩
          have hzr : w.heap.size + 2 ≤ wr.heap.size := by have := hG8.out; have := HZ7.out; omega
          have hz10 := HG10.out.size
          have hz9 := HZ9.out
          have hoth : ∀ k, k ≠ w.heap.size → w11.heap[k]? = w10.heap[k]? := fun k hk => by rw [hw11]; exact Go.ChangeMaps.heap_setBlock_other HMA.out _ hk
          have hz11 : w11.heap.size = w10.heap.size := by rw [hw11]; simp [setBlock]
          have ha11 : DedMap.At w11 w.heap.size (E8.set j8 (kv cs sp.size, v10)) := by rw [hw11]; exact DedMap.at_set HMA.out (by simp)
          have hb11 : Below w.heap.size w w11 := HB10.out.trans ⟨by rw [hw11]; rfl, by rw [hw11]; rfl, by rw [hw11]; rfl, by omega, fun k hk => hoth k (by omega)⟩
          have hR11 := Kd.R_step HO10.out (w1 := w11) (fun k hk _ => hoth k hk.1)
          have hS11 := HFIN.out w11 v10 ha11 hR11 (by
            rcases HAT10.out with h | ⟨x, h1, h2⟩
            · exact .inl h
            · exact .inr ⟨x, h1, by omega⟩) (fun k h1 h2 h3 h4 => ((hoth k h2).trans (HG10.out.block k (by omega) h4)).trans (HLOW.out k h1 h2))
          have hO11 : Kd.R (Kd.int .i64) 3 w11 w.heap.size (fun k => k = w.heap.size + 1) (.slice (some ⟨w.heap.size + 1, 0, none⟩) l0.length l0.length) (outL l0 q) := Kd.R_step HO7.out (fun k hk hlt => by
            subst hk
            exact ((hoth _ (by omega)).trans (HG10.out.block _ (by omega) HG8a.out)).trans (HLOW.out _ hlt (by omega)))
          rw [← hw11]
          have hq : q < l0.length := HLT.out
          obtain ⟨o1, o2⟩ := Kd.R_celln (0 : Int) hO11 (q : Int) (by omega) c3
          rw [Int.toNat_natCast] at o1 o2
          have hput := (Kd.R_putg hO11 (q : Int) (q : Int)).1
          rw [Int.toNat_natCast] at hput
          have hset := outL_set l0 q
          rw [HFF.out] at hset
          rw [hset] at hput
          have hS12 := hS11.step (W' := w11.setCell ⟨w.heap.size + 1, q, none⟩ (.int .i64 q)) (fun k _ hk => Below.heap_setCell _ _ _ _ hk) (by omega)
          have hb12 : Below w.heap.size w (w11.setCell ⟨w.heap.size + 1, q, none⟩ (.int .i64 q)) := Below.setCell hb11 (p := ⟨w.heap.size + 1, q, none⟩) (Nat.le_succ _) _
          have hsz : w.heap.size + 2 ≤ (w11.setCell ⟨w.heap.size + 1, q, none⟩ (.int .i64 q)).heap.size := by simp [World.setCell]; omega
          have HS12 := Aside0.mk hS12
          have HB12 := Aside0.mk hb12
          have HSZ := Aside0.mk hsz
          have HPUT := Aside0.mk hput
          clear hS12 hb12 hsz hput hset hO11 hS11 hR11 hb11 ha11 hz11 hoth hz9 hz10 hzr hw11 hst info3 hme8 hv1 hq
          go_wp2
          go_roundg kk
          case measure => omega
          case rel => exact ⟨q + 1, _, ⟨by have := HQ.out; omega⟩, by rw [wrap_succ q (by have := HL.out; have := HLT.out; omega)]; rfl, ⟨HB12.out, HSZ.out⟩, HS12, HPUT⟩
    | zero =>
      have hqq : q = l0.length := by have := HQ.out; omega
      subst hqq
      have c1 : decide ((l0.length : Int) < (l0.length : Int)) = false := decide_eq_false (by omega)
      go_wp2
      (try rw [Exit.noGoto_ret])
      go_ret
      have hO := HO.out
      rw [outL_all] at hO
      exact ⟨_, rfl, Kd.R_mono hO (fun _ _ => trivial), HB.out.1⟩
instance (s : ByteArray) : Decidable (sumOk s) := by unfold sumOk kwf; infer_instance
/-- The first ones of texts each of which has a sum. -/
def dedupe_First.f (l0 : List ByteArray) : Option (List Int) := if l0.length ≤ 1099511627776 ∧ ∀ i : Nat, i < l0.length → sumOk (txt l0 i) then some (firstsL l0) else none
theorem dedupe_First.calls (A0 : Option Addr) (c0 : Nat) (l0 : List ByteArray) (r : List Int) (w : World) (hr0 : Kd.C Kd.string w A0 l0.length l0) (hc0 : l0.length ≤ c0) (hG : GT w) (h : dedupe_First.f l0 = some r) :
    Calls Tryd.prog 11 #[.slice A0 l0.length c0] w fun e w' => ∃ v0_ : Value, e = .returned v0_ ∧ Kd.R (Kd.int .i64) 3 w' w.heap.size (fun _ => True) v0_ r ∧ Below w.heap.size w w' := by
  unfold dedupe_First.f at h
  split at h
  · rename_i hc
    injection h with h
    subst h
    exact first_walk A0 c0 l0 w hG hr0 hc0 hc.1 hc.2
  · cases h
end Go.Proofs.YtgiaopmakkdojaaDoor.G
