/- The walk of caulklaw04.RsEach over this seat's program: it answers as the plain function below. Conditions: those of the plain function. -/
import Derived.Test.YtlobaomleocpjaaGx3
import Derived.Lib.ConvBytes
import Derived.Laws.MakeOwn
import Derived.Deep.RegionHeld3
namespace Go.Proofs.Ytlobaomleocpjaa.G
open Go.RowKit Go.Proofs.YtlobaomleocpjaaW.PrintWords Go.Proofs.YtlobaomleocpjaaW.PrintLast Go.Proofs.YtlobaomleocpjaaW.PrintMore
set_option linter.unusedVariables false
set_option linter.unusedSimpArgs false
def Row8 (g : Nat) (xs : List Int) (w : World) : Prop := ∀ j, j < xs.length → w.cell? ⟨g, j, none⟩ = some (.int .u8 (xs.getD j 0)) ∧ w.frozen? ⟨g, j, none⟩ = false
theorem Row8.drew {g : Nat} {xs : List Int} {w : World} (h : Row8 g xs w) : Row8 g xs w.drew := h
theorem Row8.drewN {g : Nat} {xs : List Int} {w : World} (h : Row8 g xs w) (m : Nat) : Row8 g xs (w.drewN m) := h
theorem Row8.alloc {g : Nat} {xs : List Int} {w : World} (h : Row8 g xs w) (hg : g < w.heap.size) (o : Obj) : Row8 g xs (w.alloc o) := by
  intro j hj
  obtain ⟨c, f⟩ := h j hj
  have hb : (w.alloc o).heap[g]? = w.heap[g]? := Below.heap_alloc w o g hg
  exact ⟨(World.cell?_of_block (a := ⟨g, j, none⟩) hb).trans c, (World.frozen?_of_block (a := ⟨g, j, none⟩) hb).trans f⟩
theorem Row8.below {g : Nat} {xs : List Int} {w w1 : World} (h : Row8 g xs w) (hg : g < w.heap.size) (hb : Below w.heap.size w w1) : Row8 g xs w1 := by
  intro j hj
  obtain ⟨c, f⟩ := h j hj
  exact ⟨(hb.cell (p := ⟨g, j, none⟩) hg).trans c, (hb.frozen (p := ⟨g, j, none⟩) hg).trans f⟩
theorem Row8.far {g g2 : Nat} {xs : List Int} {w : World} (h : Row8 g xs w) (hg : g ≠ g2) (i : Nat) (v : Value) : Row8 g xs (w.setCell ⟨g2, i, none⟩ v) := by
  intro j hj
  obtain ⟨c, f⟩ := h j hj
  exact ⟨by rw [World.cell?_setCell_other _ _ _ _ (by intro h'; injection h' with h''; exact hg h''.symm)]; exact c, by rw [World.frozen?_setCell]; exact f⟩
theorem Row8.conv {g : Nat} {xs : List Int} {W : World} (h : Row8 g xs W) (n c : Nat) (hn : xs.length = n) : (convert 37 9 (.slice (some ⟨g, 0, none⟩) n c)).run Try.prog W = .ok (.string (strOfNums xs)) W := by
  refine run_convert_bytes_arg W 37 5 Try.underlying37 Try.underlying5 g 0 n c xs hn (fun i hi => ?_) 9 Try.underlying9
  rw [Nat.zero_add]
  exact (h i (by omega)).1
theorem Row8.bytes (W : World) (s : ByteArray) : Row8 W.heap.size (bytesOf s) (Lib.bytesWorld W 5 s) := by
  intro j hj
  rw [bytesOf_length] at hj
  refine ⟨?_, ?_⟩
  · rw [Lib.bytesWorld_cell W 5 s j hj]
    have h' : j < s.data.toList.length := by rw [data_length]; exact hj
    simp [bytesOf, List.getD_eq_getElem?_getD, List.getElem?_eq_getElem h']
  · have hn := Lib.bytesWorld_at_new W 5 s
    have hsz : s.size ≤ (Lib.bytesCells W 5 s).size := by simp [Lib.bytesCells]
    simp [World.frozen?, hn]
    omega
theorem Row8.put {g : Nat} {xs : List Int} {w : World} (h : Row8 g xs w) (i : Nat) (hi : i < xs.length) (v : Int) : Row8 g (xs.set i v) (w.setCell ⟨g, i, none⟩ (.int .u8 v)) := by
  intro j hj
  rw [List.length_set] at hj
  obtain ⟨c, f⟩ := h j hj
  refine ⟨?_, by rw [World.frozen?_setCell]; exact f⟩
  by_cases e : j = i
  · subst e
    rw [World.cell?_setCell_same _ _ _ c]
    simp [List.getD_eq_getElem?_getD, hj]
  · rw [World.cell?_setCell_other _ _ _ _ (by intro h'; injection h' with _ h''; exact e h''.symm), c]
    simp only [List.getD_eq_getElem?_getD]
    rw [List.getElem?_set_ne (by omega)]
theorem wrap_succ (n : Nat) (h : n ≤ 1099511627776) : wrap64 ((n : Int) + 1) = (n : Int) + 1 := by unfold wrap64; omega
/-- The bytes of a piece, one of them changed. -/
def eachX (s : ByteArray) (an : Nat) (y : Int) : List Int := (bytesOf s).set an (Go.bits .xor .u8 ((bytesOf s).getD an 0) y)
def eachO (l : List ByteArray) (pn an : Nat) (y : Int) : List ByteArray := l.set pn (strOfNums (eachX (rdOf ByteArray.empty l pn) an y))
def eachOk (P Q : List ByteArray) (n an : Nat) (y : Int) : Prop := ∀ i : Nat, i < P.length → (rdOf ByteArray.empty P i).size = n ∧ (rdOf ByteArray.empty Q i).size = n ∧ ∀ j : Nat, j < n → (bt (rdOf ByteArray.empty P i) j = bt (rdOf ByteArray.empty Q i) j ↔ (j ≠ an ∨ y = 0))
open Classical in
/-- The plain function of the law. -/
noncomputable def caulklaw04_RsEach.f (k : Nat) (a0 a1 : Int) (l2 : List ByteArray) (a3 a4 a5 : Int) : Option Bool :=
  (caulklaw04_lives.f k).bind fun t => if t = true then (caulklaw04_small.f k a0 a1 l2).bind fun s => (if s = true ∧ 0 ≤ a3 ∧ a3 < l2.length ∧ 0 ≤ a4 ∧ a4 < (rdOf ByteArray.empty l2 a3).size then
    (if l2.length ≤ 65536 ∧ (rdOf ByteArray.empty l2 a3).size ≤ 16384 then (rs_Encode.f k a0 a1 l2).bind fun p => (if p.2 = 0 then (rs_Encode.f k a0 a1 (eachO l2 a3.toNat a4.toNat a5)).bind fun q => (if q.2 = 0 ∧ q.1.length = p.1.length ∧ p.1.length ≤ 65536 ∧ eachOk p.1 q.1 (rdOf ByteArray.empty l2 a3).size a4.toNat a5 then some true else none) else some true) else none) else some true) else none
def caulklaw04_RsEach.Pure : Prop := ∀ (a0 a1 : Int) (l2 : List ByteArray) (a3 a4 a5 : Int), (Lit.int .i64 a0).wf = true → (Lit.int .i64 a1).wf = true → (l2.length * 16 ≤ 140737488351232 ∧ ∀ x0_ ∈ l2, x0_.size ≤ 140737488351232) → (Lit.int .i64 a3).wf = true → (Lit.int .i64 a4).wf = true → (Lit.int .u8 a5).wf = true → ∃ k, caulklaw04_RsEach.f k a0 a1 l2 a3 a4 a5 = some true
set_option maxHeartbeats 4000000 in
set_option maxRecDepth 100000 in
theorem each_walk (k : Nat) (a0 a1 : Int) (A2 : Option Addr) (c2 : Nat) (l2 : List ByteArray) (pn an : Nat) (a5 : Int) (w : World) (hr2 : Kd.C Kd.string w A2 l2.length l2) (hc2 : l2.length ≤ c2)
    (hl : caulklaw04_lives.f k = some true) (hs : caulklaw04_small.f k a0 a1 l2 = some true) (h4 : pn < l2.length) (h6 : an < (rdOf ByteArray.empty l2 pn).size) (hm : (rdOf ByteArray.empty l2 pn).size ≤ 16384) (hL : l2.length ≤ 65536)
    (P Q : List ByteArray) (he : rs_Encode.f k a0 a1 l2 = some (P, 0)) (hq : rs_Encode.f k a0 a1 (eachO l2 pn an a5) = some (Q, 0)) (hPQ : Q.length = P.length) (hPl : P.length ≤ 65536) (hk : eachOk P Q (rdOf ByteArray.empty l2 pn).size an a5) :
    Calls Try.prog 11 #[.int .i64 a0, .int .i64 a1, .slice A2 l2.length c2, .int .i64 pn, .int .i64 an, .int .u8 a5] w fun e w' => e = .returned (.bool true) ∧ Below w.heap.size w w' := by
  have HR2 := Aside0.mk hr2
  have HC2 := Aside0.mk hc2
  have LV := Aside0.mk hl
  have SM := Aside0.mk hs
  have EN := Aside0.mk he
  have EQ := Aside0.mk hq
  have OK := Aside0.mk hk
  have HPQ := Aside0.mk hPQ
  have HL := Aside0.mk hL
  have HPL := Aside0.mk hPl
  clear hPl
  have d3 : decide ((pn : Int) < 0) = false := decide_eq_false (by omega)
  have d4' : decide ((l2.length : Int) ≤ pn) = false := decide_eq_false (by omega)
  have d5 : decide ((an : Int) < 0) = false := decide_eq_false (by omega)
  obtain ⟨sp, hsp⟩ : ∃ s, s = rdOf ByteArray.empty l2 pn := ⟨_, rfl⟩
  obtain ⟨ad, rfl, hx⟩ := Kd.at_string HR2.out pn (by omega) (by omega)
  rw [← hsp] at hx h6 hm
  rw [← hsp] at hk
  have OK := Aside0.mk hk
  clear hk
  have HSP := Aside0.mk hsp
  have HM := Aside0.mk hm
  rw [Int.toNat_natCast] at hx
  have d6' : decide ((sp.size : Int) ≤ an) = false := decide_eq_false (by omega)
  have HX := Aside0.mk hx
  have b4 : (pn : Int) < ((l2.length : Nat) : Int) := by omega
  have H4 := Aside0.mk h4
  clear hl hs hr2 hc2 hx hsp he hq hPQ hm hL
  go_enter Try.func11, Try.ntmps11
  go_upto_region 8 with (first
    | (go_at_call 28; (with_reducible refine (caulklaw04_lives.calls k true _ LV.out).mono ?_); rintro e w1 ⟨rfl, hb1⟩; have HB1 := Aside0.mk hb1; clear hb1)
    | (go_at_call 27; (with_reducible refine (caulklaw04_small.calls k a0 a1 _ _ l2 true _ ?side1 ?side2 SM.out).mono ?_); (case side1 => exact Kd.C_below HR2.out HB1.out); (case side2 => exact HC2.out); rintro e w' ⟨rfl, ⟨nd, rfl⟩⟩; have HB2 := Aside0.mk (pw_below_drewN HB1.out nd);
       have hx1 := (HB1.out.cell (World.block_lt_of_cell? w _ HX.out)).trans HX.out; have hx2 : (w1.drewN nd).cell? (ad.add pn) = some (.string sp) := hx1)
    | (go_at_call 29; (with_reducible refine (rs_Encode.calls k a0 a1 _ _ l2 P 0 _ ?side1 ?side2 EN.out).mono ?_); (case side1 => exact Kd.C_below HR2.out HB2.out); (case side2 => exact HC2.out); rintro e w3 ⟨v0, rfl, ho0, hb⟩; have HO0 := Aside0.mk (Kd.R_lower ho0 HB2.out.size); have HB3 := Aside0.mk (HB2.out.trans (hb.mono HB2.out.size)); clear ho0 hb hx1 hx2))
  have hx3 := (HB3.out.cell (World.block_lt_of_cell? w _ HX.out)).trans HX.out
  have kb := print_bytes (P := Try.prog) 9 37 5 Try.underlying9 Try.underlying37 Try.underlying5 sp w3
  have hrow := Row8.bytes w3 sp
  have hbel := bytes_below (Below.refl w3.heap.size w3) (Nat.le_refl _) 5 sp
  have hsz : (Lib.bytesWorld w3 5 sp).heap.size = w3.heap.size + 1 := Lib.bytesWorld_size _ _ _
  obtain ⟨l1, f1⟩ := hrow an (by rw [bytesOf_length]; exact h6)
  obtain ⟨xv, hxv⟩ : ∃ xv : Int, xv = (bytesOf sp).getD an 0 := ⟨_, rfl⟩
  rw [← hxv] at l1
  have b6 : (an : Int) < (sp.size : Int) := by omega
  obtain ⟨Ao, co, eo⟩ := Kd.R_slice HO0.out
  subst eo
  have HXV := Aside0.mk hxv
  have HROW := Aside0.mk hrow
  have HBL := Aside0.mk hbel
  have HSZ := Aside0.mk hsz
  clear hxv hrow hbel hsz
  go_upto_region 10 with (fail)
  have hs1 := (HROW.out.put an (by rw [bytesOf_length]; exact h6) (Go.bits .xor .u8 xv a5))
  rw [HXV.out] at hs1
  replace hs1 : Row8 w3.heap.size (eachX sp an a5) ((Lib.bytesWorld w3 5 sp).setCell ⟨w3.heap.size, an, none⟩ (.int .u8 (Go.bits .xor .u8 xv a5))) := by rw [HXV.out]; exact hs1
  have hle := HB3.out.size
  have hs2 : Below w.heap.size w ((Lib.bytesWorld w3 5 sp).setCell ⟨w3.heap.size, an, none⟩ (.int .u8 (Go.bits .xor .u8 xv a5))) := Below.setCell (HB3.out.trans (HBL.out.mono hle)) (p := ⟨w3.heap.size, an, none⟩) hle _
  have hs3 : Kd.R Kd.string 9 ((Lib.bytesWorld w3 5 sp).setCell ⟨w3.heap.size, an, none⟩ (.int .u8 (Go.bits .xor .u8 xv a5))) w.heap.size (fun _ => True) (.slice Ao P.length co) P :=
    Kd.R_mono (Kd.R_far (Kd.R_below (Kd.R_bound HO0.out) HBL.out) (p := ⟨w3.heap.size, an, none⟩) (fun k hk => by have := hk.2.2.1; show k ≠ w3.heap.size; omega) _) (fun _ _ => trivial)
  have hs4 : w3.heap.size < ((Lib.bytesWorld w3 5 sp).setCell ⟨w3.heap.size, an, none⟩ (.int .u8 (Go.bits .xor .u8 xv a5))).heap.size := by simp [World.setCell]; rw [HSZ.out]; omega
  clear hle kb f1 l1 hx3 HO0 HB3 HROW HBL HSZ
  obtain ⟨g8, hg8⟩ : ∃ g, g = w3.heap.size := ⟨_, rfl⟩
  generalize (Lib.bytesWorld w3 5 sp).setCell ⟨w3.heap.size, an, none⟩ (.int .u8 (Go.bits .xor .u8 xv a5)) = w4 at *
  rw [← hg8] at hs1 hs4 ⊢
  have R8 := Aside0.mk hs1
  have HB4 := Aside0.mk hs2
  have HP4 := Aside0.mk hs3
  have HG8 := Aside0.mk hs4
  clear hs1 hs2 hs3 hs4 hg8
  go_upto_region 11 with (first
    | ((with_reducible refine gate_dst (N := 72) rfl ?_); (try (refine gate_guard (by rfl) ?_; dsimp only)); refine Kd.R_lit Kd.string _ 9 ?hg (N := 72) ?hd (xs := ([] : List ByteArray)) (inner := []) (ok := fun _ => True) (okp := fun _ => True) ?hr ?hp (fun _ hk => hk) trivial (Below.refl _ _) (Nat.le_refl _) (by simp) ?_; (case hd => rfl); (case hg => rfl); (case hr => first | (go_simp; done) | (go_simp; rfl)); (case hp => exact (Reps.none _ _)); intro v5 w5 ho5 hb5 hg_ hnew_; clear hg_ hnew_; have HO5 := Aside0.mk ho5; have HB5 := Aside0.mk hb5; clear ho5 hb5)
    | ((with_reducible refine gate_builtin (b := .append) (xs := #[.tmp 72, .tmp 73]) rfl ?_); (try (refine gate_guard (by rfl) ?_; dsimp only)); at_builtin; refine Kd.R_append_rows Kd.string (w0 := w4) w4.heap.size rfl (.tmp 72) (.tmp 73) 39 9 (.string ⟨#[]⟩) 16 rfl Try.underlying39 info9 rfl (by decide) (by omega) v5 [] l2 _ _ _ (fun _ => True) (fun _ => False) rfl rfl ?aO ?aR (fun _ _ h => h) (fun _ h => h.elim) ?aF ?aB ?aS ?aL ?_; (case aR => exact Kd.C_below HR2.out (HB4.out.trans (HB5.out.mono HB4.out.size))); (case aB => exact HB5.out); (case aF => exact (fun _ _ => trivial)); (case aO => exact HO5.out); (case aS => exact HB5.out.size); (case aL => have := HL.out; simp; omega); intro v6 w6 ho6 hb6 hg_ hat_; clear hg_ hat_; rw [List.nil_append] at ho6; have HO6 := Aside0.mk ho6; have HB6 := Aside0.mk hb6; clear ho6 hb6 HO5 HB5))
  obtain ⟨g5, c5, eg, gb5, gl5, cl5, hc5⟩ := Kd.R_form HO6.out (by omega)
  subst eg
  have r8 := R8.out.below HG8.out HB6.out
  have cv := r8.conv sp.size (grownCap w3 sp.size 0 5) (by simp [eachX, bytesOf_length])
  obtain ⟨hx6, hf6⟩ := Kd.R_celln (⟨#[]⟩ : ByteArray) HO6.out (pn : Int) (by omega) (by omega)
  rw [Int.toNat_natCast] at hx6 hf6
  have HP6 := Kd.R_putg HO6.out (pn : Int) (strOfNums (eachX sp an a5))
  rw [Int.toNat_natCast] at HP6
  have eO : l2.set pn (strOfNums (eachX sp an a5)) = eachO l2 pn an a5 := by rw [HSP.out]; rfl
  rw [eO] at HP6
  obtain ⟨hp6, -⟩ := HP6
  have hb6' : Below w4.heap.size w4 (w6.setCell ⟨g5, pn, none⟩ (.string (strOfNums (eachX sp an a5)))) := Below.setCell HB6.out (p := ⟨g5, pn, none⟩) gb5 _
  have R6 := Aside0.mk (R8.out.below HG8.out hb6')
  have HB7 := Aside0.mk (HB4.out.trans (hb6'.mono HB4.out.size))
  have HP7 := Aside0.mk (Kd.R_below HP4.out hb6')
  have HO7 := Aside0.mk hp6
  have HG7 : g8 < (w6.setCell ⟨g5, pn, none⟩ (.string (strOfNums (eachX sp an a5)))).heap.size := by have := hb6'.size; have := HG8.out; omega
  clear r8 hp6 hb6' R8 HP4 HG8 HO6 HB6 eO gb5 gl5 hc5 cl5 HB4
  generalize hcap : grownCap w3 sp.size 0 5 = c8 at *
  clear hcap
  go_upto_region 12 with (fail)
  generalize w6.setCell ⟨g5, pn, none⟩ (.string (strOfNums (eachX sp an a5))) = w7 at *
  clear hx6 hf6 cv
  have hC7 := (Kd.R_reads' HO7.out).2.2
  have hc7 := (Kd.R_reads' HO7.out).2.1
  have hn7 := (Kd.R_reads' HO7.out).1
  have ENC := rs_Encode.calls k a0 a1 (some ⟨g5, 0, none⟩) c5 (eachO l2 pn an a5) Q 0 w7 hC7 (by rw [← hn7]; exact hc7) EQ.out
  rw [← hn7] at ENC
  have HENC := Aside0.mk ENC
  have HG7 := Aside0.mk HG7
  clear hC7 hc7 hn7 ENC
  have bq : (fun x : Int => (x != x)) = (fun _ => false) := by funext x; simp
  go_upto_region 15 with (first
    | (go_at_call 29; (with_reducible refine HENC.out.mono ?_); rintro e w8 ⟨v8, rfl, ho8, hb8⟩; (obtain ⟨Aq, cq, eq8⟩ := Kd.R_slice ho8); subst eq8; rw [HPQ.out] at ho8 ⊢; have HQ8 := Aside0.mk ho8; have HB8 := Aside0.mk (HB7.out.trans (hb8.mono HB7.out.size)); have HP8 := Aside0.mk (Kd.R_below HP7.out hb8); have R9 := Aside0.mk (R6.out.below HG7.out hb8); clear ho8 hb8))
  have CP := Aside0.mk (Kd.R_reads' HP8.out).2.2
  have cq0 := (Kd.R_reads' HQ8.out).2.2
  rw [HPQ.out] at cq0
  have CQ := Aside0.mk cq0
  clear cq0 bq HENC HO7 HP7 HP8 HQ8 HG7 R6 HB7 HB1 HB2 LV SM EN EQ HR2 HC2 HX HXV d3 d4' d5 d6' b4 b6 R9
  have NB := Aside0.mk (Below.refl w8.heap.size w8)
  go_upto_region 16 with (fail)
  go_loopw [98] (fun i wr => ∃ q : Nat, q ≤ P.length ∧ i = .int .i64 q ∧ Aside0 (Below w8.heap.size w8 wr)) (fun i _ => P.length - (intOf i).toNat)
  case atStart => exact ⟨0, Nat.zero_le _, by simp, NB⟩
  case round =>
    obtain ⟨q, hq, rfl, HZ⟩ := hrel
    clear NB
    by_cases hlt : q < P.length
    · have c1 : decide ((q : Int) < (P.length : Int)) = true := decide_eq_true (by omega)
      have c3 : (q : Int) < (P.length : Int) := by omega
      obtain ⟨adp, rfl, hxp⟩ := Kd.at_string CP.out (q : Int) (by omega) c3
      obtain ⟨adq, rfl, hxq⟩ := Kd.at_string CQ.out (q : Int) (by omega) c3
      replace hxp := (HZ.out.cell (World.block_lt_of_cell? w8 _ hxp)).trans hxp
      replace hxq := (HZ.out.cell (World.block_lt_of_cell? w8 _ hxq)).trans hxq
      rw [Int.toNat_natCast] at hxp hxq
      obtain ⟨o1, o2, o3⟩ := OK.out q hlt
      obtain ⟨ps, hps⟩ : ∃ s, s = rdOf ByteArray.empty P q := ⟨_, rfl⟩
      obtain ⟨qs, hqs⟩ : ∃ s, s = rdOf ByteArray.empty Q q := ⟨_, rfl⟩
      rw [← hps] at o1 o3 hxp
      rw [← hqs] at o2 o3 hxq
      have O3 := Aside0.mk o3
      have HPS := Aside0.mk hps
      have HQS := Aside0.mk hqs
      have HXP := Aside0.mk hxp
      have HXQ := Aside0.mk hxq
      clear o3 hps hqs
      go_upto_region 21 with (fail)
      go_loopw [121] (fun i wr => ∃ j : Nat, j ≤ sp.size ∧ i = .int .i64 j ∧ Aside0 (Below w8.heap.size w8 wr)) (fun i _ => sp.size - (intOf i).toNat)
      case atStart => exact ⟨0, Nat.zero_le _, by simp, HZ⟩
      case round =>
        clear hxp hxq HXP HXQ HZ
        obtain ⟨j, hj, rfl, HZ⟩ := hrel
        by_cases hlj : j < sp.size
        · have e1 : decide ((j : Int) < (sp.size : Int)) = true := decide_eq_true (by omega)
          obtain ⟨adp', hap, hxp⟩ := Kd.at_string CP.out (q : Int) (by omega) c3
          cases hap
          obtain ⟨adq', haq, hxq⟩ := Kd.at_string CQ.out (q : Int) (by omega) c3
          cases haq
          rw [← HPS.out] at hxp
          rw [← HQS.out] at hxq
          replace hxp := (HZ.out.cell (World.block_lt_of_cell? w8 _ hxp)).trans hxp
          replace hxq := (HZ.out.cell (World.block_lt_of_cell? w8 _ hxq)).trans hxq
          rw [Int.toNat_natCast] at hxp hxq
          have kp : wr.drew.cell? (adp.add q) = some (.string ps) := hxp
          have kq : wr.drew.cell? (adq.add q) = some (.string qs) := hxq
          have e3 : j < ps.size := by omega
          have e4 : j < qs.size := by omega
          have e5 : (j : Int) < ps.size := by omega
          have e6 : (j : Int) < qs.size := by omega
          have e7 := O3.out j hlj
          obtain ⟨x, hx⟩ : ∃ x : Int, x = bt ps j := ⟨_, rfl⟩
          obtain ⟨y, hy⟩ : ∃ y : Int, y = bt qs j := ⟨_, rfl⟩
          rw [← hx, ← hy] at e7
          have v1 : (ps[j].toNat : Int) = x := by rw [hx]; simp [bt, e3]
          have v2 : (qs[j].toNat : Int) = y := by rw [hy]; simp [bt, e4]
          have E7 := Aside0.mk e7
          clear hx hy e7
          go_upto_region 23 with (fail)
          by_cases hja : j = an
          · subst hja
            have e7 : (x == y) = (a5 == 0) := by
              have := E7.out
              by_cases h : a5 = 0
              · rw [beq_iff_eq.mpr h, beq_iff_eq.mpr (this.mpr (Or.inr h))]
              · rw [beq_eq_false_iff_ne.mpr h, beq_eq_false_iff_ne.mpr (fun e => h ((this.mp e).resolve_left (fun h => h rfl)))]
            go_region_held (fun w' => w'.cell? (adp.add q) = some (.string ps) ∧ w'.cell? (adq.add q) = some (.string qs)) ((refine ⟨?_, ?_⟩ <;> assumption)) (fail)
            all_goals
              go_wp2
              go_roundw
              case rel => have hm := HM.out; exact ⟨j + 1, by omega, by rw [wrap_succ j (by omega)]; rfl, ⟨HZ.out.drew⟩⟩
              case measure => have hm := HM.out; rw [wrap_succ j (by omega)]; simp [intOf]; omega
          · have e7 : (x == y) = true := beq_iff_eq.mpr (E7.out.mpr (Or.inl hja))
            have e8 : ((j : Int) != (an : Int)) = true := bne_iff_ne.mpr (by omega)
            first | (go_region_held (fun w' => w'.cell? (adp.add q) = some (.string ps) ∧ w'.cell? (adq.add q) = some (.string qs)) ((refine ⟨?_, ?_⟩ <;> assumption)) (fail)) | fail
            all_goals
              go_wp2
              go_roundw
              case rel => have hm := HM.out; exact ⟨j + 1, by omega, by rw [wrap_succ j (by omega)]; rfl, ⟨HZ.out.drew⟩⟩
              case measure => have hm := HM.out; rw [wrap_succ j (by omega)]; simp [intOf]; omega
        · obtain rfl : j = sp.size := by omega
          have e1 : decide ((sp.size : Int) < (sp.size : Int)) = false := decide_eq_false (by omega)
          go_wp2
          go_roundw
          case rel => have hp := HPL.out; exact ⟨q + 1, by omega, by rw [wrap_succ q (by omega)]; rfl, HZ⟩
          case measure => have hp := HPL.out; rw [wrap_succ q (by omega)]; simp [intOf]; omega
    · obtain rfl : q = P.length := by omega
      have c1 : decide ((P.length : Int) < (P.length : Int)) = false := decide_eq_false (by omega)
      go_wp2
      go_ret
      exact ⟨rfl, HB8.out.trans (HZ.out.mono HB8.out.size)⟩
set_option maxHeartbeats 4000000 in
set_option maxRecDepth 100000 in
theorem each_big (k : Nat) (a0 a1 : Int) (A2 : Option Addr) (c2 : Nat) (l2 : List ByteArray) (a3 a4 a5 : Int) (w : World) (hr2 : Kd.C Kd.string w A2 l2.length l2) (hc2 : l2.length ≤ c2)
    (hl : caulklaw04_lives.f k = some true) (hs : caulklaw04_small.f k a0 a1 l2 = some false) :
    Calls Try.prog 11 #[.int .i64 a0, .int .i64 a1, .slice A2 l2.length c2, .int .i64 a3, .int .i64 a4, .int .u8 a5] w fun e w' => e = .returned (.bool true) ∧ Below w.heap.size w w' := by
  have HR2 := Aside0.mk hr2
  have HC2 := Aside0.mk hc2
  have LV := Aside0.mk hl
  have SM := Aside0.mk hs
  clear hl hs hr2 hc2
  go_enter Try.func11, Try.ntmps11
  go_wp2_with (first
    | (go_at_call 28; (with_reducible refine (caulklaw04_lives.calls k true _ LV.out).mono ?_); rintro e w1 ⟨rfl, hb1⟩; have HB1 := Aside0.mk hb1; clear hb1)
    | (go_at_call 27; (with_reducible refine (caulklaw04_small.calls k a0 a1 _ _ l2 false _ ?side1 ?side2 SM.out).mono ?_); (case side1 => exact Kd.C_below HR2.out HB1.out); (case side2 => exact HC2.out); rintro e w' ⟨rfl, ⟨nd, rfl⟩⟩; have HB2 := Aside0.mk (pw_below_drewN HB1.out nd)))
  go_ret
  exact ⟨rfl, HB2.out⟩
set_option maxHeartbeats 4000000 in
set_option maxRecDepth 100000 in
theorem each_neg (k : Nat) (a0 a1 : Int) (A2 : Option Addr) (c2 : Nat) (l2 : List ByteArray) (a3 a4 a5 : Int) (w : World) (hr2 : Kd.C Kd.string w A2 l2.length l2) (hc2 : l2.length ≤ c2)
    (hl : caulklaw04_lives.f k = some true) (hs : caulklaw04_small.f k a0 a1 l2 = some true) (h3 : a3 < 0) :
    Calls Try.prog 11 #[.int .i64 a0, .int .i64 a1, .slice A2 l2.length c2, .int .i64 a3, .int .i64 a4, .int .u8 a5] w fun e w' => e = .returned (.bool true) ∧ Below w.heap.size w w' := by
  have HR2 := Aside0.mk hr2
  have HC2 := Aside0.mk hc2
  have LV := Aside0.mk hl
  have SM := Aside0.mk hs
  have d3 : decide (a3 < 0) = true := decide_eq_true h3
  clear hl hs hr2 hc2
  go_enter Try.func11, Try.ntmps11
  go_wp2_with (first
    | (go_at_call 28; (with_reducible refine (caulklaw04_lives.calls k true _ LV.out).mono ?_); rintro e w1 ⟨rfl, hb1⟩; have HB1 := Aside0.mk hb1; clear hb1)
    | (go_at_call 27; (with_reducible refine (caulklaw04_small.calls k a0 a1 _ _ l2 true _ ?side1 ?side2 SM.out).mono ?_); (case side1 => exact Kd.C_below HR2.out HB1.out); (case side2 => exact HC2.out); rintro e w' ⟨rfl, ⟨nd, rfl⟩⟩; have HB2 := Aside0.mk (pw_below_drewN HB1.out nd)))
  go_ret
  exact ⟨rfl, HB2.out⟩
set_option maxHeartbeats 4000000 in
set_option maxRecDepth 100000 in
theorem each_far (k : Nat) (a0 a1 : Int) (A2 : Option Addr) (c2 : Nat) (l2 : List ByteArray) (a3 a4 a5 : Int) (w : World) (hr2 : Kd.C Kd.string w A2 l2.length l2) (hc2 : l2.length ≤ c2)
    (hl : caulklaw04_lives.f k = some true) (hs : caulklaw04_small.f k a0 a1 l2 = some true) (h3 : (l2.length : Int) ≤ a3) :
    Calls Try.prog 11 #[.int .i64 a0, .int .i64 a1, .slice A2 l2.length c2, .int .i64 a3, .int .i64 a4, .int .u8 a5] w fun e w' => e = .returned (.bool true) ∧ Below w.heap.size w w' := by
  have HR2 := Aside0.mk hr2
  have HC2 := Aside0.mk hc2
  have LV := Aside0.mk hl
  have SM := Aside0.mk hs
  have d3 : decide (a3 < 0) = false := decide_eq_false (by omega)
  have d4' : decide ((l2.length : Int) ≤ a3) = true := decide_eq_true h3
  clear hl hs hr2 hc2
  go_enter Try.func11, Try.ntmps11
  go_wp2_with (first
    | (go_at_call 28; (with_reducible refine (caulklaw04_lives.calls k true _ LV.out).mono ?_); rintro e w1 ⟨rfl, hb1⟩; have HB1 := Aside0.mk hb1; clear hb1)
    | (go_at_call 27; (with_reducible refine (caulklaw04_small.calls k a0 a1 _ _ l2 true _ ?side1 ?side2 SM.out).mono ?_); (case side1 => exact Kd.C_below HR2.out HB1.out); (case side2 => exact HC2.out); rintro e w' ⟨rfl, ⟨nd, rfl⟩⟩; have HB2 := Aside0.mk (pw_below_drewN HB1.out nd)))
  go_ret
  exact ⟨rfl, HB2.out⟩
set_option maxHeartbeats 4000000 in
set_option maxRecDepth 100000 in
theorem each_under (k : Nat) (a0 a1 : Int) (A2 : Option Addr) (c2 : Nat) (l2 : List ByteArray) (a3 a4 a5 : Int) (w : World) (hr2 : Kd.C Kd.string w A2 l2.length l2) (hc2 : l2.length ≤ c2)
    (hl : caulklaw04_lives.f k = some true) (hs : caulklaw04_small.f k a0 a1 l2 = some true) (h3 : 0 ≤ a3) (h4 : a3 < l2.length) (h5 : a4 < 0) :
    Calls Try.prog 11 #[.int .i64 a0, .int .i64 a1, .slice A2 l2.length c2, .int .i64 a3, .int .i64 a4, .int .u8 a5] w fun e w' => e = .returned (.bool true) ∧ Below w.heap.size w w' := by
  have HR2 := Aside0.mk hr2
  have HC2 := Aside0.mk hc2
  have LV := Aside0.mk hl
  have SM := Aside0.mk hs
  have d3 : decide (a3 < 0) = false := decide_eq_false (by omega)
  have d4' : decide ((l2.length : Int) ≤ a3) = false := decide_eq_false (by omega)
  have d5 : decide (a4 < 0) = true := decide_eq_true h5
  clear hl hs hr2 hc2
  go_enter Try.func11, Try.ntmps11
  go_wp2_with (first
    | (go_at_call 28; (with_reducible refine (caulklaw04_lives.calls k true _ LV.out).mono ?_); rintro e w1 ⟨rfl, hb1⟩; have HB1 := Aside0.mk hb1; clear hb1)
    | (go_at_call 27; (with_reducible refine (caulklaw04_small.calls k a0 a1 _ _ l2 true _ ?side1 ?side2 SM.out).mono ?_); (case side1 => exact Kd.C_below HR2.out HB1.out); (case side2 => exact HC2.out); rintro e w' ⟨rfl, ⟨nd, rfl⟩⟩; have HB2 := Aside0.mk (pw_below_drewN HB1.out nd)))
  go_ret
  exact ⟨rfl, HB2.out⟩
set_option maxHeartbeats 4000000 in
set_option maxRecDepth 100000 in
theorem each_over (k : Nat) (a0 a1 : Int) (A2 : Option Addr) (c2 : Nat) (l2 : List ByteArray) (a3 a4 a5 : Int) (w : World) (hr2 : Kd.C Kd.string w A2 l2.length l2) (hc2 : l2.length ≤ c2)
    (hl : caulklaw04_lives.f k = some true) (hs : caulklaw04_small.f k a0 a1 l2 = some true) (h3 : 0 ≤ a3) (h4 : a3 < l2.length) (h5 : 0 ≤ a4) (h6 : ¬ a4 < (rdOf ByteArray.empty l2 a3).size) :
    Calls Try.prog 11 #[.int .i64 a0, .int .i64 a1, .slice A2 l2.length c2, .int .i64 a3, .int .i64 a4, .int .u8 a5] w fun e w' => e = .returned (.bool true) ∧ Below w.heap.size w w' := by
  have HR2 := Aside0.mk hr2
  have HC2 := Aside0.mk hc2
  have LV := Aside0.mk hl
  have SM := Aside0.mk hs
  have d3 : decide (a3 < 0) = false := decide_eq_false (by omega)
  have d4' : decide ((l2.length : Int) ≤ a3) = false := decide_eq_false (by omega)
  have d5 : decide (a4 < 0) = false := decide_eq_false (by omega)
  obtain ⟨sp, hsp⟩ : ∃ s, s = rdOf ByteArray.empty l2 a3 := ⟨_, rfl⟩
  obtain ⟨ad, rfl, hx⟩ := Kd.at_string HR2.out a3 h3 h4
  rw [← hsp] at hx h6
  have HSP := Aside0.mk hsp
  clear hsp
  have d6' : decide ((sp.size : Int) ≤ a4) = true := decide_eq_true (by omega)
  have HX := Aside0.mk hx
  have b4 : a3 < ((l2.length : Nat) : Int) := h4
  clear hl hs hr2 hc2 hx
  go_enter Try.func11, Try.ntmps11
  go_wp2_with (first
    | (go_at_call 28; (with_reducible refine (caulklaw04_lives.calls k true _ LV.out).mono ?_); rintro e w1 ⟨rfl, hb1⟩; have HB1 := Aside0.mk hb1; clear hb1)
    | (go_at_call 27; (with_reducible refine (caulklaw04_small.calls k a0 a1 _ _ l2 true _ ?side1 ?side2 SM.out).mono ?_); (case side1 => exact Kd.C_below HR2.out HB1.out); (case side2 => exact HC2.out); rintro e w' ⟨rfl, ⟨nd, rfl⟩⟩; have HB2 := Aside0.mk (pw_below_drewN HB1.out nd); have hx1 := (HB1.out.cell (World.block_lt_of_cell? w _ HX.out)).trans HX.out; have hx2 : (w1.drewN nd).cell? (ad.add a3.toNat) = some (.string sp) := hx1))
  go_ret
  exact ⟨rfl, HB2.out⟩
set_option maxHeartbeats 4000000 in
set_option maxRecDepth 100000 in
theorem each_err (k : Nat) (a0 a1 : Int) (A2 : Option Addr) (c2 : Nat) (l2 : List ByteArray) (a3 a4 a5 : Int) (w : World) (hr2 : Kd.C Kd.string w A2 l2.length l2) (hc2 : l2.length ≤ c2)
    (hl : caulklaw04_lives.f k = some true) (hs : caulklaw04_small.f k a0 a1 l2 = some true) (h3 : 0 ≤ a3) (h4 : a3 < l2.length) (h5 : 0 ≤ a4) (h6 : a4 < (rdOf ByteArray.empty l2 a3).size) (P : List ByteArray) (y : Int) (he : rs_Encode.f k a0 a1 l2 = some (P, y)) (hy : ¬ y = 0) :
    Calls Try.prog 11 #[.int .i64 a0, .int .i64 a1, .slice A2 l2.length c2, .int .i64 a3, .int .i64 a4, .int .u8 a5] w fun e w' => e = .returned (.bool true) ∧ Below w.heap.size w w' := by
  have HR2 := Aside0.mk hr2
  have HC2 := Aside0.mk hc2
  have LV := Aside0.mk hl
  have SM := Aside0.mk hs
  have EN := Aside0.mk he
  have d3 : decide (a3 < 0) = false := decide_eq_false (by omega)
  have d4' : decide ((l2.length : Int) ≤ a3) = false := decide_eq_false (by omega)
  have d5 : decide (a4 < 0) = false := decide_eq_false (by omega)
  obtain ⟨sp, hsp⟩ : ∃ s, s = rdOf ByteArray.empty l2 a3 := ⟨_, rfl⟩
  obtain ⟨ad, rfl, hx⟩ := Kd.at_string HR2.out a3 h3 h4
  rw [← hsp] at hx h6
  have HSP := Aside0.mk hsp
  clear hsp
  have d6' : decide ((sp.size : Int) ≤ a4) = false := decide_eq_false (by omega)
  have HX := Aside0.mk hx
  have b4 : a3 < ((l2.length : Nat) : Int) := h4
  have ey : (y == 0) = false := beq_eq_false_iff_ne.mpr hy
  have ey1 : (y != 0) = true := bne_iff_ne.mpr hy
  clear hl hs hr2 hc2 hx he
  go_enter Try.func11, Try.ntmps11
  go_wp2_with (first
    | (go_at_call 28; (with_reducible refine (caulklaw04_lives.calls k true _ LV.out).mono ?_); rintro e w1 ⟨rfl, hb1⟩; have HB1 := Aside0.mk hb1; clear hb1)
    | (go_at_call 27; (with_reducible refine (caulklaw04_small.calls k a0 a1 _ _ l2 true _ ?side1 ?side2 SM.out).mono ?_); (case side1 => exact Kd.C_below HR2.out HB1.out); (case side2 => exact HC2.out); rintro e w' ⟨rfl, ⟨nd, rfl⟩⟩; have HB2 := Aside0.mk (pw_below_drewN HB1.out nd); have hx1 := (HB1.out.cell (World.block_lt_of_cell? w _ HX.out)).trans HX.out; have hx2 : (w1.drewN nd).cell? (ad.add a3.toNat) = some (.string sp) := hx1)
    | (go_at_call 29; (with_reducible refine (rs_Encode.calls k a0 a1 _ _ l2 P y _ ?side1 ?side2 EN.out).mono ?_); (case side1 => exact Kd.C_below HR2.out HB2.out); (case side2 => exact HC2.out); rintro e w3 ⟨v0, rfl, ho0, hb⟩; have HB3 := Aside0.mk (HB2.out.trans (hb.mono HB2.out.size)); clear ho0 hb hx1 hx2))
  go_ret
  exact ⟨rfl, HB3.out⟩
theorem caulklaw04_RsEach.calls (k : Nat) (a0 : Int) (a1 : Int) (A2 : Option Addr) (c2 : Nat) (l2 : List ByteArray) (a3 : Int) (a4 : Int) (a5 : Int) (r : Bool) (w : World) (hr2 : Kd.C Kd.string w A2 l2.length l2) (hc2 : l2.length ≤ c2) (h : caulklaw04_RsEach.f k a0 a1 l2 a3 a4 a5 = some r) :
    Calls Try.prog 11 #[.int .i64 a0, .int .i64 a1, .slice A2 l2.length c2, .int .i64 a3, .int .i64 a4, .int .u8 a5] w fun e w' => e = .returned (.bool r) ∧ Below w.heap.size w w' := by
  unfold caulklaw04_RsEach.f at h
  obtain ⟨t, hl, h⟩ := Option.bind_eq_some_iff.mp h
  by_cases ht : t = true
  · subst ht
    rw [if_pos rfl] at h
    obtain ⟨s, hs, h⟩ := Option.bind_eq_some_iff.mp h
    by_cases hc : s = true ∧ 0 ≤ a3 ∧ a3 < l2.length ∧ 0 ≤ a4 ∧ a4 < (rdOf ByteArray.empty l2 a3).size
    · rw [if_pos hc] at h
      obtain ⟨rfl, h3, h4, h5, h6⟩ := hc
      by_cases hd : l2.length ≤ 65536 ∧ (rdOf ByteArray.empty l2 a3).size ≤ 16384
      · rw [if_pos hd] at h
        obtain ⟨⟨P, y⟩, he, h⟩ := Option.bind_eq_some_iff.mp h
        dsimp only at h
        by_cases hy : y = 0
        · subst hy
          rw [if_pos rfl] at h
          obtain ⟨⟨Q, z⟩, hq, h⟩ := Option.bind_eq_some_iff.mp h
          dsimp only at h
          by_cases hz : z = 0 ∧ Q.length = P.length ∧ P.length ≤ 65536 ∧ eachOk P Q (rdOf ByteArray.empty l2 a3).size a4.toNat a5
          · rw [if_pos hz] at h
            obtain rfl := Option.some.inj h
            obtain ⟨rfl, hPQ, hPl, hk⟩ := hz
            obtain ⟨pn, rfl⟩ := Int.eq_ofNat_of_zero_le h3
            obtain ⟨an, rfl⟩ := Int.eq_ofNat_of_zero_le h5
            rw [Int.toNat_natCast] at hk hq
            rw [Int.toNat_natCast] at hq
            exact each_walk k a0 a1 A2 c2 l2 pn an a5 w hr2 hc2 hl hs (by omega) (by omega) hd.2 hd.1 P Q he hq hPQ hPl hk
          · rw [if_neg hz] at h; cases h
        · rw [if_neg hy] at h
          obtain rfl := Option.some.inj h
          exact each_err k a0 a1 A2 c2 l2 a3 a4 a5 w hr2 hc2 hl hs h3 h4 h5 h6 P y he hy
      · rw [if_neg hd] at h; cases h
    · rw [if_neg hc] at h
      obtain rfl := Option.some.inj h
      by_cases hst : s = true
      · subst hst
        by_cases h3 : 0 ≤ a3
        · by_cases h4 : a3 < l2.length
          · by_cases h5 : 0 ≤ a4
            · exact each_over k a0 a1 A2 c2 l2 a3 a4 a5 w hr2 hc2 hl hs h3 h4 h5 (fun h6 => hc ⟨rfl, h3, h4, h5, h6⟩)
            · exact each_under k a0 a1 A2 c2 l2 a3 a4 a5 w hr2 hc2 hl hs h3 h4 (by omega)
          · exact each_far k a0 a1 A2 c2 l2 a3 a4 a5 w hr2 hc2 hl hs (by omega)
        · exact each_neg k a0 a1 A2 c2 l2 a3 a4 a5 w hr2 hc2 hl hs (by omega)
      · obtain rfl := Bool.eq_false_iff.mpr hst
        exact each_big k a0 a1 A2 c2 l2 a3 a4 a5 w hr2 hc2 hl hs
  · rw [if_neg ht] at h; cases h
end Go.Proofs.Ytlobaomleocpjaa.G
