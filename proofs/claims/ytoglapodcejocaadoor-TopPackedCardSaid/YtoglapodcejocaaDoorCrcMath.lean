/- Plain mathematics of the 32 bit sums and of products modulo their polynomial. No condition. -/
namespace Go.Proofs.YtoglapodcejocaaDoor.CrcM

def poly : BitVec 32 := 0x82f63b78#32
/-- a rest takes a bit 0 in -/
def st (r : BitVec 32) : BitVec 32 := (r >>> 1) ^^^ (if r.getLsbD 0 then poly else 0#32)

theorem xor4 (x y p : BitVec 32) : x ^^^ p ^^^ (y ^^^ p) = x ^^^ y := by
  ext i hi; simp only [BitVec.getElem_xor]; cases x[i] <;> cases y[i] <;> cases p[i] <;> rfl

theorem st_xor (a b : BitVec 32) : st (a ^^^ b) = st a ^^^ st b := by
  unfold st
  rw [BitVec.ushiftRight_xor_distrib, BitVec.getLsbD_xor]
  generalize a >>> 1 = x
  generalize b >>> 1 = y
  cases a.getLsbD 0 <;> cases b.getLsbD 0 <;> simp only [Bool.xor_false, Bool.xor_true, Bool.not_true, Bool.not_false, if_true, Bool.false_eq_true, if_false, BitVec.xor_zero]
  · rw [BitVec.xor_assoc]
  · rw [BitVec.xor_assoc, BitVec.xor_assoc, BitVec.xor_comm y poly]
  · exact (xor4 x y poly).symm

theorem st_zero : st 0#32 = 0#32 := by decide

theorem getLsb0 (r : BitVec 32) : r.getLsbD 0 = decide (r.toNat % 2 = 1) := by
  rw [BitVec.getLsbD, Nat.testBit_zero]

theorem st_eq_zero {r : BitVec 32} (h : st r = 0#32) : r = 0#32 := by
  unfold st at h
  rw [getLsb0] at h
  have hr := r.isLt
  by_cases hb : r.toNat % 2 = 1
  · simp only [hb, decide_true, if_true] at h
    have h2 : r >>> 1 = poly := by
      have := congrArg (· ^^^ poly) h
      simpa [BitVec.xor_assoc] using this
    have h3 := congrArg BitVec.toNat h2
    rw [BitVec.toNat_ushiftRight, Nat.shiftRight_eq_div_pow] at h3
    have : poly.toNat = 2197175160 := by decide
    omega
  · simp only [hb, decide_false, Bool.false_eq_true, if_false, BitVec.xor_zero] at h
    have h3 := congrArg BitVec.toNat h
    rw [BitVec.toNat_ushiftRight, Nat.shiftRight_eq_div_pow] at h3
    apply BitVec.eq_of_toNat_eq
    simp at h3 ⊢
    omega

def stn : Nat → BitVec 32 → BitVec 32
  | 0, r => r
  | n + 1, r => stn n (st r)

theorem stn_add (m n : Nat) : ∀ r, stn (m + n) r = stn n (stn m r) := by
  induction m with
  | zero => intro r; simp [stn]
  | succ m ih => intro r; rw [show m + 1 + n = (m + n) + 1 from by omega]; simp only [stn]; exact ih _
theorem stn_xor (n : Nat) : ∀ a b, stn n (a ^^^ b) = stn n a ^^^ stn n b := by
  induction n with
  | zero => intro a b; rfl
  | succ n ih => intro a b; simp only [stn]; rw [st_xor, ih]
theorem stn_zero (n : Nat) : stn n 0#32 = 0#32 := by
  induction n with
  | zero => rfl
  | succ n ih => simp only [stn]; rw [st_zero, ih]
theorem stn_eq_zero (n : Nat) : ∀ {r}, stn n r = 0#32 → r = 0#32 := by
  induction n with
  | zero => intro r h; exact h
  | succ n ih => intro r h; exact st_eq_zero (ih h)
theorem xor_eq_zero {n : Nat} {a b : BitVec n} : a ^^^ b = 0#n ↔ a = b := by
  constructor
  · intro h
    have := congrArg (· ^^^ b) h
    simpa [BitVec.xor_assoc] using this
  · rintro rfl; simp
theorem stn_inj (n : Nat) {a b : BitVec 32} (h : stn n a = stn n b) : a = b := by
  apply xor_eq_zero.1
  apply stn_eq_zero n
  rw [stn_xor, h, BitVec.xor_self]

/-- what has its lowest bit 0 is shifted alone -/
theorem st_even (c : Nat) (h : 2 * c < 2 ^ 32) : st (BitVec.ofNat 32 (2 * c)) = BitVec.ofNat 32 c := by
  have e : (BitVec.ofNat 32 (2 * c)).getLsbD 0 = false := by
    rw [getLsb0]; simp [Nat.mod_eq_of_lt h]
  unfold st
  rw [e]
  apply BitVec.eq_of_toNat_eq
  simp only [Bool.false_eq_true, if_false, BitVec.xor_zero, BitVec.toNat_ushiftRight, BitVec.toNat_ofNat, Nat.shiftRight_eq_div_pow]
  rw [Nat.mod_eq_of_lt h, Nat.mod_eq_of_lt (by omega)]
  omega

theorem stn_even (k : Nat) : ∀ c : Nat, 2 ^ k * c < 2 ^ 32 → stn k (BitVec.ofNat 32 (2 ^ k * c)) = BitVec.ofNat 32 c := by
  induction k with
  | zero => intro c _; simp [stn]
  | succ k ih =>
    intro c h
    have e : 2 ^ (k + 1) * c = 2 * (2 ^ k * c) := by rw [Nat.pow_succ]; rw [Nat.mul_comm (2 ^ k) 2, Nat.mul_assoc]
    rw [e] at h ⊢
    simp only [stn]
    rw [st_even _ h]
    exact ih c (by omega)

theorem ofNat_split (j x y : Nat) (hx : x < 2 ^ j) : BitVec.ofNat 32 (x + 2 ^ j * y) = BitVec.ofNat 32 x ^^^ BitVec.ofNat 32 (2 ^ j * y) := by
  apply BitVec.eq_of_getLsbD_eq
  intro i hi
  simp only [BitVec.getLsbD_xor, BitVec.getLsbD_ofNat, hi, decide_true, Bool.true_and]
  rw [Nat.add_comm, Nat.testBit_two_pow_mul_add _ hx, Nat.testBit_two_pow_mul]
  by_cases hj : i < j
  · simp [hj, Nat.not_le.2 hj]
  · have : x.testBit i = false := Nat.testBit_lt_two_pow (Nat.lt_of_lt_of_le hx (Nat.pow_le_pow_right (by decide) (Nat.le_of_not_lt hj)))
    simp [hj, this, Nat.le_of_not_lt hj]

/-- bits are taken in, the lowest one first -/
def fd : Nat → BitVec 32 → Nat → BitVec 32
  | 0, r, _ => r
  | k + 1, r, b => fd k (st (r ^^^ BitVec.ofNat 32 (b % 2))) (b / 2)

theorem fd_stn (k : Nat) : ∀ (r : BitVec 32) (b : Nat), k ≤ 32 → b < 2 ^ k → fd k r b = stn k (r ^^^ BitVec.ofNat 32 b) := by
  induction k with
  | zero => intro r b _ hb; have : b = 0 := by simpa using hb
            subst this; simp [fd, stn]
  | succ k ih =>
    intro r b hk hb
    have hp : 2 ^ (k + 1) = 2 * 2 ^ k := by rw [Nat.pow_succ, Nat.mul_comm]
    have h32 : 2 ^ (k + 1) ≤ 2 ^ 32 := Nat.pow_le_pow_right (by decide) hk
    simp only [fd, stn]
    rw [ih _ _ (by omega) (by omega)]
    have e : BitVec.ofNat 32 b = BitVec.ofNat 32 (b % 2) ^^^ BitVec.ofNat 32 (2 * (b / 2)) := by
      have := ofNat_split 1 (b % 2) (b / 2) (by omega)
      rw [show b % 2 + 2 ^ 1 * (b / 2) = b from by omega, show (2 ^ 1 * (b / 2)) = 2 * (b / 2) from by omega] at this
      exact this
    rw [e, ← BitVec.xor_assoc, st_xor (r ^^^ BitVec.ofNat 32 (b % 2)), st_even (b / 2) (by omega)]

theorem fd_add (j : Nat) : ∀ (k : Nat) (r : BitVec 32) (b : Nat), fd (j + k) r b = fd k (fd j r b) (b / 2 ^ j) := by
  induction j with
  | zero => intro k r b; simp [fd]
  | succ j ih =>
    intro k r b
    rw [show j + 1 + k = (j + k) + 1 from by omega]
    simp only [fd]
    rw [ih, Nat.div_div_eq_div_mul, Nat.pow_succ, Nat.mul_comm 2]

theorem fd_mod (j : Nat) : ∀ (r : BitVec 32) (b c : Nat), fd j r (b + 2 ^ j * c) = fd j r b := by
  induction j with
  | zero => intro r b c; simp [fd]
  | succ j ih =>
    intro r b c
    simp only [fd]
    have hp : 2 ^ (j + 1) * c = 2 * (2 ^ j * c) := by rw [Nat.pow_succ, Nat.mul_comm (2 ^ j) 2, Nat.mul_assoc]
    rw [hp, show (b + 2 * (2 ^ j * c)) % 2 = b % 2 from by omega, show (b + 2 * (2 ^ j * c)) / 2 = b / 2 + 2 ^ j * c from by omega, ih]

theorem fd_nought (j : Nat) : ∀ (r : BitVec 32), fd j r 0 = stn j r := by
  induction j with
  | zero => intro r; rfl
  | succ j ih => intro r; simp only [fd, stn]; rw [show (0 : Nat) % 2 = 0 from rfl, show (0 : Nat) / 2 = 0 from rfl, ih]; simp

/-- a byte is taken in -/
def byt (r : BitVec 32) (c : UInt8) : BitVec 32 := stn 8 (r ^^^ BitVec.ofNat 32 c.toNat)
def add (r : BitVec 32) (l : List UInt8) : BitVec 32 := l.foldl byt r
def ones : BitVec 32 := 0xffffffff#32
def sum (l : List UInt8) : BitVec 32 := ~~~ (add ones l)

theorem add_append (r : BitVec 32) (a b : List UInt8) : add r (a ++ b) = add (add r a) b := by simp [add]

theorem byt_fd (r : BitVec 32) (c : UInt8) : byt r c = fd 8 r c.toNat := (fd_stn 8 r c.toNat (by decide) c.toNat_lt).symm

/-- bytes as one number, the first one lowest -/
def num : List UInt8 → Nat
  | [] => 0
  | c :: l => c.toNat + 256 * num l
theorem num_lt : ∀ l, num l < 2 ^ (8 * l.length)
  | [] => by simp [num]
  | c :: l => by
    have := num_lt l
    have hc := c.toNat_lt
    rw [List.length_cons, show 8 * (l.length + 1) = 8 * l.length + 8 from by omega, Nat.pow_add]
    simp only [num]
    omega
theorem add_fd : ∀ (l : List UInt8) (r : BitVec 32), add r l = fd (8 * l.length) r (num l)
  | [], r => rfl
  | c :: l, r => by
    have hc := c.toNat_lt
    rw [show add r (c :: l) = add (byt r c) l from rfl, add_fd l, byt_fd, List.length_cons, show 8 * (l.length + 1) = 8 + 8 * l.length from by omega, fd_add]
    simp only [num]
    rw [show (c.toNat + 256 * num l) / 2 ^ 8 = num l from by omega, show (c.toNat + 256 * num l) = c.toNat + 2 ^ 8 * num l from by omega, fd_mod]

theorem fd_xor (k : Nat) : ∀ (r s : BitVec 32) (a b : Nat), fd k (r ^^^ s) (a ^^^ b) = fd k r a ^^^ fd k s b := by
  induction k with
  | zero => intro r s a b; rfl
  | succ k ih =>
    intro r s a b
    simp only [fd]
    have e1 : BitVec.ofNat 32 ((a ^^^ b) % 2) = BitVec.ofNat 32 (a % 2) ^^^ BitVec.ofNat 32 (b % 2) := by
      rw [show (a ^^^ b) % 2 = (a % 2) ^^^ (b % 2) from by rw [← Nat.and_one_is_mod, ← Nat.and_one_is_mod, ← Nat.and_one_is_mod, Nat.and_xor_distrib_right]]
      rcases Nat.mod_two_eq_zero_or_one a with h | h <;> rcases Nat.mod_two_eq_zero_or_one b with h' | h' <;> rw [h, h'] <;> rfl
    rw [e1, show (a ^^^ b) / 2 = (a / 2) ^^^ (b / 2) from by
      have := Nat.shiftRight_xor_distrib (a := a) (b := b) (i := 1)
      simpa [Nat.shiftRight_eq_div_pow] using this]
    rw [← ih, ← st_xor]
    congr 2
    ext i hi
    simp only [BitVec.getElem_xor]
    cases r[i] <;> cases s[i] <;> cases (BitVec.ofNat 32 (a % 2))[i] <;> cases (BitVec.ofNat 32 (b % 2))[i] <;> rfl

theorem fd_zeros (j : Nat) : ∀ (k : Nat) (b : Nat), fd (j + k) 0#32 (2 ^ j * b) = fd k 0#32 b := by
  intro k b
  rw [fd_add]
  have h := fd_mod j 0#32 0 b
  rw [Nat.zero_add] at h
  rw [h, fd_nought, stn_zero, Nat.mul_div_cancel_left _ (Nat.two_pow_pos j)]

/-- FOUND: what differs by a burst has another rest. -/
theorem burst_found (n at_ B : Nat) (hB : B < 2 ^ 32) (hn : 2 ^ at_ * B < 2 ^ n) (h : fd n 0#32 (2 ^ at_ * B) = 0#32) : B = 0 := by
  by_cases h0 : B = 0
  · exact h0
  have hle : at_ ≤ n := by
    apply Nat.le_of_lt
    apply (Nat.pow_lt_pow_iff_right (a := 2) (by decide)).1
    exact Nat.lt_of_le_of_lt (Nat.le_mul_of_pos_right _ (Nat.pos_of_ne_zero h0)) hn
  obtain ⟨m, rfl⟩ : ∃ m, n = at_ + m := ⟨n - at_, by omega⟩
  rw [fd_zeros] at h
  have hm : B < 2 ^ m := by
    rw [Nat.pow_add] at hn
    exact Nat.lt_of_mul_lt_mul_left hn
  have hz : BitVec.ofNat 32 B = 0#32 := by
    by_cases h32 : m ≤ 32
    · rw [fd_stn m _ _ h32 hm] at h
      have := stn_eq_zero m h
      simpa using this
    · obtain ⟨q, rfl⟩ : ∃ q, m = 32 + q := ⟨m - 32, by omega⟩
      rw [fd_add, Nat.div_eq_of_lt hB, fd_nought] at h
      have h2 := stn_eq_zero q h
      rw [fd_stn 32 _ _ (by decide) hB] at h2
      have := stn_eq_zero 32 h2
      simpa using this
  have := congrArg BitVec.toNat hz
  simp [Nat.mod_eq_of_lt hB] at this
  exact this

/-! the tables' step: four bits -/
def table : List Nat := [0, 274646895, 549293790, 820201905, 1098587580, 1361435347, 1640403810, 1905808397, 2197175160, 2460548119, 2722870694, 2987750089, 3280807620, 3553878443, 3811616794, 4084100981]
theorem table_stn : ∀ x, x < 16 → stn 4 (BitVec.ofNat 32 x) = BitVec.ofNat 32 (table.getD x 0) := by decide
theorem half_step (r : BitVec 32) : BitVec.ofNat 32 (r.toNat / 16) ^^^ BitVec.ofNat 32 (table.getD (r.toNat % 16) 0) = stn 4 r := by
  have hr := r.isLt
  have e : r = BitVec.ofNat 32 (r.toNat % 16) ^^^ BitVec.ofNat 32 (2 ^ 4 * (r.toNat / 16)) := by
    rw [← ofNat_split 4 _ _ (by omega)]
    apply BitVec.eq_of_toNat_eq
    rw [BitVec.toNat_ofNat, Nat.mod_eq_of_lt (by omega)]
    omega
  conv => rhs; rw [e]
  rw [stn_xor, stn_even 4 _ (by omega), ← table_stn _ (by omega), BitVec.xor_comm]

end Go.Proofs.YtoglapodcejocaaDoor.CrcM
namespace Go.Proofs.YtoglapodcejocaaDoor.CrcM

theorem lin_ext (f g : BitVec 32 → BitVec 32) (hf : ∀ a b, f (a ^^^ b) = f a ^^^ f b) (hg : ∀ a b, g (a ^^^ b) = g a ^^^ g b)
    (h : ∀ i, i < 32 → f (BitVec.ofNat 32 (2 ^ i)) = g (BitVec.ofNat 32 (2 ^ i))) : ∀ x, f x = g x := by
  have f0 : f 0#32 = 0#32 := by have := hf 0#32 0#32; simpa using this
  have g0 : g 0#32 = 0#32 := by have := hg 0#32 0#32; simpa using this
  have key : ∀ k, k ≤ 32 → ∀ n : Nat, n < 2 ^ k → f (BitVec.ofNat 32 n) = g (BitVec.ofNat 32 n) := by
    intro k
    induction k with
    | zero => intro _ n hn; have : n = 0 := by simpa using hn
              subst this; rw [f0, g0]
    | succ k ih =>
      intro hk n hn
      have hp : 2 ^ (k + 1) = 2 ^ k * 2 := Nat.pow_succ ..
      have e : n = n % 2 ^ k + 2 ^ k * (n / 2 ^ k) := (Nat.mod_add_div n (2 ^ k)).symm
      have hlt := Nat.mod_lt n (Nat.two_pow_pos k)
      have e2 : BitVec.ofNat 32 n = BitVec.ofNat 32 (n % 2 ^ k) ^^^ BitVec.ofNat 32 (2 ^ k * (n / 2 ^ k)) := by rw [← ofNat_split k _ _ hlt, ← e]
      rw [e2, hf, hg, ih (by omega) _ hlt]
      congr 1
      have hq : n / 2 ^ k < 2 := (Nat.div_lt_iff_lt_mul (Nat.two_pow_pos k)).2 (by rw [Nat.mul_comm, ← hp]; exact hn)
      have h01 : ∀ q : Nat, q < 2 → q = 0 ∨ q = 1 := by intro q hq; omega
      rcases h01 _ hq with h0 | h1
      · rw [h0, Nat.mul_zero]; exact f0.trans g0.symm
      · rw [h1, Nat.mul_one]; exact h k (by omega)
  intro x
  have := key 32 (Nat.le_refl _) x.toNat x.isLt
  simpa using this

def one : BitVec 32 := 0x80000000#32
def mulk : Nat → BitVec 32 → BitVec 32 → BitVec 32
  | 0, _, _ => 0#32
  | k + 1, a, b => (if a.msb then b else 0#32) ^^^ mulk k (a <<< 1) (st b)
def mul (a b : BitVec 32) : BitVec 32 := mulk 32 a b

theorem xor_rot (a b c d : BitVec 32) : (a ^^^ b) ^^^ (c ^^^ d) = (a ^^^ c) ^^^ (b ^^^ d) := by
  ext i hi; simp only [BitVec.getElem_xor]; cases a[i] <;> cases b[i] <;> cases c[i] <;> cases d[i] <;> rfl
theorem mulk_xor_right (k : Nat) : ∀ a b c, mulk k a (b ^^^ c) = mulk k a b ^^^ mulk k a c := by
  induction k with
  | zero => intro a b c; simp [mulk]
  | succ k ih =>
    intro a b c
    simp only [mulk]
    rw [st_xor, ih, xor_rot]
    congr 1
    cases a.msb <;> simp
theorem mulk_xor_left (k : Nat) : ∀ a b c, mulk k (a ^^^ b) c = mulk k a c ^^^ mulk k b c := by
  induction k with
  | zero => intro a b c; simp [mulk]
  | succ k ih =>
    intro a b c
    simp only [mulk]
    rw [BitVec.shiftLeft_xor_distrib, ih, BitVec.msb_xor, xor_rot]
    congr 1
    cases a.msb <;> cases b.msb <;> simp
theorem mulk_zero (k : Nat) : ∀ b, mulk k 0#32 b = 0#32 := by
  induction k with
  | zero => intro b; rfl
  | succ k ih => intro b; simp only [mulk]; rw [BitVec.zero_shiftLeft, ih]; simp
theorem mul_xor_right (a b c : BitVec 32) : mul a (b ^^^ c) = mul a b ^^^ mul a c := mulk_xor_right 32 a b c
theorem mul_xor_left (a b c : BitVec 32) : mul (a ^^^ b) c = mul a c ^^^ mul b c := mulk_xor_left 32 a b c
theorem mulk_st (k : Nat) : ∀ a b, mulk k a (st b) = st (mulk k a b) := by
  induction k with
  | zero => intro a b; simp [mulk, st_zero]
  | succ k ih =>
    intro a b
    simp only [mulk]
    rw [ih, st_xor]
    congr 1
    cases a.msb <;> simp [st_zero]
theorem mul_st (a b : BitVec 32) : mul a (st b) = st (mul a b) := mulk_st 32 a b
theorem mul_stn (n : Nat) : ∀ a b, mul a (stn n b) = stn n (mul a b) := by
  induction n with
  | zero => intro a b; rfl
  | succ n ih => intro a b; simp only [stn]; rw [ih, mul_st]

set_option maxRecDepth 100000 in
theorem basis_comm : ∀ i, i < 32 → ∀ j, j < 32 → mul (BitVec.ofNat 32 (2 ^ i)) (BitVec.ofNat 32 (2 ^ j)) = mul (BitVec.ofNat 32 (2 ^ j)) (BitVec.ofNat 32 (2 ^ i)) := by decide +kernel
theorem mul_comm (a b : BitVec 32) : mul a b = mul b a := by
  refine lin_ext (fun a => mul a b) (fun a => mul b a) (fun x y => mul_xor_left x y b) (fun x y => mul_xor_right b x y) (fun i hi => ?_) a
  exact lin_ext (fun b => mul (BitVec.ofNat 32 (2 ^ i)) b) (fun b => mul b (BitVec.ofNat 32 (2 ^ i))) (fun x y => mul_xor_right _ x y) (fun x y => mul_xor_left x y _) (fun j hj => basis_comm i hi j hj) b
theorem mul_one_left (b : BitVec 32) : mul one b = b := by
  have : ∀ k b, mulk (k + 1) one b = b := by
    intro k b
    simp only [mulk]
    rw [show one <<< 1 = 0#32 from by decide, mulk_zero, show one.msb = true from by decide]; simp
  exact this 31 b
theorem mul_one_right (b : BitVec 32) : mul b one = b := by rw [mul_comm, mul_one_left]
set_option maxRecDepth 100000 in
theorem basis_one : ∀ i, i < 32 → BitVec.ofNat 32 (2 ^ i) = stn (31 - i) one := by decide +kernel
theorem stn_mul (n : Nat) (a b : BitVec 32) : mul (stn n a) b = stn n (mul a b) := by rw [mul_comm, mul_stn, mul_comm]
theorem mul_assoc (a b c : BitVec 32) : mul (mul a b) c = mul a (mul b c) := by
  refine lin_ext (fun a => mul (mul a b) c) (fun a => mul a (mul b c)) (fun x y => ?_) (fun x y => mul_xor_left x y _) (fun i hi => ?_) a
  · show mul (mul (x ^^^ y) b) c = _; rw [mul_xor_left, mul_xor_left]
  · show mul (mul (BitVec.ofNat 32 (2 ^ i)) b) c = mul (BitVec.ofNat 32 (2 ^ i)) (mul b c)
    rw [basis_one i hi, stn_mul, stn_mul, mul_one_left, stn_mul, mul_one_left]

def pw (x : BitVec 32) : Nat → BitVec 32
  | 0 => one
  | n + 1 => mul x (pw x n)
theorem pw_add (x : BitVec 32) (m : Nat) : ∀ n, pw x (m + n) = mul (pw x m) (pw x n) := by
  induction m with
  | zero => intro n; rw [Nat.zero_add]; exact (mul_one_left _).symm
  | succ m ih => intro n; rw [show m + 1 + n = (m + n) + 1 from by omega]; simp only [pw]; rw [ih, mul_assoc]
theorem pw_sq (x : BitVec 32) (n : Nat) : pw (mul x x) n = pw x (2 * n) := by
  induction n with
  | zero => rfl
  | succ n ih => rw [show 2 * (n + 1) = (2 * n + 1) + 1 from by omega]; simp only [pw]; rw [ih, mul_assoc]
/-- one round of the squares' loop -/
theorem pw_round (p x : BitVec 32) (n : Nat) : mul p (pw x n) = mul (if n % 2 = 1 then mul p x else p) (pw (mul x x) (n / 2)) := by
  rw [pw_sq]
  by_cases h : n % 2 = 1
  · rw [if_pos h, mul_assoc]
    congr 1
    conv => lhs; rw [show n = 1 + 2 * (n / 2) from by omega, pw_add]
    simp only [pw]; rw [mul_one_right]
  · rw [if_neg h, show 2 * (n / 2) = n from by omega]

def byte1 : BitVec 32 := 0x800000#32
theorem byte1_stn : byte1 = stn 8 one := by decide
theorem pw_byte1 (n : Nat) : pw byte1 n = stn (8 * n) one := by
  induction n with
  | zero => rfl
  | succ n ih =>
    simp only [pw]
    rw [ih, byte1_stn, stn_mul, mul_one_left, ← stn_add]
    congr 1
theorem mul_pw_byte1 (a : BitVec 32) (n : Nat) : mul a (pw byte1 n) = stn (8 * n) a := by
  rw [pw_byte1, mul_stn, mul_one_right]
def over : BitVec 32 := 0x05ec76f1#32
theorem st_over : st over = one := by decide
theorem over_byte1 : mul (pw over 8) byte1 = one := by decide +kernel
theorem pw_mul (x y : BitVec 32) (n : Nat) : mul (pw x n) (pw y n) = pw (mul x y) n := by
  induction n with
  | zero => exact mul_one_left _
  | succ n ih =>
    simp only [pw]
    rw [← ih, mul_assoc, mul_assoc]
    congr 1
    rw [← mul_assoc, mul_comm (pw x n) y, mul_assoc]
theorem pw_one (n : Nat) : pw one n = one := by
  induction n with
  | zero => rfl
  | succ n ih => simp only [pw]; rw [ih, mul_one_left]
/-- back is back -/
theorem back_stn (a : BitVec 32) (n : Nat) : stn (8 * n) (mul a (pw (pw over 8) n)) = a := by
  rw [← mul_pw_byte1, mul_assoc, pw_mul, over_byte1, pw_one, mul_one_right]

def unbit (x : BitVec 32) : BitVec 32 := if x.msb then ((x ^^^ poly) <<< 1) ||| 1#32 else x <<< 1

end Go.Proofs.YtoglapodcejocaaDoor.CrcM
namespace Go.Proofs.YtoglapodcejocaaDoor.CrcM
theorem add_lin (l : List UInt8) : ∀ r, add r l = stn (8 * l.length) r ^^^ add 0#32 l := by
  intro r
  have h := fd_xor (8 * l.length) r 0#32 0 (num l)
  rw [add_fd, add_fd, ← fd_nought]
  simpa using h
theorem not_xor (a b : BitVec 32) : (~~~ a) ^^^ (~~~ b) = a ^^^ b := by
  ext i hi; simp
theorem stn_not (n : Nat) (a : BitVec 32) : stn n (~~~ a) = stn n a ^^^ stn n ones := by
  rw [← stn_xor]
  congr 1
  rw [show ones = BitVec.allOnes 32 from by decide, BitVec.xor_allOnes]
/-- what is joined of two texts' sums is the sum of both -/
theorem join_sum (s t : List UInt8) : stn (8 * t.length) (sum s) ^^^ sum t = sum (s ++ t) := by
  unfold sum
  rw [stn_not, add_append, add_lin t ones, add_lin t (add ones s)]
  generalize stn (8 * t.length) (add ones s) = a
  generalize stn (8 * t.length) ones = b
  generalize add 0#32 t = c
  ext i hi; simp only [BitVec.getElem_xor, BitVec.getElem_not]; cases a[i] <;> cases b[i] <;> cases c[i] <;> rfl
end Go.Proofs.YtoglapodcejocaaDoor.CrcM
