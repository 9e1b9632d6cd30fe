/- Plain mathematics of the field of 256 elements. No condition. -/
namespace Go.Proofs.YteiiaonpdamkhaaDoor.GfM

def dbl (a : BitVec 8) : BitVec 8 := (a <<< 1) ^^^ (if a.msb then 0x1d#8 else 0#8)
theorem dbl_xor (a b : BitVec 8) : dbl (a ^^^ b) = dbl a ^^^ dbl b := by
  unfold dbl
  rw [BitVec.shiftLeft_xor_distrib, BitVec.msb_xor]
  generalize a <<< 1 = x
  generalize b <<< 1 = y
  generalize (0x1d#8 : BitVec 8) = p
  cases a.msb <;> cases b.msb <;> (ext i hi; simp only [BitVec.getElem_xor, Bool.xor_false, Bool.xor_true, Bool.not_true, Bool.not_false, if_true, Bool.false_eq_true, if_false]; cases x[i] <;> cases y[i] <;> cases p[i] <;> simp)
def mulk : Nat → BitVec 8 → BitVec 8 → BitVec 8
  | 0, _, _ => 0#8
  | k + 1, a, b => (if b.getLsbD 0 then a else 0#8) ^^^ mulk k (dbl a) (b >>> 1)
def mul (a b : BitVec 8) : BitVec 8 := mulk 8 a b
theorem xor_rot (a b c d : BitVec 8) : (a ^^^ b) ^^^ (c ^^^ d) = (a ^^^ c) ^^^ (b ^^^ d) := by
  ext i hi; simp only [BitVec.getElem_xor]; cases a[i] <;> cases b[i] <;> cases c[i] <;> cases d[i] <;> rfl
theorem mulk_xor_left (k : Nat) : ∀ a b c, mulk k (a ^^^ b) c = mulk k a c ^^^ mulk k b c := by
  induction k with
  | zero => intro a b c; simp [mulk]
  | succ k ih =>
    intro a b c
    simp only [mulk]
    rw [dbl_xor, ih, xor_rot]
    congr 1
    cases c.getLsbD 0 <;> simp
theorem mulk_xor_right (k : Nat) : ∀ a b c, mulk k a (b ^^^ c) = mulk k a b ^^^ mulk k a c := by
  induction k with
  | zero => intro a b c; simp [mulk]
  | succ k ih =>
    intro a b c
    simp only [mulk]
    rw [BitVec.ushiftRight_xor_distrib, ih, BitVec.getLsbD_xor, xor_rot]
    congr 1
    cases b.getLsbD 0 <;> cases c.getLsbD 0 <;> simp
theorem mul_xor_right (a b c : BitVec 8) : mul a (b ^^^ c) = mul a b ^^^ mul a c := mulk_xor_right 8 a b c
theorem mul_xor_left (a b c : BitVec 8) : mul (a ^^^ b) c = mul a c ^^^ mul b c := mulk_xor_left 8 a b c

theorem ofNat_split (j x y : Nat) (hx : x < 2 ^ j) : BitVec.ofNat 8 (x + 2 ^ j * y) = BitVec.ofNat 8 x ^^^ BitVec.ofNat 8 (2 ^ j * y) := by
  apply BitVec.eq_of_getLsbD_eq
  intro i hi
  simp only [BitVec.getLsbD_xor, BitVec.getLsbD_ofNat, hi, decide_true, Bool.true_and]
  rw [Nat.add_comm, Nat.testBit_two_pow_mul_add _ hx, Nat.testBit_two_pow_mul]
  by_cases hj : i < j
  · simp [hj, Nat.not_le.2 hj]
  · have : x.testBit i = false := Nat.testBit_lt_two_pow (Nat.lt_of_lt_of_le hx (Nat.pow_le_pow_right (by decide) (Nat.le_of_not_lt hj)))
    simp [hj, this, Nat.le_of_not_lt hj]
theorem lin_ext (f g : BitVec 8 → BitVec 8) (hf : ∀ a b, f (a ^^^ b) = f a ^^^ f b) (hg : ∀ a b, g (a ^^^ b) = g a ^^^ g b)
    (h : ∀ i, i < 8 → f (BitVec.ofNat 8 (2 ^ i)) = g (BitVec.ofNat 8 (2 ^ i))) : ∀ x, f x = g x := by
  have f0 : f 0#8 = 0#8 := by have := hf 0#8 0#8; simpa using this
  have g0 : g 0#8 = 0#8 := by have := hg 0#8 0#8; simpa using this
  have key : ∀ k, k ≤ 8 → ∀ n : Nat, n < 2 ^ k → f (BitVec.ofNat 8 n) = g (BitVec.ofNat 8 n) := by
    intro k
    induction k with
    | zero => intro _ n hn; have : n = 0 := by simpa using hn
              subst this; exact f0.trans g0.symm
    | succ k ih =>
      intro hk n hn
      have hp : 2 ^ (k + 1) = 2 ^ k * 2 := Nat.pow_succ ..
      have e : n = n % 2 ^ k + 2 ^ k * (n / 2 ^ k) := (Nat.mod_add_div n (2 ^ k)).symm
      have hlt := Nat.mod_lt n (Nat.two_pow_pos k)
      have e2 : BitVec.ofNat 8 n = BitVec.ofNat 8 (n % 2 ^ k) ^^^ BitVec.ofNat 8 (2 ^ k * (n / 2 ^ k)) := by rw [← ofNat_split k _ _ hlt, ← e]
      rw [e2, hf, hg, ih (by omega) _ hlt]
      congr 1
      have hq : n / 2 ^ k < 2 := (Nat.div_lt_iff_lt_mul (Nat.two_pow_pos k)).2 (by rw [Nat.mul_comm, ← hp]; exact hn)
      have h01 : ∀ q : Nat, q < 2 → q = 0 ∨ q = 1 := by intro q hq; omega
      rcases h01 _ hq with h0 | h1
      · rw [h0, Nat.mul_zero]; exact f0.trans g0.symm
      · rw [h1, Nat.mul_one]; exact h k (by omega)
  intro x
  have := key 8 (Nat.le_refl _) x.toNat x.isLt
  simpa using this

theorem basis_comm : ∀ i, i < 8 → ∀ j, j < 8 → mul (BitVec.ofNat 8 (2 ^ i)) (BitVec.ofNat 8 (2 ^ j)) = mul (BitVec.ofNat 8 (2 ^ j)) (BitVec.ofNat 8 (2 ^ i)) := by decide +kernel
theorem mul_comm (a b : BitVec 8) : mul a b = mul b a := by
  refine lin_ext (fun a => mul a b) (fun a => mul b a) (fun x y => mul_xor_left x y b) (fun x y => mul_xor_right b x y) (fun i hi => ?_) a
  exact lin_ext (fun b => mul (BitVec.ofNat 8 (2 ^ i)) b) (fun b => mul b (BitVec.ofNat 8 (2 ^ i))) (fun x y => mul_xor_right _ x y) (fun x y => mul_xor_left x y _) (fun j hj => basis_comm i hi j hj) b
theorem basis_assoc : ∀ i, i < 8 → ∀ j, j < 8 → ∀ k, k < 8 → mul (mul (BitVec.ofNat 8 (2 ^ i)) (BitVec.ofNat 8 (2 ^ j))) (BitVec.ofNat 8 (2 ^ k)) = mul (BitVec.ofNat 8 (2 ^ i)) (mul (BitVec.ofNat 8 (2 ^ j)) (BitVec.ofNat 8 (2 ^ k))) := by decide +kernel
theorem mul_assoc (a b c : BitVec 8) : mul (mul a b) c = mul a (mul b c) := by
  refine lin_ext (fun a => mul (mul a b) c) (fun a => mul a (mul b c)) (fun x y => ?_) (fun x y => mul_xor_left x y _) (fun i hi => ?_) a
  · show mul (mul (x ^^^ y) b) c = _; rw [mul_xor_left, mul_xor_left]
  refine lin_ext (fun b => mul (mul (BitVec.ofNat 8 (2 ^ i)) b) c) (fun b => mul (BitVec.ofNat 8 (2 ^ i)) (mul b c)) (fun x y => ?_) (fun x y => ?_) (fun j hj => ?_) b
  · show mul (mul _ (x ^^^ y)) c = _; rw [mul_xor_right, mul_xor_left]
  · show mul _ (mul (x ^^^ y) c) = _; rw [mul_xor_left, mul_xor_right]
  exact lin_ext (fun c => mul (mul (BitVec.ofNat 8 (2 ^ i)) (BitVec.ofNat 8 (2 ^ j))) c) (fun c => mul (BitVec.ofNat 8 (2 ^ i)) (mul (BitVec.ofNat 8 (2 ^ j)) c)) (fun x y => mul_xor_right _ x y) (fun x y => by show mul _ (mul _ (x ^^^ y)) = _; rw [mul_xor_right, mul_xor_right]) (fun k hk => basis_assoc i hi j hj k hk) c
theorem one_mul_all : ∀ i, i < 256 → mul 1#8 (BitVec.ofNat 8 i) = BitVec.ofNat 8 i := by decide +kernel
theorem one_mul (a : BitVec 8) : mul 1#8 a = a := by have := one_mul_all a.toNat a.isLt; simpa using this
theorem mul_one (a : BitVec 8) : mul a 1#8 = a := by rw [mul_comm, one_mul]
theorem mulk_zero (k : Nat) : ∀ b, mulk k 0#8 b = 0#8 := by
  induction k with
  | zero => intro b; rfl
  | succ k ih => intro b; simp only [mulk]; rw [show dbl 0#8 = 0#8 from by decide, ih]; simp
theorem zero_mul (a : BitVec 8) : mul 0#8 a = 0#8 := mulk_zero 8 a
theorem mul_zero (a : BitVec 8) : mul a 0#8 = 0#8 := by rw [mul_comm, zero_mul]

/-- powers by squares, as the program has them -/
def pwk : Nat → BitVec 8 → Nat → BitVec 8 → BitVec 8
  | 0, p, _, _ => p
  | k + 1, p, n, a => pwk k (if n % 2 = 1 then mul p a else p) (n / 2) (mul a a)
def inv (a : BitVec 8) : BitVec 8 := pwk 8 1#8 254 a
theorem inv_all : ∀ i, i < 256 → i ≠ 0 → mul (BitVec.ofNat 8 i) (inv (BitVec.ofNat 8 i)) = 1#8 := by decide +kernel
theorem mul_inv (a : BitVec 8) (h : a ≠ 0#8) : mul a (inv a) = 1#8 := by
  have := inv_all a.toNat a.isLt (fun e => h (BitVec.eq_of_toNat_eq (by simpa using e)))
  simpa using this
theorem mul_eq_zero {a b : BitVec 8} (h : mul a b = 0#8) : a = 0#8 ∨ b = 0#8 := by
  by_cases ha : a = 0#8
  · exact .inl ha
  · refine .inr ?_
    have := congrArg (mul (inv a)) h
    rwa [← mul_assoc, mul_comm (inv a), mul_inv a ha, one_mul, mul_zero] at this
theorem mul_cancel {a b c : BitVec 8} (ha : a ≠ 0#8) (h : mul a b = mul a c) : b = c := by
  have := congrArg (mul (inv a)) h
  rwa [← mul_assoc, ← mul_assoc, mul_comm (inv a), mul_inv a ha, one_mul, one_mul] at this

end Go.Proofs.YteiiaonpdamkhaaDoor.GfM
