/- The check sum in plain Lean: bit by bit, by half bytes, and what it is of two lists one behind the other. -/
namespace Go.Proofs.YtjhlelcopofkkaaDoor

/-- One bit of the register goes by. -/
def crcStep (r : BitVec 32) : BitVec 32 := (r >>> 1) ^^^ (if r.getLsbD 0 then 0xEDB88320#32 else 0#32)
def crcSteps : Nat → BitVec 32 → BitVec 32
  | 0, r => r
  | n + 1, r => crcStep (crcSteps n r)
def b32 (b : UInt8) : BitVec 32 := BitVec.ofNat 32 b.toNat
def crcByte (r : BitVec 32) (b : UInt8) : BitVec 32 := crcSteps 8 (r ^^^ b32 b)
def crcRun (r : BitVec 32) (xs : List UInt8) : BitVec 32 := xs.foldl crcByte r
def crcMore (c : BitVec 32) (xs : List UInt8) : BitVec 32 := ~~~ (crcRun (~~~ c) xs)
def crc (xs : List UInt8) : BitVec 32 := crcMore 0#32 xs

theorem crcRun_append (r : BitVec 32) (xs ys : List UInt8) : crcRun r (xs ++ ys) = crcRun (crcRun r xs) ys := List.foldl_append
theorem crcRun_snoc (r : BitVec 32) (xs : List UInt8) (b : UInt8) : crcRun r (xs ++ [b]) = crcByte (crcRun r xs) b := by rw [crcRun_append]; rfl
theorem crcMore_append (c : BitVec 32) (xs ys : List UInt8) : crcMore (crcMore c xs) ys = crcMore c (xs ++ ys) := by
  unfold crcMore
  rw [BitVec.not_not, crcRun_append]

theorem crcStep_xor (x y : BitVec 32) : crcStep (x ^^^ y) = crcStep x ^^^ crcStep y := by
  unfold crcStep
  rw [BitVec.ushiftRight_xor_distrib, BitVec.getLsbD_xor]
  have h : (if (x.getLsbD 0 ^^ y.getLsbD 0) = true then 0xEDB88320#32 else 0#32) = (if x.getLsbD 0 = true then 0xEDB88320#32 else 0#32) ^^^ (if y.getLsbD 0 = true then 0xEDB88320#32 else 0#32) := by
    cases x.getLsbD 0 <;> cases y.getLsbD 0 <;> decide
  rw [h]
  ac_rfl
theorem crcSteps_xor (n : Nat) (x y : BitVec 32) : crcSteps n (x ^^^ y) = crcSteps n x ^^^ crcSteps n y := by
  induction n with
  | zero => rfl
  | succ n ih => simp only [crcSteps]; rw [ih, crcStep_xor]
theorem crcSteps_zero (n : Nat) : crcSteps n 0#32 = 0#32 := by
  induction n with
  | zero => rfl
  | succ n ih => simp only [crcSteps]; rw [ih]; decide
theorem crcSteps_add (m n : Nat) (x : BitVec 32) : crcSteps (m + n) x = crcSteps m (crcSteps n x) := by
  induction m with
  | zero => rw [Nat.zero_add]; rfl
  | succ m ih => rw [Nat.add_right_comm]; simp only [crcSteps]; rw [ih]
/-- Where the lowest bit is off, the register is only shifted. -/
theorem crcStep_even (x : BitVec 32) (h : x.getLsbD 0 = false) : crcStep x = x >>> 1 := by
  unfold crcStep; rw [h]; simp
theorem crcSteps_even (n : Nat) : ∀ x : BitVec 32, (∀ i, i < n → x.getLsbD i = false) → crcSteps n x = x >>> n := by
  induction n with
  | zero => intro x _; simp [crcSteps]
  | succ n ih =>
    intro x h
    simp only [crcSteps]
    rw [ih x (fun i hi => h i (by omega)), crcStep_even, BitVec.shiftRight_add]
    rw [BitVec.getLsbD_ushiftRight]
    exact h (n + 0) (by omega)

/-- The table of the half bytes. -/
def crcTab (i : Nat) : BitVec 32 := crcSteps 4 (BitVec.ofNat 32 i)
theorem and15 (x : BitVec 32) : (x &&& 15#32) = BitVec.ofNat 32 (x.toNat % 16) := by
  apply BitVec.eq_of_toNat_eq
  rw [BitVec.toNat_and]
  show x.toNat &&& (2 ^ 4 - 1) = _
  rw [Nat.and_two_pow_sub_one_eq_mod, BitVec.toNat_ofNat]
  omega
theorem and15_lt (x : BitVec 32) : (x &&& 15#32).toNat < 16 := by
  rw [and15, BitVec.toNat_ofNat]; omega
theorem split15 (x : BitVec 32) : x = (x &&& 15#32) ^^^ (x &&& ~~~ 15#32) := by
  apply BitVec.eq_of_getLsbD_eq
  intro i hi
  simp only [BitVec.getLsbD_xor, BitVec.getLsbD_and, BitVec.getLsbD_not]
  cases x.getLsbD i <;> cases (15#32).getLsbD i <;> simp [hi]
theorem crc_half (x : BitVec 32) : crcSteps 4 x = (x >>> 4) ^^^ crcTab (x &&& 15#32).toNat := by
  have h1 : crcSteps 4 (x &&& ~~~ 15#32) = x >>> 4 := by
    rw [crcSteps_even]
    · apply BitVec.eq_of_getLsbD_eq
      intro i hi
      simp only [BitVec.getLsbD_ushiftRight, BitVec.getLsbD_and, BitVec.getLsbD_not]
      by_cases h : 4 + i < 32
      · have h15 : (15#32).getLsbD (4 + i) = false := by
          simp only [BitVec.getLsbD_ofNat]
          have : Nat.testBit 15 (4 + i) = false := Nat.testBit_lt_two_pow (Nat.lt_of_lt_of_le (show 15 < 2 ^ 4 by decide) (Nat.pow_le_pow_right (by decide) (by omega)))
          simp [this]
        rw [h15]; simp [h]
      · rw [BitVec.getLsbD_of_ge x (4 + i) (by omega)]; rfl
    · intro i hi
      simp only [BitVec.getLsbD_and, BitVec.getLsbD_not]
      obtain rfl | rfl | rfl | rfl : i = 0 ∨ i = 1 ∨ i = 2 ∨ i = 3 := by omega
      all_goals simp
  conv => lhs; rw [split15 x, crcSteps_xor, h1]
  rw [BitVec.xor_comm]
  unfold crcTab
  rw [BitVec.ofNat_toNat, BitVec.setWidth_eq]
/-- A byte by two half bytes. -/
theorem crcByte_half (r : BitVec 32) (b : UInt8) :
    crcByte r b = ((((r ^^^ b32 b) >>> 4) ^^^ crcTab ((r ^^^ b32 b) &&& 15#32).toNat) >>> 4) ^^^ crcTab ((((r ^^^ b32 b) >>> 4) ^^^ crcTab ((r ^^^ b32 b) &&& 15#32).toNat) &&& 15#32).toNat := by
  unfold crcByte
  rw [show 8 = 4 + 4 from rfl, crcSteps_add, crc_half (r ^^^ b32 b), crc_half]

/-- One bit of what comes in. -/
def crcBit (b : BitVec 32) (k : Nat) (r : BitVec 32) : BitVec 32 := if (r &&& 1#32) ≠ ((b >>> k) &&& 1#32) then (r >>> 1) ^^^ 0xEDB88320#32 else r >>> 1
def crcBits (b : BitVec 32) : Nat → BitVec 32 → BitVec 32
  | 0, r => r
  | k + 1, r => crcBit b k (crcBits b k r)
theorem and1 (x : BitVec 32) : (x &&& 1#32) = if x.getLsbD 0 then 1#32 else 0#32 := by
  apply BitVec.eq_of_toNat_eq
  rw [BitVec.toNat_and]
  show x.toNat &&& 1 = _
  rw [Nat.and_one_is_mod]
  have h : x.getLsbD 0 = x.toNat.testBit 0 := rfl
  rw [h, Nat.testBit_zero]
  have : x.toNat % 2 = 0 ∨ x.toNat % 2 = 1 := by omega
  rcases this with e | e <;> simp [e]
theorem crcBits_steps (b : BitVec 32) (n : Nat) (r : BitVec 32) : crcSteps n (r ^^^ b) = crcBits b n r ^^^ (b >>> n) := by
  induction n with
  | zero => simp [crcSteps, crcBits]
  | succ n ih =>
    simp only [crcSteps, crcBits]
    rw [ih]
    generalize crcBits b n r = R
    unfold crcStep crcBit
    rw [BitVec.ushiftRight_xor_distrib, BitVec.getLsbD_xor, and1, and1, ← BitVec.shiftRight_add]
    cases R.getLsbD 0 <;> cases (b >>> n).getLsbD 0 <;> simp <;> ac_rfl
theorem crcBits_byte (r : BitVec 32) (b : UInt8) : crcBits (b32 b) 8 r = crcByte r b := by
  have h := crcBits_steps (b32 b) 8 r
  have h0 : b32 b >>> 8 = 0#32 := by
    apply BitVec.eq_of_toNat_eq
    have := b.toNat_lt
    simp only [b32, BitVec.toNat_ushiftRight, BitVec.toNat_ofNat, Nat.shiftRight_eq_div_pow]
    omega
  rw [h0, BitVec.xor_zero] at h
  exact h.symm
end Go.Proofs.YtjhlelcopofkkaaDoor
