/- The check sum sees every burst of at most 32 bits. -/
import Derived.Test.YtjhlelcopofkkaaDoorCrc
namespace Go.Proofs.YtjhlelcopofkkaaDoor
/-! Bit by bit. -/
def bit32 (b : Bool) : BitVec 32 := if b then 1#32 else 0#32
def bitRun (r : BitVec 32) (bs : List Bool) : BitVec 32 := bs.foldl (fun r b => crcStep (r ^^^ bit32 b)) r
theorem bitRun_append (r : BitVec 32) (xs ys : List Bool) : bitRun r (xs ++ ys) = bitRun (bitRun r xs) ys := List.foldl_append
theorem bitRun_cons (r : BitVec 32) (b : Bool) (bs : List Bool) : bitRun r (b :: bs) = bitRun (crcStep (r ^^^ bit32 b)) bs := rfl
/-- The eight bits of a byte, the lowest first. -/
def bits8 (b : UInt8) : List Bool := (List.range 8).map fun k => (b32 b).getLsbD k
def bitsOf (xs : List UInt8) : List Bool := (xs.map bits8).flatten
theorem crcBit_step (b : BitVec 32) (k : Nat) (r : BitVec 32) : crcBit b k r = crcStep (r ^^^ bit32 (b.getLsbD k)) := by
  unfold crcBit crcStep bit32
  rw [and1, and1, BitVec.getLsbD_xor, BitVec.ushiftRight_xor_distrib]
  have e : (b >>> k).getLsbD 0 = b.getLsbD k := by rw [BitVec.getLsbD_ushiftRight]; rfl
  rw [e]
  cases r.getLsbD 0 <;> cases b.getLsbD k <;> simp
theorem crcBits_run (b : BitVec 32) (n : Nat) (r : BitVec 32) : crcBits b n r = bitRun r ((List.range n).map fun k => b.getLsbD k) := by
  induction n with
  | zero => rfl
  | succ n ih => rw [List.range_succ, List.map_append, bitRun_append, ← ih]; simp only [crcBits]; rw [crcBit_step]; rfl
theorem crcByte_bits (r : BitVec 32) (b : UInt8) : crcByte r b = bitRun r (bits8 b) := by rw [← crcBits_byte, crcBits_run]; rfl
theorem crcRun_bits (r : BitVec 32) (xs : List UInt8) : crcRun r xs = bitRun r (bitsOf xs) := by
  induction xs generalizing r with
  | nil => rfl
  | cons x xs ih =>
    show crcRun (crcByte r x) xs = _
    rw [ih, crcByte_bits]
    simp only [bitsOf, List.map_cons, List.flatten_cons]
    rw [bitRun_append]
theorem bit32_xor (a b : Bool) : bit32 (a ^^ b) = bit32 a ^^^ bit32 b := by cases a <;> cases b <;> decide
theorem crcStep_zero : crcStep 0#32 = 0#32 := by decide
/-- What comes in is linear. -/
theorem bitRun_xor : ∀ (xs ys : List Bool) (r s : BitVec 32), xs.length = ys.length → bitRun (r ^^^ s) (List.zipWith (· ^^ ·) xs ys) = bitRun r xs ^^^ bitRun s ys
  | [], [], r, s, _ => rfl
  | x :: xs, y :: ys, r, s, h => by
    rw [List.zipWith_cons_cons, bitRun_cons, bitRun_cons, bitRun_cons, ← bitRun_xor xs ys _ _ (by simpa using h), bit32_xor, ← crcStep_xor]
    congr 2
    ac_rfl
  | [], _ :: _, _, _, h => by simp at h
  | _ :: _, [], _, _, h => by simp at h
theorem bitRun_zeros (n : Nat) : bitRun 0#32 (List.replicate n false) = 0#32 := by
  induction n with
  | zero => rfl
  | succ n ih => rw [List.replicate_succ, bitRun_cons]; exact ih
/-- The register's step loses nothing. -/
theorem crcStep_ne {x : BitVec 32} (h : x ≠ 0#32) : crcStep x ≠ 0#32 := by
  intro e
  unfold crcStep at e
  cases hb : x.getLsbD 0 with
  | true =>
    rw [hb] at e
    have := congrArg (fun y => y.getLsbD 31) e
    simp at this
  | false =>
    rw [hb] at e
    apply h
    apply BitVec.eq_of_getLsbD_eq
    intro i hi
    cases i with
    | zero => rw [hb]; rfl
    | succ i =>
      have := congrArg (fun y => y.getLsbD i) e
      simp only [Bool.false_eq_true, if_false, BitVec.xor_zero, BitVec.getLsbD_ushiftRight, BitVec.getLsbD_zero] at this
      rw [Nat.add_comm 1 i] at this
      rw [this]
      simp
theorem bitRun_zeros_ne {r : BitVec 32} (h : r ≠ 0#32) (n : Nat) : bitRun r (List.replicate n false) ≠ 0#32 := by
  induction n generalizing r with
  | zero => exact h
  | succ n ih =>
    rw [List.replicate_succ, bitRun_cons]
    exact ih (by rw [show bit32 false = 0#32 from rfl, BitVec.xor_zero]; exact crcStep_ne h)
def numOf : List Bool → Nat
  | [] => 0
  | b :: bs => (if b then 1 else 0) + 2 * numOf bs
theorem numOf_lt (bs : List Bool) : numOf bs < 2 ^ bs.length := by
  induction bs with
  | nil => simp [numOf]
  | cons b bs ih =>
    simp only [numOf, List.length_cons, Nat.pow_succ]
    split <;> omega
theorem numOf_ne {bs : List Bool} (h : true ∈ bs) : numOf bs ≠ 0 := by
  induction bs with
  | nil => simp at h
  | cons b bs ih =>
    simp only [numOf]
    rcases List.mem_cons.1 h with e | h
    · rw [← e]; simp
    · have := ih h
      omega
/-- At most 32 bits go by at once. -/
theorem bitRun_num : ∀ (bs : List Bool) (r : BitVec 32), bs.length ≤ 32 → bitRun r bs = crcSteps bs.length (r ^^^ BitVec.ofNat 32 (numOf bs))
  | [], r, _ => by simp [bitRun, crcSteps, numOf]
  | b :: bs, r, h => by
    have hl : bs.length ≤ 31 := by simpa using h
    have hlt := numOf_lt bs
    have h31 : numOf bs < 2 ^ 31 := Nat.lt_of_lt_of_le hlt (Nat.pow_le_pow_right (by decide) hl)
    rw [bitRun_cons, bitRun_num bs _ (by omega), List.length_cons, crcSteps_add bs.length 1]
    congr 1
    show crcStep (r ^^^ bit32 b) ^^^ BitVec.ofNat 32 (numOf bs) = crcStep (r ^^^ BitVec.ofNat 32 (numOf (b :: bs)))
    have e1 : BitVec.ofNat 32 (numOf (b :: bs)) = bit32 b ^^^ BitVec.ofNat 32 (2 * numOf bs) := by
      apply BitVec.eq_of_toNat_eq
      rw [BitVec.toNat_xor, BitVec.toNat_ofNat, BitVec.toNat_ofNat, Nat.mod_eq_of_lt (by simp only [numOf]; split <;> omega), Nat.mod_eq_of_lt (by omega)]
      cases b with
      | false => simp [numOf, bit32]
      | true =>
        show 1 + 2 * numOf bs = 1 ^^^ (2 * numOf bs)
        apply Nat.eq_of_testBit_eq
        intro i
        rw [Nat.testBit_xor]
        cases i with
        | zero => simp [Nat.testBit_zero, Nat.add_mod]
        | succ i => simp [Nat.testBit_succ, show (1 + 2 * numOf bs) / 2 = numOf bs by omega]
    have e2 : crcStep (BitVec.ofNat 32 (2 * numOf bs)) = BitVec.ofNat 32 (numOf bs) := by
      rw [crcStep_even]
      · apply BitVec.eq_of_toNat_eq
        rw [BitVec.toNat_ushiftRight, BitVec.toNat_ofNat, BitVec.toNat_ofNat, Nat.mod_eq_of_lt (by omega), Nat.mod_eq_of_lt (by omega), Nat.shiftRight_eq_div_pow]
        omega
      · rw [BitVec.getLsbD_ofNat]
        simp [Nat.testBit_zero]
    rw [e1, ← BitVec.xor_assoc, crcStep_xor (r ^^^ bit32 b), e2]
theorem crcSteps_ne {x : BitVec 32} (h : x ≠ 0#32) (n : Nat) : crcSteps n x ≠ 0#32 := by
  induction n with
  | zero => exact h
  | succ n ih => exact crcStep_ne ih
/-- A BURST OF AT MOST 32 BITS IS SEEN. -/
theorem burst_seen (r : BitVec 32) (xs ys : List Bool) (a b : Nat) (t : List Bool) (hl : xs.length = ys.length) (ht : t.length ≤ 32) (hb : true ∈ t) (he : List.zipWith (· ^^ ·) xs ys = List.replicate a false ++ (t ++ List.replicate b false)) :
    bitRun r xs ≠ bitRun r ys := by
  intro e
  have h := bitRun_xor xs ys r r hl
  rw [e, BitVec.xor_self, BitVec.xor_self, he, bitRun_append, bitRun_zeros, bitRun_append, bitRun_num t _ ht, BitVec.zero_xor] at h
  refine bitRun_zeros_ne (crcSteps_ne ?_ _) _ h
  intro e0
  have := congrArg BitVec.toNat e0
  have hlt := numOf_lt t
  have h32 : numOf t < 2 ^ 32 := Nat.lt_of_lt_of_le hlt (Nat.pow_le_pow_right (by decide) ht)
  rw [BitVec.toNat_ofNat, Nat.mod_eq_of_lt h32] at this
  exact numOf_ne hb (by simpa using this)
end Go.Proofs.YtjhlelcopofkkaaDoor
