/- Bits turned in bytes, one after the other. -/
import Derived.Test.YtjhlelcopofkkaaDoorBits
namespace Go.Proofs.YtjhlelcopofkkaaDoor

theorem bits8_length (b : UInt8) : (bits8 b).length = 8 := by simp [bits8]
theorem bitsOf_length (xs : List UInt8) : (bitsOf xs).length = 8 * xs.length := by
  induction xs with
  | nil => rfl
  | cons x xs ih =>
    have : bitsOf (x :: xs) = bits8 x ++ bitsOf xs := rfl
    rw [this, List.length_append, bits8_length, ih, List.length_cons]
    omega
theorem bits8_get (b : UInt8) (k : Nat) (h : k < 8) : (bits8 b)[k]? = some ((b32 b).getLsbD k) := by simp [bits8, h]
/-- One bit turned. -/
def flipAt (xs : List UInt8) (q : Nat) : List UInt8 := xs.set (q / 8) (xs.getD (q / 8) 0 ^^^ (1 <<< UInt8.ofNat (q % 8)))
theorem flipAt_length (xs : List UInt8) (q : Nat) : (flipAt xs q).length = xs.length := by simp [flipAt]
theorem b32_flip : ∀ (j : Fin 8) (k : Fin 8) (b : UInt8), (b32 (b ^^^ (1 <<< UInt8.ofNat j.val))).getLsbD k.val = ((b32 b).getLsbD k.val ^^ decide (k = j)) := by
  intro j k b
  have h1 : (b32 (b ^^^ (1 <<< UInt8.ofNat j.val))) = b32 b ^^^ b32 (1 <<< UInt8.ofNat j.val) := by
    apply BitVec.eq_of_toNat_eq
    rw [BitVec.toNat_xor]
    have := b.toNat_lt
    have h2 := (b ^^^ (1 <<< UInt8.ofNat j.val)).toNat_lt
    have h3 := (1 <<< UInt8.ofNat j.val : UInt8).toNat_lt
    simp only [b32, BitVec.toNat_ofNat]
    rw [Nat.mod_eq_of_lt (by omega), Nat.mod_eq_of_lt (by omega), Nat.mod_eq_of_lt (by omega), UInt8.toNat_xor]
  rw [h1, BitVec.getLsbD_xor]
  congr 1
  clear h1
  revert j k
  decide +kernel
theorem bitsOf_flip : ∀ (xs : List UInt8) (q : Nat), q < 8 * xs.length → ∀ k, (bitsOf (flipAt xs q))[k]? = ((bitsOf xs)[k]?).map fun v => v ^^ decide (k = q)
  | [], q, h, k => by simp at h
  | x :: xs, q, h, k => by
    have e1 : bitsOf (x :: xs) = bits8 x ++ bitsOf xs := rfl
    by_cases hq : q < 8
    · have e2 : flipAt (x :: xs) q = (x ^^^ (1 <<< UInt8.ofNat (q % 8))) :: xs := by
        unfold flipAt
        rw [Nat.div_eq_of_lt hq]
        rfl
      have e3 : bitsOf (flipAt (x :: xs) q) = bits8 (x ^^^ (1 <<< UInt8.ofNat (q % 8))) ++ bitsOf xs := by rw [e2]; rfl
      rw [e1, e3, Nat.mod_eq_of_lt hq]
      by_cases hk : k < 8
      · rw [List.getElem?_append_left (by rw [bits8_length]; exact hk), List.getElem?_append_left (by rw [bits8_length]; exact hk), bits8_get _ _ hk, bits8_get _ _ hk]
        have := b32_flip ⟨q, hq⟩ ⟨k, hk⟩ x
        simp only [Fin.mk.injEq] at this
        rw [this]
        rfl
      · rw [List.getElem?_append_right (by rw [bits8_length]; omega), List.getElem?_append_right (by rw [bits8_length]; omega), bits8_length, bits8_length]
        have : decide (k = q) = false := decide_eq_false (by omega)
        rw [this]
        cases (bitsOf xs)[k - 8]? <;> simp
    · have e2 : flipAt (x :: xs) q = x :: flipAt xs (q - 8) := by
        unfold flipAt
        have h8 : q / 8 = (q - 8) / 8 + 1 := by omega
        have hm : q % 8 = (q - 8) % 8 := by omega
        rw [h8, hm]
        rfl
      have e3 : bitsOf (flipAt (x :: xs) q) = bits8 x ++ bitsOf (flipAt xs (q - 8)) := by rw [e2]; rfl
      rw [e1, e3]
      by_cases hk : k < 8
      · rw [List.getElem?_append_left (by rw [bits8_length]; exact hk), List.getElem?_append_left (by rw [bits8_length]; exact hk)]
        have : decide (k = q) = false := decide_eq_false (by omega)
        rw [this]
        cases (bits8 x)[k]? <;> simp
      · rw [List.getElem?_append_right (by rw [bits8_length]; omega), List.getElem?_append_right (by rw [bits8_length]; omega), bits8_length, bitsOf_flip xs (q - 8) (by rw [List.length_cons] at h; omega) (k - 8)]
        congr 1
        funext v
        congr 1
        exact decide_eq_decide.2 (by omega)
/-- The bits of a mask, turned from a place on. -/
def burst (xs : List UInt8) (a : Nat) (m : BitVec 32) : Nat → List UInt8
  | 0 => xs
  | k + 1 => if a + k < 8 * xs.length ∧ m.getLsbD k = true then flipAt (burst xs a m k) (a + k) else burst xs a m k
theorem burst_length (xs : List UInt8) (a : Nat) (m : BitVec 32) (k : Nat) : (burst xs a m k).length = xs.length := by
  induction k with
  | zero => rfl
  | succ k ih => simp only [burst]; split <;> simp [flipAt_length, ih]
theorem burst_bits (xs : List UInt8) (a : Nat) (m : BitVec 32) (k : Nat) : ∀ i, (bitsOf (burst xs a m k))[i]? = ((bitsOf xs)[i]?).map fun v => v ^^ decide (a ≤ i ∧ i < a + k ∧ m.getLsbD (i - a) = true) := by
  induction k with
  | zero =>
    intro i
    have : decide (a ≤ i ∧ i < a + 0 ∧ m.getLsbD (i - a) = true) = false := decide_eq_false (by omega)
    rw [this]
    show (bitsOf xs)[i]? = _
    cases (bitsOf xs)[i]? <;> simp
  | succ k ih =>
    intro i
    simp only [burst]
    by_cases h : a + k < 8 * xs.length ∧ m.getLsbD k = true
    · rw [if_pos h, bitsOf_flip _ _ (by rw [burst_length]; exact h.1), ih]
      cases (bitsOf xs)[i]? with
      | none => rfl
      | some v =>
        simp only [Option.map_some, Option.some.injEq]
        by_cases e : i = a + k
        · subst e
          have h1 : decide (a ≤ a + k ∧ a + k < a + k ∧ m.getLsbD (a + k - a) = true) = false := decide_eq_false (by omega)
          have h2 : decide (a ≤ a + k ∧ a + k < a + (k + 1) ∧ m.getLsbD (a + k - a) = true) = true := decide_eq_true ⟨by omega, by omega, by rw [Nat.add_sub_cancel_left]; exact h.2⟩
          rw [h1, h2]
          simp
        · have h1 : decide (i = a + k) = false := decide_eq_false e
          rw [h1, Bool.xor_false]
          congr 1
          exact decide_eq_decide.2 ⟨fun ⟨p, q, r⟩ => ⟨p, by omega, r⟩, fun ⟨p, q, r⟩ => ⟨p, by omega, r⟩⟩
    · rw [if_neg h, ih]
      cases hi : (bitsOf xs)[i]? with
      | none => rfl
      | some v =>
        have hl := (List.getElem?_eq_some_iff.1 hi).1
        rw [bitsOf_length] at hl
        simp only [Option.map_some, Option.some.injEq]
        congr 1
        refine decide_eq_decide.2 ⟨fun ⟨p, q, r⟩ => ⟨p, by omega, r⟩, fun ⟨p, q, r⟩ => ⟨p, ?_, r⟩⟩
        rcases Nat.lt_or_ge i (a + k) with h' | h'
        · exact h'
        · exfalso
          have : i = a + k := by omega
          subst this
          rw [Nat.add_sub_cancel_left] at r
          exact h ⟨hl, r⟩
theorem burst_diff (xs : List UInt8) (a : Nat) (m : BitVec 32) (ha : a ≤ 8 * xs.length) :
    List.zipWith (· ^^ ·) (bitsOf xs) (bitsOf (burst xs a m 32)) = List.replicate a false ++ (((List.range (min 32 (8 * xs.length - a))).map fun k => m.getLsbD k) ++ List.replicate (8 * xs.length - a - min 32 (8 * xs.length - a)) false) := by
  apply List.ext_getElem?
  intro i
  rw [List.getElem?_zipWith, burst_bits]
  by_cases hi : i < 8 * xs.length
  · have hv : (bitsOf xs)[i]? = some ((bitsOf xs)[i]'(by rw [bitsOf_length]; exact hi)) := List.getElem?_eq_getElem _
    rw [hv]
    simp only [Option.map_some]
    generalize (bitsOf xs)[i]'(by rw [bitsOf_length]; exact hi) = v
    rw [show (v ^^ (v ^^ decide (a ≤ i ∧ i < a + 32 ∧ m.getLsbD (i - a) = true))) = decide (a ≤ i ∧ i < a + 32 ∧ m.getLsbD (i - a) = true) by cases v <;> simp]
    by_cases h1 : i < a
    · rw [List.getElem?_append_left (by simpa using h1), List.getElem?_replicate_of_lt h1]
      exact congrArg some (decide_eq_false (by omega))
    · rw [List.getElem?_append_right (by simp; omega), List.length_replicate]
      by_cases h2 : i - a < min 32 (8 * xs.length - a)
      · rw [List.getElem?_append_left (by simpa using h2)]
        simp only [List.getElem?_map, List.getElem?_range h2, Option.map_some]
        congr 1
        cases hm : m.getLsbD (i - a) with
        | true => exact decide_eq_true ⟨by omega, by omega, rfl⟩
        | false => exact decide_eq_false (by simp)
      · rw [List.getElem?_append_right (by simp; omega), List.length_map, List.length_range, List.getElem?_replicate_of_lt (by omega)]
        exact congrArg some (decide_eq_false (by omega))
  · rw [List.getElem?_eq_none (by rw [bitsOf_length]; omega)]
    rw [List.getElem?_eq_none]
    simp only [List.length_append, List.length_replicate, List.length_map, List.length_range]
    omega
/-- Bits turned within 32 places are seen. -/
theorem burst_crc (r : BitVec 32) (xs : List UInt8) (a : Nat) (m : BitVec 32) (h : ∃ k, k < 32 ∧ a + k < 8 * xs.length ∧ m.getLsbD k = true) : crcRun r xs ≠ crcRun r (burst xs a m 32) := by
  obtain ⟨k, hk, hl, hm⟩ := h
  rw [crcRun_bits, crcRun_bits]
  refine burst_seen r _ _ a _ _ (by rw [bitsOf_length, bitsOf_length, burst_length]) ?_ ?_ (burst_diff xs a m (by omega))
  · simp
    omega
  · exact List.mem_map.2 ⟨k, List.mem_range.2 (by omega), hm⟩
theorem burst_sum (hd xs : List UInt8) (a : Nat) (m : BitVec 32) (h : ∃ k, k < 32 ∧ a + k < 8 * xs.length ∧ m.getLsbD k = true) : crc (hd ++ xs) ≠ crc (hd ++ burst xs a m 32) := by
  unfold crc crcMore
  rw [crcRun_append, crcRun_append]
  intro e
  refine burst_crc (crcRun (~~~ 0#32) hd) xs a m h ?_
  have := congrArg (fun x => ~~~ x) e
  simpa using this
end Go.Proofs.YtjhlelcopofkkaaDoor
