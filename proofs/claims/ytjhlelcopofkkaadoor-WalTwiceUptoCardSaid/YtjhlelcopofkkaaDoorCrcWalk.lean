/- The check sum's walks: the program's half bytes and the document's bits come to the plain check sum. -/
import Derived.Test.YtjhlelcopofkkaaDoorKit
import Derived.Test.YtjhlelcopofkkaaDoorCrc
namespace Go.Proofs.YtjhlelcopofkkaaDoor
open Go.RowKit

theorem u32_bv (x : BitVec 32) : BitVec.ofInt 32 (x.toNat : Int) = x := by
  rw [BitVec.ofInt_natCast, BitVec.ofNat_toNat, BitVec.setWidth_eq]
theorem u32_wrap (x : BitVec 32) : IntKind.u32.wrap (x.toNat : Int) = (x.toNat : Int) := by
  rw [IntKind.wrap_u32]
  have := x.isLt
  omega
/-- A register as an int. (A name, so that a walk leaves it be.) -/
def ru32 (x : BitVec 32) : Int := (x.toNat : Int)
theorem u32_nonneg (x : BitVec 32) : 0 ≤ ru32 x := by unfold ru32; omega
theorem u32_lt (x : BitVec 32) : ru32 x < 4294967296 := by unfold ru32; have := x.isLt; omega
theorem u32_toNat (x : BitVec 32) : (ru32 x).toNat = x.toNat := by unfold ru32; omega
theorem u32_inj {x y : BitVec 32} (h : ru32 x = ru32 y) : x = y := BitVec.eq_of_toNat_eq (by unfold ru32 at h; omega)
theorem u32_xor (x y : BitVec 32) : bits .xor .u32 (ru32 x) (ru32 y) = ru32 (x ^^^ y) := by
  simp only [bits]
  show IntKind.u32.wrap ((BitVec.ofInt 32 (x.toNat : Int) ^^^ BitVec.ofInt 32 (y.toNat : Int)).toNat : Int) = _
  rw [u32_bv, u32_bv, u32_wrap]; rfl
theorem u32_and15 (x : BitVec 32) : bits .and .u32 (ru32 x) 15 = ru32 (x &&& 15#32) := by
  simp only [bits]
  show IntKind.u32.wrap ((BitVec.ofInt 32 (x.toNat : Int) &&& BitVec.ofInt 32 15).toNat : Int) = _
  rw [u32_bv, show BitVec.ofInt 32 15 = 15#32 by decide, u32_wrap]; rfl
theorem u32_and1 (x : BitVec 32) : bits .and .u32 (ru32 x) 1 = ru32 (x &&& 1#32) := by
  simp only [bits]
  show IntKind.u32.wrap ((BitVec.ofInt 32 (x.toNat : Int) &&& BitVec.ofInt 32 1).toNat : Int) = _
  rw [u32_bv, show BitVec.ofInt 32 1 = 1#32 by decide, u32_wrap]; rfl
theorem u32_not (x : BitVec 32) : bits .xor .u32 IntKind.u32.max (ru32 x) = ru32 (~~~ x) := by
  simp only [bits]
  show IntKind.u32.wrap ((BitVec.ofInt 32 IntKind.u32.max ^^^ BitVec.ofInt 32 (x.toNat : Int)).toNat : Int) = _
  rw [u32_bv, show BitVec.ofInt 32 IntKind.u32.max = BitVec.allOnes 32 by decide, BitVec.allOnes_xor, u32_wrap]; rfl
theorem u32_not' (x : BitVec 32) : bits .xor .u32 (ru32 x) 4294967295 = ru32 (~~~ x) := by
  simp only [bits]
  show IntKind.u32.wrap ((BitVec.ofInt 32 (x.toNat : Int) ^^^ BitVec.ofInt 32 4294967295).toNat : Int) = _
  rw [u32_bv, show BitVec.ofInt 32 4294967295 = BitVec.allOnes 32 by decide, BitVec.xor_allOnes, u32_wrap]; rfl
theorem u32_poly (x : BitVec 32) : bits .xor .u32 (ru32 x) 3988292384 = ru32 (x ^^^ 0xEDB88320#32) := by
  simp only [bits]
  show IntKind.u32.wrap ((BitVec.ofInt 32 (x.toNat : Int) ^^^ BitVec.ofInt 32 3988292384).toNat : Int) = _
  rw [u32_bv, show BitVec.ofInt 32 3988292384 = 0xEDB88320#32 by decide, u32_wrap]; rfl
theorem u32_shr4 (x : BitVec 32) : ru32 x / (16 : Int) = ru32 (x >>> 4) := by
  unfold ru32
  rw [BitVec.toNat_ushiftRight, Nat.shiftRight_eq_div_pow]
  omega
theorem u32_shr1 (x : BitVec 32) : ru32 x / (2 : Int) = ru32 (x >>> 1) := by
  unfold ru32
  rw [BitVec.toNat_ushiftRight, Nat.shiftRight_eq_div_pow]
  omega
theorem u32_fshr4 (x : BitVec 32) : (ru32 x).fdiv (16 : Int) = ru32 (x >>> 4) := by rw [Int.fdiv_eq_ediv_of_nonneg _ (by decide), u32_shr4]
theorem u32_fshr1 (x : BitVec 32) : (ru32 x).fdiv (2 : Int) = ru32 (x >>> 1) := by rw [Int.fdiv_eq_ediv_of_nonneg _ (by decide), u32_shr1]
theorem u8_b32 (b : UInt8) : (b.toNat : Int) % 4294967296 = ru32 (b32 b) := by
  have := b.toNat_lt
  simp only [ru32, b32, BitVec.toNat_ofNat]
  omega
theorem and15_lt' (x : BitVec 32) : (ru32 (x &&& 15#32) < 16) = True := by
  have := and15_lt x
  simp only [eq_iff_iff, iff_true, ru32]
  omega
theorem u32_nonneg' (x : BitVec 32) : (0 ≤ ru32 x) = True := by simp [u32_nonneg]

/-- The table at a register. -/
def crcTabV (x : BitVec 32) : BitVec 32 := crcTab x.toNat
/-- The program's table of half bytes. -/
def CrcTab (w : World) : Prop := ∀ i, i < 16 → w.cell? ⟨13, i, none⟩ = some (.int .u32 (ru32 (crcTab i)))
theorem CrcTab.mono {w w' : World} (h : CrcTab w) (hb : Below w.heap.size w w') : CrcTab w' :=
  fun i hi => (hb.cell (World.block_lt_of_cell? w _ (h i hi))).trans (h i hi)
theorem crcMore_snoc (c : BitVec 32) (xs : List UInt8) (b : UInt8) : crcRun (~~~ c) (xs ++ [b]) = crcByte (crcRun (~~~ c) xs) b := crcRun_snoc _ _ _

section
attribute [local go_sem] u32_xor u32_and15 u32_and1 u32_not u32_not' u32_poly u32_shr4 u32_shr1 u32_fshr4 u32_fshr1 u8_b32 and15_lt' u32_nonneg' IntKind.signed
set_option maxHeartbeats 1600000 in
theorem sums_crcMore {w : World} (hT : CrcTab w) (c : BitVec 32) (s : ByteArray) (hn : s.size ≤ 140737488351232) :
    Calls Tryd.prog 133 #[.int .u32 (ru32 c), .string s] w (Same (.int .u32 (ru32 (crcMore c s.data.toList))) w) := by
  have ht : ∀ x : BitVec 32, w.cell? ⟨13, (ru32 (x &&& 15#32)).toNat, none⟩ = some (.int .u32 (ru32 (crcTabV (x &&& 15#32)))) := fun x => by rw [u32_toNat]; exact hT _ (and15_lt x)
  have hsz : s.data.toList.length = s.size := rfl
  go_enter Tryd.func133, Tryd.ntmps133
  go_wp2
  go_loopw [5, 6, 11] (fun r i11 i wr => ∃ k : Nat, k ≤ s.size ∧ i = .int .i64 k ∧ r = .int .u32 (ru32 (crcRun (~~~ c) (s.data.toList.take k))) ∧ wr = w) (fun _ _ i _ => s.size - (intOf i).toNat)
  case atStart => exact ⟨0, by omega, rfl, rfl, rfl⟩
  case round =>
    obtain ⟨k, hk, rfl, rfl, rfl⟩ := hrel
    by_cases hlt : k < s.size
    · go_wp2
      refine ⟨⟨k + 1, by omega, by first | rfl | trivial, ?_, by first | rfl | trivial⟩, by simp [intOf]; omega⟩
      rw [take_snoc s.data.toList k hlt, crcRun_snoc, crcByte_half]
      rfl
    · obtain rfl : k = s.size := by omega
      go_wp2
      go_ret
      refine ⟨?_, rfl⟩
      rw [← hsz, List.take_length]
      rfl

theorem sums_crc {w : World} (hT : CrcTab w) (s : ByteArray) (hn : s.size ≤ 140737488351232) :
    Calls Tryd.prog 134 #[.string s] w (Same (.int .u32 (ru32 (crc s.data.toList))) w) := by
  have h0 := sums_crcMore hT 0#32 s hn
  go_enter Tryd.func134, Tryd.ntmps134
  go_wp2_with (go_at_call 133; refine (sums_crcMore hT 0#32 s hn).mono ?_; rintro e w' ⟨rfl, rfl⟩)
  go_ret
  exact ⟨rfl, rfl⟩

theorem u32_shrk (x : BitVec 32) (k : Nat) : ru32 x / 2 ^ k = ru32 (x >>> k) := by
  unfold ru32
  rw [BitVec.toNat_ushiftRight, Nat.shiftRight_eq_div_pow]
  simp
set_option maxHeartbeats 3200000 in
theorem ref1_taken {w : World} (r : BitVec 32) (s : ByteArray) (hn : s.size ≤ 140737488351232) :
    Calls Tryd.prog 144 #[.int .u32 (ru32 r), .string s] w (Same (.int .u32 (ru32 (crcRun r s.data.toList))) w) := by
  have hsz : s.data.toList.length = s.size := rfl
  go_enter Tryd.func144, Tryd.ntmps144
  go_wp2
  go_loopw [0, 5] (fun r' i wr => ∃ k : Nat, k ≤ s.size ∧ i = .int .i64 k ∧ r' = .int .u32 (ru32 (crcRun r (s.data.toList.take k))) ∧ wr = w) (fun _ i _ => s.size - (intOf i).toNat)
  case atStart => exact ⟨0, by omega, rfl, rfl, rfl⟩
  case round =>
    obtain ⟨k, hk, rfl, rfl, rfl⟩ := hrel
    by_cases hlt : k < s.size
    · go_wp2
      go_loopw [0, 7, 8, 9] (fun r' j l b wx => ∃ m : Nat, m ≤ 8 ∧ j = .int .i64 m ∧ r' = .int .u32 (ru32 (crcBits (b32 s[k]) m (crcRun r (s.data.toList.take k)))) ∧ wx = wr) (fun _ j _ _ _ => 8 - (intOf j).toNat)
      case atStart => exact ⟨0, by omega, rfl, rfl, rfl⟩
      case round =>
        obtain ⟨m, hm, rfl, rfl, rfl⟩ := hrel
        by_cases hm8 : m < 8
        · go_wp2
          · have ht : (ru32 (crcBits (b32 s[k]) m (crcRun r (List.take k s.data.toList)) &&& 1#32) != bits BinOp.and IntKind.u32 (ru32 (b32 s[k]) / 2 ^ m) 1) = true := by assumption
            rw [u32_shrk, u32_and1, bne_iff_ne] at ht
            refine ⟨⟨m + 1, by omega, by first | rfl | trivial, ?_, by first | rfl | trivial⟩, by simp [intOf]; omega⟩
            show _ = Value.int IntKind.u32 (ru32 (crcBit (b32 s[k]) m (crcBits (b32 s[k]) m (crcRun r (List.take k s.data.toList)))))
            unfold crcBit
            rw [if_pos (fun e => ht (congrArg ru32 e))]
          · have ht : (ru32 (crcBits (b32 s[k]) m (crcRun r (List.take k s.data.toList)) &&& 1#32) != bits BinOp.and IntKind.u32 (ru32 (b32 s[k]) / 2 ^ m) 1) = false := by assumption
            rw [u32_shrk, u32_and1, bne_eq_false_iff_eq] at ht
            refine ⟨⟨m + 1, by omega, by first | rfl | trivial, ?_, by first | rfl | trivial⟩, by simp [intOf]; omega⟩
            show _ = Value.int IntKind.u32 (ru32 (crcBit (b32 s[k]) m (crcBits (b32 s[k]) m (crcRun r (List.take k s.data.toList)))))
            unfold crcBit
            rw [if_neg (fun e => e (u32_inj ht))]
        · obtain rfl : m = 8 := by omega
          go_wp2
          refine ⟨⟨k + 1, by omega, by first | rfl | trivial, ?_, by first | rfl | trivial⟩, by simp [intOf]; omega⟩
          rw [take_snoc s.data.toList k hlt, crcRun_snoc, ← crcBits_byte]
          rfl
    · obtain rfl : k = s.size := by omega
      go_wp2
      go_ret
      refine ⟨?_, rfl⟩
      rw [← hsz, List.take_length]
      rfl

theorem ru32_ones : ru32 (~~~ 0#32) = 4294967295 := by decide
theorem ref1_crc {w : World} (s : ByteArray) (hn : s.size ≤ 140737488351232) :
    Calls Tryd.prog 135 #[.string s] w (Same (.int .u32 (ru32 (crc s.data.toList))) w) := by
  have h := ref1_taken (w := w) (~~~ 0#32) s hn
  rw [ru32_ones] at h
  have H := Hid.mk' h
  clear h
  go_enter Tryd.func135, Tryd.ntmps135
  go_wp2_with (go_at_call 144; refine H.out.mono ?_; rintro e w' ⟨rfl, rfl⟩)
  go_ret
  exact ⟨rfl, rfl⟩
end
end Go.Proofs.YtjhlelcopofkkaaDoor
