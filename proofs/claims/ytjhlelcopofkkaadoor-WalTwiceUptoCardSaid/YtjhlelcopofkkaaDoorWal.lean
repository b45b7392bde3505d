/- wal: frames. -/
import Derived.Test.YtjhlelcopofkkaaDoorCrcWalk
import Derived.Deep.RegionHeld3
namespace Go.Proofs.YtjhlelcopofkkaaDoor
open Go.RowKit

/-- The four bytes of a number as values, the highest first. -/
def be4 (n : Int) : List Value := [.int .u8 (n / 16777216), .int .u8 (n / 65536 % 256), .int .u8 (n / 256 % 256), .int .u8 (n % 256)]
def put4 (w : World) (b o : Nat) (n : Int) : World :=
  (((w.setCell ⟨b, o, none⟩ (.int .u8 (n / 16777216))).setCell ⟨b, o + 1, none⟩ (.int .u8 (n / 65536 % 256))).setCell ⟨b, o + 2, none⟩ (.int .u8 (n / 256 % 256))).setCell ⟨b, o + 3, none⟩ (.int .u8 (n % 256))

/-- May a payload have so many bytes? -/
def mayB (n : Int) : Bool := decide (1 ≤ n ∧ n ≤ 8192)
set_option maxHeartbeats 1600000 in
theorem wal_mayBe {w : World} (n : Int) : Calls Tryd.prog 87 #[.int .i64 n] w (Same (.bool (mayB n)) w) := by
  by_cases h1 : 1 ≤ n
  · by_cases h2 : n ≤ 8192
    · have H := Hid.mk' (show mayB n = true from decide_eq_true ⟨h1, h2⟩)
      go_enter Tryd.func87, Tryd.ntmps87
      go_wp2
      go_ret
      exact ⟨congrArg _ (ret_bool H.out.symm), rfl⟩
    · have H := Hid.mk' (show mayB n = false from decide_eq_false fun h => h2 h.2)
      go_enter Tryd.func87, Tryd.ntmps87
      go_wp2
      go_ret
      exact ⟨congrArg _ (ret_bool H.out.symm), rfl⟩
  · have H := Hid.mk' (show mayB n = false from decide_eq_false fun h => h1 h.1)
    go_enter Tryd.func87, Tryd.ntmps87
    go_wp2
    go_ret
    exact ⟨congrArg _ (ret_bool H.out.symm), rfl⟩

set_option maxHeartbeats 1600000 in
theorem wal_put32 {w : World} (b o l c : Nat) (n : Int) (hn : 0 ≤ n) (hn' : n < 4294967296) (hl : 4 ≤ l)
    (v0 v1 v2 v3 : Value) (h0 : w.cell? ⟨b, o, none⟩ = some v0) (h1 : w.cell? ⟨b, o + 1, none⟩ = some v1) (h2 : w.cell? ⟨b, o + 2, none⟩ = some v2) (h3 : w.cell? ⟨b, o + 3, none⟩ = some v3)
    (f0 : w.frozen? ⟨b, o, none⟩ = false) (f1 : w.frozen? ⟨b, o + 1, none⟩ = false) (f2 : w.frozen? ⟨b, o + 2, none⟩ = false) (f3 : w.frozen? ⟨b, o + 3, none⟩ = false) :
    Calls Tryd.prog 88 #[.slice (some ⟨b, o, none⟩) l c, .int .u32 n] w (Same (.tuple #[]) (put4 w b o n)) := by
  go_enter Tryd.func88, Tryd.ntmps88
  go_wp2
  go_end0
  exact ⟨rfl, rfl⟩

theorem or_join (i a b : Nat) (hb : b < 2 ^ i) (h : 2 ^ i * a + b < 2 ^ 32) : bits .or .u32 ((2 ^ i * a : Nat) : Int) (b : Int) = ((2 ^ i * a + b : Nat) : Int) := by
  simp only [bits]
  show IntKind.u32.wrap ((BitVec.ofInt 32 ((2 ^ i * a : Nat) : Int) ||| BitVec.ofInt 32 (b : Int)).toNat : Int) = _
  rw [BitVec.ofInt_natCast, BitVec.ofInt_natCast, BitVec.toNat_or, BitVec.toNat_ofNat, BitVec.toNat_ofNat, Nat.mod_eq_of_lt (by omega), Nat.mod_eq_of_lt (by omega), ← Nat.two_pow_add_eq_or_of_lt hb, IntKind.wrap_u32]
  omega
theorem get4_join (b0 b1 b2 b3 : UInt8) :
    bits .or .u32 (bits .or .u32 (bits .or .u32 ((b0.toNat : Int) % 4294967296 * 16777216 % 4294967296) ((b1.toNat : Int) % 4294967296 * 65536 % 4294967296)) ((b2.toNat : Int) % 4294967296 * 256 % 4294967296)) ((b3.toNat : Int) % 4294967296)
      = (b0.toNat : Int) * 16777216 + b1.toNat * 65536 + b2.toNat * 256 + b3.toNat := by
  have h0 := b0.toNat_lt
  have h1 := b1.toNat_lt
  have h2 := b2.toNat_lt
  have h3 := b3.toNat_lt
  have e1 := or_join 24 b0.toNat (b1.toNat * 65536) (by omega) (by omega)
  have e2 := or_join 16 (b0.toNat * 256 + b1.toNat) (b2.toNat * 256) (by omega) (by omega)
  have e3 := or_join 8 (b0.toNat * 65536 + b1.toNat * 256 + b2.toNat) b3.toNat (by omega) (by omega)
  rw [show (b0.toNat : Int) % 4294967296 * 16777216 % 4294967296 = ((2 ^ 24 * b0.toNat : Nat) : Int) by omega, show (b1.toNat : Int) % 4294967296 * 65536 % 4294967296 = ((b1.toNat * 65536 : Nat) : Int) by omega, e1,
    show ((2 ^ 24 * b0.toNat + b1.toNat * 65536 : Nat) : Int) = ((2 ^ 16 * (b0.toNat * 256 + b1.toNat) : Nat) : Int) by omega, show (b2.toNat : Int) % 4294967296 * 256 % 4294967296 = ((b2.toNat * 256 : Nat) : Int) by omega, e2,
    show ((2 ^ 16 * (b0.toNat * 256 + b1.toNat) + b2.toNat * 256 : Nat) : Int) = ((2 ^ 8 * (b0.toNat * 65536 + b1.toNat * 256 + b2.toNat) : Nat) : Int) by omega, show (b3.toNat : Int) % 4294967296 = (b3.toNat : Int) by omega, e3]
  omega
set_option maxHeartbeats 1600000 in
theorem wal_get32 {w : World} (b o l c : Nat) (b0 b1 b2 b3 : UInt8) (hl : 4 ≤ l)
    (h0 : w.cell? ⟨b, o, none⟩ = some (bv b0)) (h1 : w.cell? ⟨b, o + 1, none⟩ = some (bv b1)) (h2 : w.cell? ⟨b, o + 2, none⟩ = some (bv b2)) (h3 : w.cell? ⟨b, o + 3, none⟩ = some (bv b3)) :
    Calls Tryd.prog 137 #[.slice (some ⟨b, o, none⟩) l c] w (Drew (.int .u32 ((b0.toNat : Int) * 16777216 + b1.toNat * 65536 + b2.toNat * 256 + b3.toNat)) w) := by
  unfold bv at h0 h1 h2 h3
  go_enter Tryd.func137, Tryd.ntmps137
  go_wp2
  go_quiet (fail)
  go_wp2
  go_ret
  exact ⟨congrArg _ (ret_int (get4_join b0 b1 b2 b3)), _, rfl⟩

theorem put4_put {cs : List Value} {o : Nat} (h : o + 4 ≤ cs.length) (v0 v1 v2 v3 : Value) : (((cs.set o v0).set (o + 1) v1).set (o + 2) v2).set (o + 3) v3 = put cs o [v0, v1, v2, v3] := by
  apply List.ext_getElem?
  intro i
  simp only [put, List.length_cons, List.length_nil]
  by_cases h1 : i < o
  · rw [List.getElem?_append_left (by simp; omega), List.getElem?_take_of_lt h1]
    simp only [List.getElem?_set]
    rw [if_neg (by omega), if_neg (by omega), if_neg (by omega), if_neg (by omega)]
  · rw [List.getElem?_append_right (by simp; omega), List.length_take, Nat.min_eq_left (by omega)]
    by_cases h2 : i < o + 4
    · obtain rfl | rfl | rfl | rfl : i = o ∨ i = o + 1 ∨ i = o + 2 ∨ i = o + 3 := by omega
      all_goals
        simp only [List.getElem?_set, List.length_set]
        simp
        try omega
    · rw [List.getElem?_append_right (by simp; omega), List.getElem?_drop]
      simp only [List.getElem?_set, List.length_cons, List.length_nil]
      rw [if_neg (by omega), if_neg (by omega), if_neg (by omega), if_neg (by omega)]
      congr 1
      omega
theorem wal_put32_sat {w0 w : World} {F : HP} {b : Nat} {cs : List Value} {t : TypeId} (hs : Sat w0 w (F * blk b cs t)) (o l c : Nat) (n : Int) (hn : 0 ≤ n) (hn' : n < 4294967296) (hl : 4 ≤ l) (ho : o + 4 ≤ cs.length) :
    Calls Tryd.prog 88 #[.slice (some ⟨b, o, none⟩) l c, .int .u32 n] w (Ret fun v w' => v = .tuple #[] ∧ Sat w0 w' (F * blk b (put cs o (be4 n)) t)) := by
  refine (wal_put32 b o l c n hn hn' hl (cs[o]'(by omega)) (cs[o + 1]'(by omega)) (cs[o + 2]'(by omega)) (cs[o + 3]'(by omega)) (hs.cell (by simp)) (hs.cell (by simp)) (hs.cell (by simp)) (hs.cell (by simp)) (hs.free _) (hs.free _) (hs.free _) (hs.free _)).mono ?_
  rintro e w' ⟨rfl, rfl⟩
  refine Ret.mk ⟨rfl, ?_⟩
  unfold be4
  rw [← put4_put ho]
  exact (((hs.store _ _).store _ _).store _ _).store _ _

/-- Bytes as a text. -/
def bs (xs : List UInt8) : ByteArray := ⟨xs.toArray⟩
theorem bs_list (xs : List UInt8) : (bs xs).data.toList = xs := by simp [bs]
theorem bs_size (xs : List UInt8) : (bs xs).size = xs.length := by simp [bs, ByteArray.size]
theorem conv_string {w : World} {ao : Option Addr} {xs : List UInt8} (hr : Rd w ao (bvs xs)) (c : Nat) : (convert 22 9 (.slice ao xs.length c)).run Tryd.prog w = .ok (.string (bs xs)) w := by
  rcases hr with h | ⟨b, o, rfl, hc⟩
  · have : xs = [] := List.map_eq_nil_iff.1 h
    subst this
    cases ao with
    | none => exact run_convert_bytes_nil w _ _ Tryd.underlying22 Tryd.underlying5 _ _ _ Tryd.underlying9
    | some a => exact run_convert_bytes_back w _ _ _ a c [] Tryd.underlying22 Tryd.underlying5 Tryd.underlying9 (fun j hj => by simp at hj)
  · exact run_convert_bytes_back w _ _ _ ⟨b, o, none⟩ c xs Tryd.underlying22 Tryd.underlying5 Tryd.underlying9 (fun j hj => by rw [Addr.add_lit]; exact hc j _ (bvs_get hj))

set_option maxHeartbeats 1600000 in
theorem wal_sum {w : World} (hT : CrcTab w) (xs ys : List UInt8) (ao bo : Option Addr) (c d : Nat) (hr : Rd w ao (bvs xs)) (hq : Rd w bo (bvs ys)) (hn : xs.length ≤ 140737488351232) (hm : ys.length ≤ 140737488351232) :
    Calls Tryd.prog 89 #[.slice ao xs.length c, .slice bo ys.length d] w (Drew (.int .u32 (ru32 (crc (xs ++ ys)))) w) := by
  have c1 : ∀ n, (convert 22 9 (.slice ao xs.length c)).run Tryd.prog (w.drewN n) = .ok (.string (bs xs)) (w.drewN n) := fun n => conv_string hr.drewN c
  have c2 : ∀ n, (convert 22 9 (.slice bo ys.length d)).run Tryd.prog (w.drewN n) = .ok (.string (bs ys)) (w.drewN n) := fun n => conv_string hq.drewN d
  have HT := Hid.mk' (show ∀ n, CrcTab (w.drewN n) from fun n => hT.mono (below_drewN (Below.refl _ _) n))
  have H1 := Hid.mk' (show (bs xs).size ≤ 140737488351232 by rw [bs_size]; exact hn)
  have H2 := Hid.mk' (show (bs ys).size ≤ 140737488351232 by rw [bs_size]; exact hm)
  have HF := Hid.mk' (show crcMore (crc (bs xs).data.toList) (bs ys).data.toList = crc (xs ++ ys) by rw [bs_list, bs_list]; exact crcMore_append _ _ _)
  go_enter Tryd.func89, Tryd.ntmps89
  go_wp2
  go_quiet (first | (go_at_call 134; exact Same.quiet (sums_crc (HT.out _) _ H1.out)) | (go_at_call 133; exact Same.quiet (sums_crcMore (HT.out _) _ _ H2.out)))
  go_wp2
  go_ret
  exact ⟨congrArg _ (congrArg _ (congrArg ru32 HF.out)), _, rfl⟩

/-- The four bytes of a number, the highest first. -/
def num4 (n : Nat) : List UInt8 := [UInt8.ofNat (n / 16777216), UInt8.ofNat (n / 65536), UInt8.ofNat (n / 256), UInt8.ofNat n]
theorem num4_length (n : Nat) : (num4 n).length = 4 := rfl
theorem be4_num4 (n : Nat) (h : n < 4294967296) : be4 (n : Int) = bvs (num4 n) := by
  simp only [be4, bvs, num4, List.map_cons, List.map_nil, bv, UInt8.toNat_ofNat']
  have e1 : (n : Int) / 16777216 = ((n / 16777216 % 2 ^ 8 : Nat) : Int) := by omega
  have e2 : (n : Int) / 65536 % 256 = ((n / 65536 % 2 ^ 8 : Nat) : Int) := by omega
  have e3 : (n : Int) / 256 % 256 = ((n / 256 % 2 ^ 8 : Nat) : Int) := by omega
  have e4 : (n : Int) % 256 = ((n % 2 ^ 8 : Nat) : Int) := by omega
  rw [e1, e2, e3, e4]
/-- The frame of a payload. -/
def wframe (p : List UInt8) : List UInt8 := num4 p.length ++ num4 (crc (num4 p.length ++ p)).toNat ++ p
theorem wframe_length (p : List UInt8) : (wframe p).length = 8 + p.length := by simp [wframe, num4_length]; omega
theorem ru32_nat (x : BitVec 32) : ru32 x = (x.toNat : Int) := rfl

theorem frame_put (xs : List UInt8) : put (put (List.replicate (8 + xs.length) (Value.int IntKind.u8 0)) 0 (bvs (num4 xs.length ++ num4 (crc (num4 xs.length ++ xs)).toNat))) 8 (bvs xs) = bvs (wframe xs) := by
  generalize hH : num4 xs.length ++ num4 (crc (num4 xs.length ++ xs)).toNat = H
  have hl : (bvs H).length = 8 := by rw [bvs_length, ← hH]; rfl
  have hlx := bvs_length xs
  simp only [put, List.take_zero, List.nil_append, Nat.zero_add, hl, hlx]
  rw [List.drop_replicate, Nat.add_sub_cancel_left, List.take_left' hl, List.drop_eq_nil_of_le (by simp only [List.length_append, List.length_replicate]; omega), List.append_nil, ← bvs_append]
  unfold wframe
  rw [hH]
set_option maxRecDepth 20000 in
set_option maxHeartbeats 3200000 in
theorem wal_frame {w : World} (hT : CrcTab w) (xs : List UInt8) (ao : Option Addr) (c : Nat) (hr : Rd w ao (bvs xs)) (h1 : 1 ≤ xs.length) (h2 : xs.length ≤ 8192) :
    Calls Tryd.prog 23 #[.slice ao xs.length c] w (Ret fun v w' => ∃ u, v = .tuple #[u, .nilIface] ∧ Sat w w' (vec 5 1 u (8 + xs.length) (bvs (wframe xs)))) := by
  have hmay : mayB (xs.length : Int) = true := decide_eq_true ⟨by omega, by omega⟩
  obtain ⟨b, of, rfl, hcells⟩ := hr.addr (by intro e; have := bvs_length xs; rw [e] at this; simp at this; omega)
  have hne : ¬ xs = [] := by intro e; rw [e] at h1; simp at h1
  have HT := Hid.mk' hT
  have HR := Hid.mk' hr
  clear hcells hT hr
  go_enter Tryd.func23, Tryd.ntmps23
  go_wp2_with (go_at_call 87; refine (wal_mayBe _).mono ?_; rintro e w' ⟨rfl, rfl⟩; rw [hmay])
  have hs1 := (Sat.refl w).new #[.int .u8 0, .int .u8 0, .int .u8 0, .int .u8 0, .int .u8 0, .int .u8 0, .int .u8 0, .int .u8 0] 154
  refine (wal_put32_sat hs1 0 4 8 (xs.length : Int) (by omega) (by omega) (by omega) (by simp)).mono ?_
  rintro e w1 ⟨v, rfl, rfl, hs2⟩
  clear hs1
  have hl4 : (bvs (num4 xs.length)).length = 4 := by rw [bvs_length]; rfl
  rw [be4_num4 _ (by omega)] at hs2
  have e2 : put [.int .u8 0, .int .u8 0, .int .u8 0, .int .u8 0, .int .u8 0, .int .u8 0, .int .u8 0, .int .u8 0] 0 (bvs (num4 xs.length)) = bvs (num4 xs.length) ++ bvs [0, 0, 0, 0] := by
    simp only [put, List.take_zero, List.nil_append, hl4]
    rfl
  have hs2' : Sat w w1 (1 * blk w.heap.size (bvs (num4 xs.length) ++ bvs [0, 0, 0, 0]) 154) := by rw [← e2]; exact hs2
  have hrd : Rd w1 (some ⟨w.heap.size, 0, none⟩) (bvs (num4 xs.length)) := (Rd.of_heap hs2'.heap).left
  have hlen2 : 4 + 4 ≤ (bvs (num4 xs.length) ++ bvs [0, 0, 0, 0]).length := by rw [List.length_append, hl4]; decide
  clear hs2 e2 hl4
  go_wp2_with fail
  go_region_held3 (fun _ => True) (trivial) (first | (go_at_call 89; go_loud (refine (wal_sum (by exact HT.out.mono hs2'.drew.below) (num4 xs.length) xs _ _ _ _ (by exact hrd.drew) (by exact HR.out.mono hs2'.drew.below) (by rw [num4_length]; omega) (by omega)).mono ?_); rintro e w' ⟨rfl, n, rfl⟩) | (go_at_call 88; go_loud (refine (wal_put32_sat (by repeat (first | exact hs2' | apply Sat.drewN | apply Sat.drew)) 4 4 4 _ (u32_nonneg _) (u32_lt _) (by omega) hlen2).mono ?_); rintro e w2 ⟨v, rfl, rfl, hs3⟩))
  have hs4 : Sat w w2 (1 * blk w.heap.size (bvs (num4 xs.length ++ num4 (crc (num4 xs.length ++ xs)).toNat)) 154) := by
    have e3 : put (bvs (num4 xs.length) ++ bvs [0, 0, 0, 0]) 4 (be4 (ru32 (crc (num4 xs.length ++ xs)))) = bvs (num4 xs.length ++ num4 (crc (num4 xs.length ++ xs)).toNat) := by
      rw [ru32_nat, be4_num4 _ (crc (num4 xs.length ++ xs)).isLt, bvs_append]
      rfl
    rw [← e3]; exact hs3
  clear hs3 hs2' hrd hlen2
  have HL8 := Hid.mk' (show (bvs (num4 xs.length ++ num4 (crc (num4 xs.length ++ xs)).toNat)).length = 8 by rw [bvs_length]; rfl)
  have HF := Hid.mk' (frame_put xs)
  go_wp2_with (first | (at_make; refine sl_make rfl _ _ 22 rfl 5 (.int .u8 0) 1 rfl Tryd.underlying22 info_u8 .i64 .i64 _ _ (8 + xs.length) rfl rfl (by omega) (by omega) (by omega) (by simp only [maxLen]; omega) (by exact hs4) ?_; intro w3 hs5) | ((with_reducible refine gate_op (.call { callee := .builtin .copy, args := #[.tmp 25, .tmp 26], argTypes := #[22, 22] }) rfl ?_); go_loud (refine sl_copy rfl _ _ _ _ rfl 5 Tryd.underlying22 size_u8 _ _ _ _ _ _ rfl rfl _ 0 _ _ (by exact hs5) (bvs (num4 xs.length ++ num4 (crc (num4 xs.length ++ xs)).toNat)) (by rw [HL8.out]; exact (Nat.min_eq_left (by omega)).symm) (fun _ => rfl) (by exact Rd.of_heap hs5.swap.heap) (by rw [HL8.out, List.length_replicate]; omega) (bvs_one _) ?_); intro w4 hs6) | ((with_reducible refine gate_op (.call { callee := .builtin .copy, args := #[.tmp 29, .tmp 30], argTypes := #[22, 22] }) rfl ?_); go_loud (refine sl_copy rfl _ _ _ _ rfl 5 Tryd.underlying22 size_u8 _ _ _ _ _ _ rfl rfl _ 8 _ _ (by exact hs6) (bvs xs) (by rw [bvs_length]; exact (Nat.min_eq_left (by omega)).symm) (fun _ => rfl) (by exact HR.out.mono hs6.below) (by rw [bvs_length, put_length, List.length_replicate]; omega; rw [HL8.out, List.length_replicate]; omega) (bvs_one _) ?_); intro w5 hs7))
  go_ret2
  refine Ret.mk ⟨_, rfl, ?_⟩
  have hf := HF.out
  rw [← hf]
  have h8 := hs7.swap.drop.as_vec (n := 8 + xs.length) (by rw [hf, bvs_length, wframe_length, Nat.mul_one]) (by simp only [maxLen]; omega)
  rw [HP.one_mul] at h8
  exact h8

set_option maxHeartbeats 1600000 in
theorem wal_frame_no {w : World} {E : Nat → Addr} (c1 : w.cell? ⟨gErr 1, 0, none⟩ = some (errv E 1)) (xs : List UInt8) (ao : Option Addr) (c : Nat) (h : ¬ (1 ≤ xs.length ∧ xs.length ≤ 8192)) :
    Calls Tryd.prog 23 #[.slice ao xs.length c] w (Drew (.tuple #[.slice none 0 0, errv E 1]) w) := by
  have hmay : mayB (xs.length : Int) = false := decide_eq_false (fun e => h ⟨by omega, by omega⟩)
  simp only [gErr, errv] at c1
  have HN := Hid.mk' h
  clear h
  go_enter Tryd.func23, Tryd.ntmps23
  go_wp2_with (go_at_call 87; refine (wal_mayBe _).mono ?_; rintro e w' ⟨rfl, rfl⟩; rw [hmay])
  go_quiet (fail)
  go_wp2
  go_ret2
  exact ⟨rfl, _, rfl⟩
end Go.Proofs.YtjhlelcopofkkaaDoor
