/- The document's own frames: a log's good head, by the chapter's words. -/
import Derived.Test.YtjhlelcopofkkaaDoorWal
namespace Go.Proofs.YtjhlelcopofkkaaDoor
open Go.RowKit

theorem u32_and255 (a : Int) (h0 : 0 ≤ a) (h1 : a < 4294967296) : bits .and .u32 a 255 = a % 256 :=
  bits_mask .u32 32 (by decide) (fun n h h' => by rw [IntKind.wrap_u32]; omega) 8 (by decide) a h0 h1

set_option maxHeartbeats 1600000 in
theorem ref13_four {w0 w : World} {F : HP} (v : Value) (m : Nat) (cs : List Value) (hs : Sat w0 w (F * vec 5 1 v m cs)) (hm : m ≤ 140737488351232) (n : Int) (hn : 0 ≤ n) (hn' : n < 4294967296) :
    Calls Tryd.prog 90 #[v, .int .u32 n] w (Ret fun v' w' => Sat w0 w' (F * vec 5 1 v' (m + 4) (cs ++ be4 n))) := by
  have a1 := u32_and255 (n / 65536) (by omega) (by omega)
  have a2 := u32_and255 (n / 256) (by omega) (by omega)
  have a3 := u32_and255 n (by omega) (by omega)
  go_enter Tryd.func90, Tryd.ntmps90
  go_wp2_with (at_builtin; go_loud (refine sl_append rfl _ _ 22 rfl 5 (.int .u8 0) 1 1 Tryd.underlying22 info_u8 rfl (by decide) _ m _ rfl (by exact hs.skip) _ 4 _ (be4 n) rfl rfl (by exact Rd.made _ _ _ _) (by intro u hu; simp [be4] at hu; rcases hu with rfl | rfl | rfl | rfl <;> rfl) (by simp only [maxLen]; omega) (by omega) ?_; intro v' w' hS'))
  go_ret
  exact Ret.mk hS'

theorem conv_num4 {w : World} {xs : List UInt8} {k : Nat} {ao : Option Addr} (hr : Rd w ao (bvs (num4 k) ++ bvs xs)) (c : Nat) :
    (convert 22 9 (.slice ao (4 + xs.length) c)).run Tryd.prog w = .ok (.string (bs (num4 k ++ xs))) w := by
  rw [← bvs_append] at hr
  have := conv_string hr c
  rw [List.length_append, num4_length] at this
  exact this
set_option maxRecDepth 20000 in
set_option maxHeartbeats 1600000 in
theorem ref13_sum {w : World} (xs : List UInt8) (ao : Option Addr) (c : Nat) (hr : Rd w ao (bvs xs)) (hnone : ao = none → xs.length = 0 ∧ c = 0) (hn : xs.length < 2147483648) :
    Calls Tryd.prog 91 #[.slice ao xs.length c] w (Ret fun v w' => v = .int .u32 (ru32 (crc (num4 xs.length ++ xs))) ∧ Sat w w' 1) := by
  have HR := Hid.mk' hr
  have HB := Hid.mk' (be4_num4 xs.length (by omega))
  have HNO := Hid.mk' hnone
  clear hr hnone
  go_enter Tryd.func91, Tryd.ntmps91
  go_wp2_with fail
  refine (ref13_four (.slice none 0 0) 0 [] ((Sat.refl w).vec_nil _ _) (by omega) (xs.length : Int) (by omega) (by omega)).mono ?_
  rintro e w1 ⟨v, rfl, hs1⟩
  rw [HB.out, List.nil_append] at hs1
  have HL := Hid.mk' (bvs_length xs)
  go_wp2_with (at_builtin; refine sl_append_any rfl _ _ 22 rfl 5 (.int .u8 0) 1 1 Tryd.underlying22 info_u8 rfl (by decide) _ 4 _ rfl (by exact hs1) _ xs.length c (bvs xs) rfl HNO.out (by rw [HL.out, Nat.mul_one]) (by exact HR.out.mono hs1.below) (bvs_one _) (by simp only [maxLen]; omega) (by omega) ?_; intro v2 w2 hs2; obtain ⟨ao2, cap2, rfl, hle2, hrd2, hno2⟩ := hs2.vec_rd; clear hno2 hle2; have cv := conv_num4 hrd2 cap2)
  go_wp2_with fail
  refine (ref1_crc (bs (num4 xs.length ++ xs)) (by rw [bs_size, List.length_append, num4_length]; omega)).mono ?_
  rintro e w' ⟨rfl, rfl⟩
  go_wp2
  go_ret
  refine Ret.mk ⟨?_, hs2.drop⟩
  rw [bs_list]
  rfl

set_option maxRecDepth 20000 in
set_option maxHeartbeats 1600000 in
theorem ref13_frame {w : World} (xs : List UInt8) (ao : Option Addr) (c : Nat) (hr : Rd w ao (bvs xs)) (hnone : ao = none → xs.length = 0 ∧ c = 0) (h1 : 1 ≤ xs.length) (h2 : xs.length ≤ 8192) :
    Calls Tryd.prog 24 #[.slice ao xs.length c] w (Ret fun v w' => ∃ u, v = .tuple #[u, .int .i64 0] ∧ Sat w w' (vec 5 1 u (8 + xs.length) (bvs (wframe xs)))) := by
  have h0 : ((xs.length : Int) == 0) = false := beq_eq_false_iff_ne.2 (by omega)
  have HR := Hid.mk' hr
  have HB := Hid.mk' (be4_num4 xs.length (by omega))
  have HB2 := Hid.mk' (be4_num4 (crc (num4 xs.length ++ xs)).toNat (crc (num4 xs.length ++ xs)).isLt)
  have HNO := Hid.mk' hnone
  have HL := Hid.mk' (bvs_length xs)
  have HF := Hid.mk' (show bvs (num4 xs.length) ++ bvs (num4 (crc (num4 xs.length ++ xs)).toNat) ++ bvs xs = bvs (wframe xs) by rw [← bvs_append, ← bvs_append]; rfl)
  clear hr hnone
  go_enter Tryd.func24, Tryd.ntmps24
  go_wp2_with fail
  refine (ref13_four (.slice none 0 0) 0 [] ((Sat.refl w).vec_nil _ _) (by omega) (xs.length : Int) (by omega) (by omega)).mono ?_
  rintro e w1 ⟨v, rfl, hs1⟩
  rw [HB.out, List.nil_append] at hs1
  go_wp2_with fail
  refine (ref13_sum xs ao c (HR.out.mono hs1.below) HNO.out (by omega)).mono ?_
  rintro e w2 ⟨v2, rfl, rfl, hsx⟩
  have hs2 := hs1.then1 hsx
  clear hsx hs1
  go_wp2_with fail
  refine (ref13_four v 4 _ hs2 (by omega) _ (u32_nonneg _) (u32_lt _)).mono ?_
  rintro e w3 ⟨v3, rfl, hs3⟩
  rw [ru32_nat, HB2.out] at hs3
  clear hs2
  go_wp2_with (at_builtin; refine sl_append_any rfl _ _ 22 rfl 5 (.int .u8 0) 1 1 Tryd.underlying22 info_u8 rfl (by decide) _ 8 _ rfl (by exact hs3) _ xs.length c (bvs xs) rfl HNO.out (by rw [HL.out, Nat.mul_one]) (by exact HR.out.mono hs3.below) (bvs_one _) (by simp only [maxLen]; omega) (by omega) ?_; intro v4 w4 hs4)
  go_ret2
  rw [HP.one_mul, HF.out] at hs4
  exact Ret.mk ⟨_, rfl, hs4⟩

theorem ref13_frame_no {w : World} (xs : List UInt8) (ao : Option Addr) (c : Nat) (h : ¬ (1 ≤ xs.length ∧ xs.length ≤ 8192)) :
    Calls Tryd.prog 24 #[.slice ao xs.length c] w (Same (.tuple #[.slice none 0 0, .int .i64 1]) w) := by
  by_cases h1 : xs.length = 0
  · have h0 : ((xs.length : Int) == 0) = true := by rw [h1]; rfl
    have HN := Hid.mk' h
    have H1 := Hid.mk' h1
    clear h h1
    go_enter Tryd.func24, Tryd.ntmps24
    go_wp2_with fail
    go_ret2
    exact ⟨rfl, rfl⟩
  · have h0 : ((xs.length : Int) == 0) = false := beq_eq_false_iff_ne.2 (by omega)
    have hb : 8192 < xs.length := by omega
    clear h
    go_enter Tryd.func24, Tryd.ntmps24
    go_wp2_with fail
    go_ret2
    exact ⟨rfl, rfl⟩
end Go.Proofs.YtjhlelcopofkkaaDoor
