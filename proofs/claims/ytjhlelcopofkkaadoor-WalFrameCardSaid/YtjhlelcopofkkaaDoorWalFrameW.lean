/- The walk of the law WalFrame. -/
import Derived.Test.YtjhlelcopofkkaaDoorRef13
namespace Go.Proofs.YtjhlelcopofkkaaDoor
open Go.RowKit

theorem same_true {w : World} (xs : List UInt8) (ao bo : Option Addr) (n m c d : Nat) (hn' : n = xs.length) (hm' : m = xs.length) (hr : Rd w ao (bvs xs)) (hq : Rd w bo (bvs xs)) (hn : xs.length ≤ 140737488351232) :
    Calls Tryd.prog 25 #[.slice ao n c, .slice bo m d] w (Drew (.bool true) w) := by
  subst hn'; subst hm'
  exact (ref0_sameBytes xs xs ao bo c d hr hq hn).mono fun e w' h => by rw [decide_eq_true rfl] at h; exact h

/-- The first k bytes one higher. -/
def upTo (xs : List UInt8) (k : Nat) : List UInt8 := (xs.take k).map (· + 1) ++ xs.drop k
theorem upTo_length (xs : List UInt8) (k : Nat) : (upTo xs k).length = xs.length := by simp [upTo]; omega
theorem upTo_cell {xs : List UInt8} {k : Nat} {m : List Value} (h : k < xs.length) : (bvs (upTo xs k) ++ [Value.int .u8 170, .int .u8 187] ++ m)[k]? = some (.int .u8 (xs[k].toNat : Int)) := by
  rw [List.append_assoc, List.getElem?_append_left (by rw [bvs_length, upTo_length]; exact h)]
  have e : (upTo xs k)[k]? = some xs[k] := by
    unfold upTo
    rw [List.getElem?_append_right (by simp; omega)]
    simp [Nat.min_eq_left (Nat.le_of_lt h), h]
  simp only [bvs, List.getElem?_map, e]
  rfl
theorem upTo_set {xs : List UInt8} {k : Nat} {m : List Value} (h : k < xs.length) : (bvs (upTo xs k) ++ [Value.int .u8 170, .int .u8 187] ++ m).set k (bv (xs[k] + 1)) = bvs (upTo xs (k + 1)) ++ [Value.int .u8 170, .int .u8 187] ++ m := by
  rw [List.append_assoc, List.set_append_left _ _ (by rw [bvs_length, upTo_length]; exact h), List.append_assoc]
  congr 1
  rw [bvs, ← List.map_set]
  congr 1
  unfold upTo
  rw [List.set_append_right _ _ (by simp; omega), take_snoc xs k h, List.map_append, List.append_assoc]
  congr 1
  rw [List.drop_eq_getElem_cons h, List.length_map, List.length_take, Nat.min_eq_left (Nat.le_of_lt h), Nat.sub_self]
  rfl
theorem u8_succ (b : UInt8) : Value.int .u8 (((b.toNat : Int) + 1) % 256) = bv (b + 1) := by
  unfold bv
  rw [UInt8.toNat_add]
  congr 1
set_option maxRecDepth 20000 in
set_option maxHeartbeats 6400000 in
theorem walk_walFrame_ok {w : World} {E : Nat → Addr} (hT : CrcTab w) (hE : Errs w E) (xs : List UInt8) (ao : Option Addr) (c : Nat) (hr : Rd w ao (bvs xs)) (h1 : 1 ≤ xs.length) (h2 : xs.length ≤ 8192) :
    Calls Tryd.prog 3 #[.slice ao xs.length c] w (Ret fun v w' => v = .bool true ∧ Sat w w' 1) := by
  have HT := Hid.mk' hT
  have HE := Hid.mk' hE
  have HR := Hid.mk' hr
  have HL := Hid.mk' (bvs_length xs)
  clear hT hE hr
  go_enter Tryd.func3, Tryd.ntmps3
  go_wp2_with fail
  refine (kit_copy xs ao c HR.out (by omega)).mono ?_
  rintro e w1 ⟨v1, rfl, hs1⟩
  have hs1 := (Sat.refl w).glue hs1
  obtain ⟨a1, c1, rfl, hc1, hr1, hno1⟩ := hs1.vec_rd
  go_wp2_with fail
  refine (kit_copy xs ao c (HR.out.mono hs1.below) (by omega)).mono ?_
  rintro e w2 ⟨v2, rfl, hs2⟩
  have hs2 := hs1.glue hs2
  clear hs1
  go_wp2_with (at_builtin; refine sl_append rfl _ _ 22 rfl 5 (.int .u8 0) 1 1 Tryd.underlying22 info_u8 rfl (by decide) _ xs.length _ rfl (by exact hs2.skip) _ 2 _ [.int .u8 170, .int .u8 187] rfl rfl (by exact Rd.made _ _ _ _) (by intro u hu; simp at hu; rcases hu with rfl | rfl <;> rfl) (by simp only [maxLen]; omega) (by omega) ?_; intro v3 w3 hs3; obtain ⟨hl3, ⟨e3, en3, _⟩ | ⟨b3, c3, sp3, rfl, q1, q2, q3, hs3⟩⟩ := hs3.vec_cases; (exfalso; omega))
  clear hs2 hr1 hno1
  have hrp : Rd w3 (some ⟨b3, 0, none⟩) (bvs xs) := (Rd.of_heap hs3.heap).left.left
  refine (wal_frame (HT.out.mono hs3.below) (HE.out.mono hs3.below) xs _ c3 hrp h1 h2).mono ?_
  rintro e w4 ⟨v4, rfl, va, rfl, hs4⟩
  have hs4 := hs3.glue hs4
  obtain ⟨aa, ca, rfl, hca, hra, hnoa⟩ := hs4.vec_rd
  clear hs3 hrp
  go_wp2_with fail
  refine (wal_frame (HT.out.mono hs4.below) (HE.out.mono hs4.below) xs _ c3 (Rd.of_heap hs4.swap.heap).left.left h1 h2).mono ?_
  rintro e w5 ⟨v5, rfl, vb, rfl, hs5⟩
  have hs5 := hs4.glue hs5
  obtain ⟨ab, cb, rfl, hcb, hrb, hnob⟩ := hs5.vec_rd
  clear hs4 hra
  go_wp2_with fail
  refine (ref13_frame xs a1 c1 hs5.rot4.rd hs5.rot4.no h1 h2).mono ?_
  rintro e w6 ⟨v6, rfl, vw, rfl, hs6⟩
  have hs6 := hs5.glue hs6
  obtain ⟨aw, cw, rfl, hcw, hrw, hnow⟩ := hs6.vec_rd
  clear hs5 hrb
  have HW := Hid.mk' (wframe_length xs)
  go_wp2_with fail
  refine (same_true (wframe xs) aa aw _ _ _ _ HW.out.symm HW.out.symm hs6.rot3.rd hs6.rd (by rw [HW.out]; omega)).mono ?_
  rintro e w7 ⟨rfl, n7, rfl⟩
  have hs7 := hs6.drewN n7
  generalize w6.drewN n7 = w7 at hs7 ⊢
  clear hs6 hrw
  go_wp2_with fail
  refine (same_true xs _ _ _ _ _ _ rfl rfl (Rd.of_heap hs7.rot4.heap).left.left hs7.rot5.rd (by omega)).mono ?_
  rintro e w8 ⟨rfl, n8, rfl⟩
  have hs8 := hs7.drewN n8
  generalize w7.drewN n8 = w8 at hs8 ⊢
  clear hs7
  have k0 : w8.cell? ⟨b3, xs.length, none⟩ = some (.int .u8 170) := hs8.rot4.cell (by rw [List.append_assoc, List.getElem?_append_right (by rw [HL.out]; omega), HL.out, Nat.sub_self]; rfl)
  have k1 : w8.cell? ⟨b3, xs.length + 1, none⟩ = some (.int .u8 187) := hs8.rot4.cell (by rw [List.append_assoc, List.getElem?_append_right (by rw [HL.out]; omega), HL.out, Nat.add_sub_cancel_left]; rfl)
  go_wp2_with (go_at_call 26; refine (kit_num (HE.out.mono hs8.below) 0 (by omega)).mono ?_; rintro e w' ⟨rfl, rfl⟩)
  clear k0 k1 hnoa hnob hnow
  obtain ⟨hla, ⟨ea, ena, _⟩ | ⟨ba, ca', spa, ea, _, _, _, hs9⟩⟩ := hs8.rot3.vec_cases
  · exfalso; omega
  cases ea
  clear hs8
  go_loopw [13] (fun i wr => ∃ k : Nat, k ≤ 8 + xs.length ∧ i = .int .i64 k ∧ ∃ ns : List Int, Hid (ns.length = 8 + xs.length) ∧ Sat w wr (1 * vec 5 1 (.slice a1 xs.length c1) xs.length (bvs xs) * blk b3 (bvs xs ++ [.int .u8 170, .int .u8 187] ++ sp3) 5 * vec 5 1 (.slice ab (8 + xs.length) cb) (8 + xs.length) (bvs (wframe xs)) * vec 5 1 (.slice aw (8 + xs.length) cw) (8 + xs.length) (bvs (wframe xs)) * blk ba (ns.map (Value.int .u8) ++ spa) 5)) (fun i _ => 8 + xs.length - (intOf i).toNat)
  case atStart => exact ⟨0, by omega, rfl, (wframe xs).map (fun b => (b.toNat : Int)), by show _ = _; rw [List.length_map]; exact HW.out, by rw [List.map_map]; exact hs9⟩
  case round =>
    clear hs9
    obtain ⟨k, hk, rfl, ns, hns, hS⟩ := hrel
    by_cases hlt : k < 8 + xs.length
    · have hkn : k < ns.length := by rw [hns.out]; exact hlt
      have hcell : wr.cell? ⟨ba, k, none⟩ = some (.int .u8 ns[k]) := hS.cell (by rw [List.getElem?_append_left (by simpa using hkn)]; simp [hkn])
      have hfree : wr.frozen? ⟨ba, k, none⟩ = false := hS.free k
      go_wp2_with fail
      refine ⟨⟨k + 1, by omega, rfl, ns.set k (bits BinOp.xor IntKind.u8 ns[k] 255), by show _ = _; rw [List.length_set]; exact hns.out, ?_⟩, by simp [intOf]; omega⟩
      rw [List.map_set, ← List.set_append_left _ _ (by simpa using hkn)]
      exact hS.store k _
    · obtain rfl : k = 8 + xs.length := by omega
      go_wp2_with fail
      refine (same_true (wframe xs) ab aw _ _ _ _ HW.out.symm HW.out.symm hS.rot3.rd hS.swap.rd (by rw [HW.out]; omega)).mono ?_
      rintro e w7 ⟨rfl, n7, rfl⟩
      have hs7 := hS.drewN n7
      generalize wr.drewN n7 = w7 at hs7 ⊢
      clear hS
      go_wp2_with fail
      refine (same_true xs _ _ _ _ _ _ rfl rfl (Rd.of_heap hs7.rot4.heap).left.left hs7.rot5.rd (by omega)).mono ?_
      rintro e w8 ⟨rfl, n8, rfl⟩
      have hs8 := (hs7.drewN n8).rot4
      generalize w7.drewN n8 = w8 at hs8 ⊢
      clear hs7
      go_wp2_with fail
      go_loopw [16] (fun i wr => ∃ k : Nat, k ≤ xs.length ∧ i = .int .i64 k ∧ Sat w wr (1 * vec 5 1 (.slice a1 xs.length c1) xs.length (bvs xs) * vec 5 1 (.slice ab (8 + xs.length) cb) (8 + xs.length) (bvs (wframe xs)) * vec 5 1 (.slice aw (8 + xs.length) cw) (8 + xs.length) (bvs (wframe xs)) * blk ba (ns.map (Value.int .u8) ++ spa) 5 * blk b3 (bvs (upTo xs k) ++ [.int .u8 170, .int .u8 187] ++ sp3) 5)) (fun i _ => xs.length - (intOf i).toNat)
      case atStart => exact ⟨0, by omega, rfl, by exact hs8⟩
      case round =>
        clear hs8
        obtain ⟨k, hk, rfl, hS⟩ := hrel
        by_cases hlt : k < xs.length
        · have hcell : wr.cell? ⟨b3, k, none⟩ = some (.int .u8 (xs[k].toNat : Int)) := hS.cell (upTo_cell hlt)
          have hfree : wr.frozen? ⟨b3, k, none⟩ = false := hS.free k
          go_wp2_with fail
          refine ⟨⟨k + 1, by omega, rfl, ?_⟩, by simp [intOf]; omega⟩
          rw [← upTo_set hlt, u8_succ]
          exact hS.store k _
        · obtain rfl : k = xs.length := by omega
          have HU := Hid.mk' (upTo_length xs xs.length)
          generalize upTo xs xs.length = ys at hS HU
          go_wp2_with fail
          have hF1 := wal_frame (HT.out.mono hS.below) (HE.out.mono hS.below) ys (some ⟨b3, 0, none⟩) c3 (Rd.of_heap hS.heap).left.left (by rw [HU.out]; exact h1) (by rw [HU.out]; exact h2)
          rw [HU.out] at hF1
          refine hF1.mono ?_
          clear hF1
          rintro e w9 ⟨v9, rfl, vc, rfl, hs9⟩
          have hs9 := hS.glue hs9
          obtain ⟨ac, cc, rfl, hcc, hrc, hnoc⟩ := hs9.vec_rd
          clear hS hrc
          go_wp2_with fail
          have hF2 := ref13_frame (w := w9) ys (some ⟨b3, 0, none⟩) c3 (Rd.of_heap hs9.swap.heap).left.left (fun h => by cases h) (by rw [HU.out]; exact h1) (by rw [HU.out]; exact h2)
          rw [HU.out] at hF2
          refine hF2.mono ?_
          clear hF2
          rintro e w10 ⟨v10, rfl, vo, rfl, hs10⟩
          have hs10 := hs9.glue hs10
          obtain ⟨ao', co, rfl, hco, hro, hnoo⟩ := hs10.vec_rd
          clear hs9
          go_wp2_with fail
          refine (same_true (wframe ys) ac ao' _ _ _ _ (by rw [wframe_length, HU.out]) (by rw [wframe_length, HU.out]) hs10.swap.rd hs10.rd (by rw [wframe_length, HU.out]; omega)).mono ?_
          rintro e w11 ⟨rfl, n11, rfl⟩
          have hs11 := hs10.drewN n11
          generalize w10.drewN n11 = w11 at hs11 ⊢
          clear hs10 hro hnoc hnoo
          go_wp2_with fail
          go_ret
          exact Ret.mk ⟨rfl, ⟨hs11.below, _, fun _ => rfl, fun b o h => by simp at h⟩⟩

theorem same_nil {w : World} : Calls Tryd.prog 25 #[.slice none 0 0, .slice none 0 0] w (Drew (.bool true) w) :=
  same_true [] none none 0 0 0 0 rfl rfl (Rd.nil _ _) (Rd.nil _ _) (by decide)
set_option maxRecDepth 20000 in
set_option maxHeartbeats 6400000 in
theorem walk_walFrame_no {w : World} {E : Nat → Addr} (hE : Errs w E) (xs : List UInt8) (ao : Option Addr) (c : Nat) (hr : Rd w ao (bvs xs)) (h : ¬ (1 ≤ xs.length ∧ xs.length ≤ 8192)) (hn : xs.length ≤ 140737488351232) :
    Calls Tryd.prog 3 #[.slice ao xs.length c] w (Ret fun v w' => v = .bool true ∧ Sat w w' 1) := by
  have HE := Hid.mk' hE
  have HR := Hid.mk' hr
  have HL := Hid.mk' (bvs_length xs)
  have HN := Hid.mk' h
  clear hE hr h
  go_enter Tryd.func3, Tryd.ntmps3
  go_wp2_with fail
  refine (kit_copy xs ao c HR.out hn).mono ?_
  rintro e w1 ⟨v1, rfl, hs1⟩
  have hs1 := (Sat.refl w).glue hs1
  obtain ⟨a1, c1, rfl, hc1, hr1, hno1⟩ := hs1.vec_rd
  go_wp2_with fail
  refine (kit_copy xs ao c (HR.out.mono hs1.below) hn).mono ?_
  rintro e w2 ⟨v2, rfl, hs2⟩
  have hs2 := hs1.glue hs2
  clear hs1
  go_wp2_with (at_builtin; refine sl_append rfl _ _ 22 rfl 5 (.int .u8 0) 1 1 Tryd.underlying22 info_u8 rfl (by decide) _ xs.length _ rfl (by exact hs2.skip) _ 2 _ [.int .u8 170, .int .u8 187] rfl rfl (by exact Rd.made _ _ _ _) (by intro u hu; simp at hu; rcases hu with rfl | rfl <;> rfl) (by simp only [maxLen]; omega) (by omega) ?_; intro v3 w3 hs3; obtain ⟨hl3, ⟨e3, en3, _⟩ | ⟨b3, c3, sp3, rfl, q1, q2, q3, hs3⟩⟩ := hs3.vec_cases; (exfalso; omega))
  clear hs2 hr1 hno1
  refine (wal_frame_no (HE.out.mono hs3.below) xs _ c3 HN.out).mono ?_
  rintro e w4 ⟨rfl, n4, rfl⟩
  have hs4 := hs3.drewN n4
  generalize w3.drewN n4 = w4 at hs4 ⊢
  clear hs3
  go_wp2_with fail
  refine (wal_frame_no (HE.out.mono hs4.below) xs _ c3 HN.out).mono ?_
  rintro e w5 ⟨rfl, n5, rfl⟩
  have hs5 := hs4.drewN n5
  generalize w4.drewN n5 = w5 at hs5 ⊢
  clear hs4
  go_wp2_with fail
  refine (ref13_frame_no xs a1 c1 HN.out).mono ?_
  rintro e w6 ⟨rfl, rfl⟩
  go_wp2_with fail
  refine same_nil.mono ?_
  rintro e w7 ⟨rfl, n7, rfl⟩
  have hs7 := hs5.drewN n7
  generalize w5.drewN n7 = w7 at hs7 ⊢
  clear hs5
  go_wp2_with fail
  refine (same_true xs _ _ _ _ _ _ rfl rfl (Rd.of_heap hs7.heap).left.left hs7.swap.rd hn).mono ?_
  rintro e w8 ⟨rfl, n8, rfl⟩
  have hs8 := hs7.drewN n8
  generalize w7.drewN n8 = w8 at hs8 ⊢
  clear hs7
  have k0 : w8.cell? ⟨b3, xs.length, none⟩ = some (.int .u8 170) := hs8.cell (by rw [List.append_assoc, List.getElem?_append_right (by rw [HL.out]; omega), HL.out, Nat.sub_self]; rfl)
  have k1 : w8.cell? ⟨b3, xs.length + 1, none⟩ = some (.int .u8 187) := hs8.cell (by rw [List.append_assoc, List.getElem?_append_right (by rw [HL.out]; omega), HL.out, Nat.add_sub_cancel_left]; rfl)
  go_wp2_with (go_at_call 26; refine (kit_num (HE.out.mono hs8.below) 1 (by omega)).mono ?_; rintro e w' ⟨rfl, rfl⟩)
  clear k0 k1
  go_loopw [13] (fun i wr => i = .int .i64 0 ∧ wr = w8) (fun i _ => 0)
  case atStart => exact ⟨rfl, rfl⟩
  case round =>
    obtain ⟨rfl, rfl⟩ := hrel
    go_wp2_with fail
    refine same_nil.mono ?_
    rintro e w7 ⟨rfl, n7, rfl⟩
    have hs7 := hs8.drewN n7
    generalize wr.drewN n7 = w7 at hs7 ⊢
    go_wp2_with fail
    refine (same_true xs _ _ _ _ _ _ rfl rfl (Rd.of_heap hs7.heap).left.left hs7.swap.rd hn).mono ?_
    rintro e w8 ⟨rfl, n8, rfl⟩
    have hs8 := (hs7.drewN n8)
    generalize w7.drewN n8 = w8 at hs8 ⊢
    clear hs7
    go_wp2_with fail
    go_loopw [16] (fun i wr => ∃ k : Nat, k ≤ xs.length ∧ i = .int .i64 k ∧ Sat w wr (1 * vec 5 1 (.slice a1 xs.length c1) xs.length (bvs xs) * blk b3 (bvs (upTo xs k) ++ [.int .u8 170, .int .u8 187] ++ sp3) 5)) (fun i _ => xs.length - (intOf i).toNat)
    case atStart => exact ⟨0, by omega, rfl, by exact hs8⟩
    case round =>
      clear hs8
      obtain ⟨k, hk, rfl, hS⟩ := hrel
      by_cases hlt : k < xs.length
      · have hcell : wr.cell? ⟨b3, k, none⟩ = some (.int .u8 (xs[k].toNat : Int)) := hS.cell (upTo_cell hlt)
        have hfree : wr.frozen? ⟨b3, k, none⟩ = false := hS.free k
        go_wp2_with fail
        refine ⟨⟨k + 1, by omega, rfl, ?_⟩, by simp [intOf]; omega⟩
        rw [← upTo_set hlt, u8_succ]
        exact hS.store k _
      · obtain rfl : k = xs.length := by omega
        have HU := Hid.mk' (upTo_length xs xs.length)
        generalize upTo xs xs.length = ys at hS HU
        go_wp2_with fail
        have hF1 := wal_frame_no (HE.out.mono hS.below) ys (some ⟨b3, 0, none⟩) c3 (by rw [HU.out]; exact HN.out)
        rw [HU.out] at hF1
        refine hF1.mono ?_
        clear hF1
        rintro e w9 ⟨rfl, n9, rfl⟩
        go_wp2_with fail
        have hF2 := ref13_frame_no (w := wr.drewN n9) ys (some ⟨b3, 0, none⟩) c3 (by rw [HU.out]; exact HN.out)
        rw [HU.out] at hF2
        refine hF2.mono ?_
        clear hF2
        rintro e w10 ⟨rfl, rfl⟩
        go_wp2_with fail
        refine same_nil.mono ?_
        rintro e w11 ⟨rfl, n11, rfl⟩
        go_wp2_with fail
        go_ret
        exact Ret.mk ⟨rfl, hS.drop.drop.drewN _⟩
end Go.Proofs.YtjhlelcopofkkaaDoor
