/- The walk of the law WalBurst. -/
import Derived.Test.YtjhlelcopofkkaaDoorBurstF
import Derived.Test.YtjhlelcopofkkaaDoorWalTornW
namespace Go.Proofs.YtjhlelcopofkkaaDoor
open Go.RowKit

theorem u32_shr (x : BitVec 32) (j : Nat) : ru32 x / (2 ^ j : Int) = ru32 (x >>> j) := by
  unfold ru32
  rw [BitVec.toNat_ushiftRight, Nat.shiftRight_eq_div_pow]
  push_cast
  rfl
theorem int_u32 (z : Int) (h : (Lit.int .u32 z).wf = true) : ∃ b : BitVec 32, z = ru32 b := by
  have h' : 0 ≤ z ∧ z ≤ 4294967295 := by
    simpa [Lit.wf, IntKind.min, IntKind.max, IntKind.bits, IntKind.signed] using h
  refine ⟨BitVec.ofNat 32 z.toNat, ?_⟩
  unfold ru32
  rw [BitVec.toNat_ofNat]
  omega
theorem u32_bit (x : BitVec 32) (j : Nat) : (bits .and .u32 (ru32 x / (2 ^ j : Int)) 1 == 1) = x.getLsbD j := by
  rw [u32_shr, u32_and1, and1]
  have e : (x >>> j).getLsbD 0 = x.getLsbD j := by rw [BitVec.getLsbD_ushiftRight]; rfl
  rw [e]
  cases x.getLsbD j <;> rfl

theorem u8_one_shl : ∀ t : Fin 8, ((1 <<< UInt8.ofNat t.val : UInt8)).toNat = 2 ^ t.val := by decide +kernel
theorem u8_flip (b : UInt8) (t : Nat) (h : t < 8) : Value.int .u8 (bits .xor .u8 (b.toNat : Int) ((2 : Int) ^ t % (256 : Int))) = bv (b ^^^ (1 <<< UInt8.ofNat t)) := by
  have h1 : ((1 <<< UInt8.ofNat t : UInt8)).toNat = 2 ^ t := u8_one_shl ⟨t, h⟩
  have h3 : (2 : Nat) ^ t ≤ 128 := by
    have := Nat.pow_le_pow_right (show 0 < 2 by decide) (show t ≤ 7 by omega)
    simpa using this
  have h2 : (2 : Int) ^ t % (256 : Int) = (((1 <<< UInt8.ofNat t : UInt8)).toNat : Int) := by
    rw [h1]
    have e : ((2 ^ t : Nat) : Int) = (2 : Int) ^ t := by push_cast; rfl
    rw [← e, Int.emod_eq_of_lt (by omega) (by omega)]
  unfold bv
  rw [h2, UInt8.toNat_xor]
  generalize (1 <<< UInt8.ofNat t : UInt8) = c
  have hb := b.toNat_lt
  have hc := c.toNat_lt
  have hx : b.toNat ^^^ c.toNat < 2 ^ 8 := Nat.xor_lt_two_pow (by simpa using hb) (by simpa using hc)
  simp only [bits]
  congr 1
  show IntKind.u8.wrap ((BitVec.ofInt 8 (b.toNat : Int) ^^^ BitVec.ofInt 8 (c.toNat : Int)).toNat : Int) = _
  rw [BitVec.ofInt_natCast, BitVec.ofInt_natCast, BitVec.toNat_xor, BitVec.toNat_ofNat, BitVec.toNat_ofNat, Nat.mod_eq_of_lt (by omega), Nat.mod_eq_of_lt (by omega), IntKind.wrap_u8]
  omega

set_option maxRecDepth 20000 in
set_option maxHeartbeats 6400000 in
theorem walk_walBurst {w : World} {E : Nat → Addr} (hT : CrcTab w) (hE : w.cell? ⟨gErr 1, 0, none⟩ = some (errv E 1)) (ps : List (List UInt8)) (ao : Option Addr) (c : Nat) (hr : RdL w ao ps) (hn : size ps ≤ 16777216) (who at_ : Int) (mask : BitVec 32) :
    Calls Tryd.prog 7 #[.agg #[.slice ao ps.length c, .int .i64 who, .int .i64 at_, .int .u32 (ru32 mask)]] w (Ret fun v w' => v = .bool true ∧ Sat w w' 1) := by
  have HT := Hid.mk' hT
  have HR := Hid.mk' hr
  have HE := Hid.mk' (show ∀ w' A, Sat w w' A → w'.cell? ⟨gErr 1, 0, none⟩ = some (errv E 1) from fun w' A h => (h.below.cell (World.block_lt_of_cell? _ _ hE)).trans hE)
  have hs0 := (Sat.refl w).new #[.slice ao ps.length c, .int .i64 who, .int .i64 at_, .int .u32 (ru32 mask)] 67
  clear hT hr hE
  go_enter Tryd.func7, Tryd.ntmps7
  go_wp2_with fail
  refine (law13_begun (HT.out.mono hs0.below)).mono ?_
  rintro e w1 ⟨v, rfl, rfl, hx⟩
  have hs1 := hs0.then1 hx
  clear hx hs0
  have k0 := hs1.cell (i := 0) (v := .slice ao ps.length c) rfl
  go_wp2_with fail
  refine (law13_joined (HT.out.mono hs1.below) (HE.out _ _ hs1) ps ao c (HR.out.mono hs1.below) hn).mono ?_
  rintro e w2 ⟨v, rfl, va, vg, ve, rfl, hx⟩
  have hgm := @goodOnes_mem ps
  have hgs : size (goodOnes ps) ≤ 16777216 := by have := size_good_le ps; omega
  generalize goodOnes ps = gs at *
  have hs2 := (hs1.glue hx).perm (B := 1 * blk w.heap.size [.slice ao ps.length c, .int .i64 who, .int .i64 at_, .int .u32 (ru32 mask)] 67 * vecs vg gs * vec 3 1 ve gs.length (ints (ends 0 gs)) * vec 5 1 va (size gs) (bvs (enc gs))) (by rw [HP.one_mul (vec _ _ _ _ _)]; ac_rfl)
  obtain ⟨g1, cg, rfl, hlg, hrg, hng⟩ := hs2.rot3.vecs_rd
  obtain ⟨e1, ce, rfl, hle, hre, hne⟩ := hs2.swap.vec_rd
  have hlz := len_le_size gs
  clear hx hs1 k0
  by_cases hg0 : gs.length = 0
  · obtain ⟨a1, ca, rfl, _, _, _⟩ := hs2.vec_rd
    have h0 : ((gs.length : Int) == 0) = true := by rw [hg0]; rfl
    have H0 := Hid.mk' hg0
    clear hg0
    go_wp2_with fail
    go_ret
    exact Ret.mk ⟨rfl, (Sat.start w).ext hs2.below⟩
  · have hpos : 0 < gs.length := by omega
    have hb0 : ((gs.length : Int) == 0) = false := beq_eq_false_iff_ne.2 (by omega)
    clear hg0
    have kw := hs2.rot4.cell (i := 1) (v := .int .i64 who) rfl
    have ka := hs2.rot4.cell (i := 2) (v := .int .i64 at_) rfl
    obtain ⟨k, hk, hkl⟩ : ∃ k : Nat, pick who gs.length = (k : Int) ∧ k < gs.length := ⟨(pick who gs.length).toNat, by have := pick_nonneg who gs.length; omega, by have := pick_nonneg who gs.length; have := pick_lt who gs.length (by omega); omega⟩
    have hpm := hgm _ (List.getElem_mem hkl)
    obtain ⟨a, ha, hal⟩ : ∃ a : Nat, pick at_ (8 * gs[k].length) = (a : Int) ∧ a < 8 * gs[k].length := ⟨(pick at_ (8 * gs[k].length)).toNat, by have := pick_nonneg at_ (8 * gs[k].length); omega, by have := pick_nonneg at_ (8 * gs[k].length); have := pick_lt at_ (8 * gs[k].length) (by omega); omega⟩
    obtain ⟨b1, o1, bo, cb, rfl, hcg, _, _, _⟩ := hrg.cell hkl
    obtain ⟨b2, o2, rfl, hc2⟩ := hre.addr (by intro e; have := ints_length (ends 0 gs); rw [e, ends_length] at this; simp at this; omega)
    have hce : w2.cell? ⟨b2, o2 + k, none⟩ = some (.int .i64 ((size (gs.take k) : Int) + 8 + gs[k].length)) := by
      have hge := ends_get 0 gs k hkl
      rw [size_take_succ _ _ hkl, Nat.zero_add] at hge
      exact hc2 _ _ (ints_get hge)
    obtain ⟨hla, ⟨_, e0, _⟩ | ⟨b, cap, sp, rfl, hcap, _, hspl, hs3⟩⟩ := hs2.vec_cases
    · omega
    have hsk := size_take_le gs (k + 1)
    rw [size_take_succ _ _ hkl] at hsk
    have HP := Hid.mk' (show ∀ q : List UInt8, q.length = gs[k].length → True from fun _ _ => trivial)
    obtain ⟨p, hp⟩ : ∃ p, gs[k] = p := ⟨_, rfl⟩
    have HGK := Hid.mk' hp
    rw [hp] at hpm hal ha hcg hce hsk
    clear hc2 hre hrg HP hp hs2
    obtain ⟨S, hS⟩ : ∃ S, size (gs.take k) = S := ⟨_, rfl⟩
    rw [hS] at hce hsk
    have HSK := Hid.mk' hS
    clear hS
    go_wp2_with (first | (go_at_call 29; refine (kit_pick _ _ (by omega) (by omega)).mono ?_; rintro e w' ⟨rfl, rfl⟩; rw [hk]))
    go_quiet (fail)
    go_wp2_with (first | (go_at_call 29; go_loud (refine (kit_pick _ _ (by omega) (by omega)).mono ?_); rintro e w' ⟨rfl, rfl⟩; rw [ha]))
    have hs4 := hs3.drewN nq
    generalize w2.drewN nq = w3 at hs4 ⊢
    clear hs3 kw ka hcg hce
    have henc := enc_at gs k hkl
    rw [HGK.out] at henc
    rw [henc] at hs4
    have HEN := Hid.mk' henc
    clear henc
    have HPRE := Hid.mk' (show (enc (gs.take k)).length = S by rw [enc_length, HSK.out])
    have HFR := Hid.mk' (show (∃ j, j < 32 ∧ a + j < 8 * p.length ∧ mask.getLsbD j = true) → frames (enc (gs.take k) ++ (head8 p ++ burst p a mask 32 ++ enc (gs.drop (k + 1)))) = gs.take k from fun h => by
      have := frames_burst hgm k hkl a mask (by rw [HGK.out]; exact h) (enc (gs.drop (k + 1)))
      rw [HGK.out] at this
      exact this)
    have HGM := Hid.mk' hgm
    clear hgm
    generalize enc (gs.take k) = pre at hs4 HEN HPRE HFR
    generalize enc (gs.drop (k + 1)) = post at hs4 HEN HFR
    go_loopw [11, 12] (fun t i wr => ∃ (j : Nat) (tv : Bool), j ≤ 32 ∧ i = .int .i64 j ∧ t = .bool tv ∧ (tv = true ↔ ∃ i, i < j ∧ a + i < 8 * p.length ∧ mask.getLsbD i = true) ∧
      Sat w wr (1 * blk w.heap.size [.slice ao ps.length c, .int .i64 who, .int .i64 at_, .int .u32 (ru32 mask)] 67 * vecs (.slice (some ⟨b1, o1, none⟩) gs.length cg) gs * vec 3 1 (.slice (some ⟨b2, o2, none⟩) gs.length ce) gs.length (ints (ends 0 gs)) * blk b (bvs (pre ++ (head8 p ++ burst p a mask j ++ post)) ++ sp) 5)) (fun _ i _ => 32 - (intOf i).toNat)
    case atStart => exact ⟨0, false, by omega, rfl, rfl, by simp, hs4⟩
    case round =>
      clear hs4
      obtain ⟨j, tv, hj, rfl, rfl, htv, hs5⟩ := hrel
      have HTV := Hid.mk' htv
      clear htv
      have km := hs5.rot4.cell (i := 3) (v := .int .u32 (ru32 mask)) rfl
      by_cases hj32 : j < 32
      · by_cases hin : a + j < 8 * p.length
        · have hbit := u32_bit mask j
          cases hm : mask.getLsbD j with
          | false =>
            rw [hm] at hbit
            have HB := Hid.mk' (show burst p a mask (j + 1) = burst p a mask j by simp only [burst]; rw [if_neg (by rw [hm]; simp)])
            have HV := Hid.mk' (show (∃ i, i < j + 1 ∧ a + i < 8 * p.length ∧ mask.getLsbD i = true) ↔ tv = true by
              rw [HTV.out]
              constructor
              · rintro ⟨i, h1, h2, h3⟩
                by_cases e : i = j
                · subst e; rw [hm] at h3; cases h3
                · exact ⟨i, by omega, h2, h3⟩
              · rintro ⟨i, h1, h2, h3⟩
                exact ⟨i, by omega, h2, h3⟩)
            clear hm
            go_wp2_with fail
            refine ⟨⟨j + 1, tv, by omega, rfl, rfl, HV.out.symm, by rw [HB.out]; exact hs5⟩, by simp [intOf]; omega⟩
          | true =>
            rw [hm] at hbit
            have hql : (a + j) / 8 < (burst p a mask j).length := by rw [burst_length]; omega
            have hpre : (bvs (pre ++ head8 p)).length = S + 8 := by rw [bvs_length, List.length_append, HPRE.out, head8_length]
            have hcell : wr.cell? ⟨b, S + 8 + (a + j) / 8, none⟩ = some (.int .u8 ((burst p a mask j)[(a + j) / 8].toNat : Int)) := hs5.cell (by
              rw [← List.append_assoc, ← List.append_assoc, bvs_append, bvs_append, List.append_assoc, List.append_assoc, List.getElem?_append_right (by rw [hpre]; omega), hpre, Nat.add_sub_cancel_left, List.getElem?_append_left (by rw [bvs_length]; exact hql)]
              exact bvs_get hql)
            have hfree := hs5.free (S + 8 + (a + j) / 8)
            have HFL := Hid.mk' (u8_flip (burst p a mask j)[(a + j) / 8] ((a + j) % 8) (by omega))
            have HM := Hid.mk' hm
            have HB := Hid.mk' (show burst p a mask (j + 1) = (burst p a mask j).set ((a + j) / 8) ((burst p a mask j)[(a + j) / 8] ^^^ (1 <<< UInt8.ofNat ((a + j) % 8))) by
              simp only [burst]
              rw [if_pos ⟨hin, hm⟩]
              unfold flipAt
              rw [List.getD_eq_getElem?_getD, List.getElem?_eq_getElem hql, Option.getD_some])
            have HST := Hid.mk' (show ∀ y : UInt8, Sat w (wr.setCell ⟨b, S + 8 + (a + j) / 8, none⟩ (bv y)) (1 * blk w.heap.size [.slice ao ps.length c, .int .i64 who, .int .i64 at_, .int .u32 (ru32 mask)] 67 * vecs (.slice (some ⟨b1, o1, none⟩) gs.length cg) gs * vec 3 1 (.slice (some ⟨b2, o2, none⟩) gs.length ce) gs.length (ints (ends 0 gs)) * blk b (bvs (pre ++ (head8 p ++ (burst p a mask j).set ((a + j) / 8) y ++ post)) ++ sp) 5) from fun y => by
              have h := hs5.store (S + 8 + (a + j) / 8) (bv y)
              have e : (bvs (pre ++ (head8 p ++ burst p a mask j ++ post)) ++ sp).set (S + 8 + (a + j) / 8) (bv y) = bvs (pre ++ (head8 p ++ (burst p a mask j).set ((a + j) / 8) y ++ post)) ++ sp := by
                rw [← List.append_assoc, ← List.append_assoc, ← List.append_assoc, ← List.append_assoc, bvs_append, bvs_append, bvs_append (pre ++ head8 p ++ List.set _ _ _), bvs_append (pre ++ head8 p) (List.set _ _ _), List.append_assoc, List.append_assoc, List.set_append_right _ _ (by rw [hpre]; omega), hpre, Nat.add_sub_cancel_left, List.set_append_left _ _ (by rw [bvs_length]; exact hql)]
                simp only [List.append_assoc, bvs, List.map_set]
              rw [e] at h
              exact h)
            clear hm HTV
            go_wp2_with fail
            refine ⟨⟨j + 1, true, by omega, rfl, rfl, ⟨fun _ => ⟨j, by omega, hin, HM.out⟩, fun _ => rfl⟩, ?_⟩, by simp [intOf]; omega⟩
            rw [HB.out, HFL.out]
            exact HST.out _
        · have hbo : ¬ (a + j < 8 * p.length) := hin
          have HB := Hid.mk' (show burst p a mask (j + 1) = burst p a mask j by simp only [burst]; rw [if_neg (fun h => hbo h.1)])
          have HV := Hid.mk' (show (∃ i, i < j + 1 ∧ a + i < 8 * p.length ∧ mask.getLsbD i = true) ↔ tv = true by
            rw [HTV.out]
            constructor
            · rintro ⟨i, h1, h2, h3⟩
              exact ⟨i, by omega, h2, h3⟩
            · rintro ⟨i, h1, h2, h3⟩
              exact ⟨i, by omega, h2, h3⟩)
          clear hbo
          go_wp2_with fail
          refine ⟨⟨j + 1, tv, by omega, rfl, rfl, HV.out.symm, by rw [HB.out]; exact hs5⟩, by simp [intOf]; omega⟩
      · obtain rfl : j = 32 := by omega
        clear hj hj32
        cases tv with
        | false =>
          clear HTV
          go_wp2_with fail
          go_ret
          exact Ret.mk ⟨rfl, (Sat.start w).ext hs5.below⟩
        | true =>
          have HF := Hid.mk' (HFR.out (HTV.out.1 rfl))
          clear HTV
          obtain ⟨ga, gc, e1, _, hrg, _⟩ := hs5.rot3.vecs_rd
          cases e1
          obtain ⟨_, _, e2, _, hre, _⟩ := hs5.swap.vec_rd
          cases e2
          have hlen : (pre ++ (head8 p ++ burst p a mask 32 ++ post)).length = size gs := by
            have h1 := congrArg List.length HEN.out
            rw [enc_length] at h1
            rw [h1]
            simp only [List.length_append, burst_length]
          have hrdb : Rd wr (some ⟨b, 0, none⟩) (bvs (pre ++ (head8 p ++ burst p a mask 32 ++ post))) := (Rd.of_heap hs5.heap).left
          have HSC := Hid.mk' (show Calls Tryd.prog 39 #[.slice (some ⟨b, 0, none⟩) (size gs) cap] wr (Ret fun v w' => ∃ vl, v = .tuple #[vl, .int .i64 (S : Nat)] ∧ Sat wr w' (vecs vl (gs.take k))) from by
            have h := wal_scan (w := wr) (HT.out.mono hs5.below) _ (some ⟨b, 0, none⟩) cap hrdb (by rw [hlen]; exact hcap) (by rw [hlen]; exact hgs)
            rw [hlen, HF.out, HSK.out] at h
            exact h)
          have htk : (gs.take k).length = k := by rw [List.length_take]; omega
          have HPL := Hid.mk' (show ∀ q ∈ gs.take k, q.length ≤ 16777216 from fun q hq => by have := (HGM.out q (List.mem_of_mem_take hq)).2; omega)
          have HEG := Hid.mk' (fun j h => ends_get 0 gs j h)
          have HIL := Hid.mk' (show (ints (ends 0 gs)).length = gs.length by rw [ints_length, ends_length])
          clear hlen hrdb HF HFR hla hspl
          by_cases hk0 : 0 < k
          · have hcz : wr.cell? ⟨b2, o2 + (k - 1), none⟩ = some (.int .i64 (S : Nat)) := by
              have h := HEG.out (k - 1) (by omega)
              rw [Nat.zero_add, show k - 1 + 1 = k by omega, HSK.out] at h
              rcases hre with hre | ⟨bb, oo, e3, hcs⟩
              · have := HIL.out; rw [hre] at this; simp at this; omega
              · cases e3
                exact hcs _ _ (ints_get h)
            obtain ⟨k', rfl⟩ : ∃ k', k = k' + 1 := ⟨k - 1, by omega⟩
            rw [Nat.add_sub_cancel] at hcz
            clear hre
            go_wp2_with fail
            refine HSC.out.mono ?_
            rintro e w4 ⟨v, rfl, vl, rfl, hx⟩
            have hs6 := hs5.glue hx
            obtain ⟨l1, cl, rfl, _, hrl, _⟩ := hs6.vecs_rd
            rw [htk] at hx hs6
            have H1 := Hid.mk' (law13_same_true (w := w4) (gs.take (k' + 1)) l1 (some ⟨b1, o1, none⟩) (gs.take (k' + 1)).length (k' + 1) cl cg rfl htk.symm hrl ((hrg.mono hx.below).take (k' + 1)) (by omega) HPL.out)
            rw [htk] at H1
            clear hx
            go_wp2_with fail
            refine H1.out.mono ?_
            rintro e w5 ⟨rfl, m5, rfl⟩
            have hs7 := hs6.drewN m5
            go_wp2_with fail
            go_ret
            exact Ret.mk ⟨rfl, (Sat.start w).ext hs7.below⟩
          · obtain rfl : S = 0 := by
              have h := HSK.out
              rw [show k = 0 by omega] at h
              exact h.symm
            clear hre
            go_wp2_with fail
            refine HSC.out.mono ?_
            rintro e w4 ⟨v, rfl, vl, rfl, hx⟩
            have hs6 := hs5.glue hx
            obtain ⟨l1, cl, rfl, _, hrl, _⟩ := hs6.vecs_rd
            rw [htk] at hx hs6
            have H1 := Hid.mk' (law13_same_true (w := w4) (gs.take k) l1 (some ⟨b1, o1, none⟩) (gs.take k).length k cl cg rfl htk.symm hrl ((hrg.mono hx.below).take k) (by omega) HPL.out)
            rw [htk] at H1
            clear hx
            go_wp2_with fail
            refine H1.out.mono ?_
            rintro e w5 ⟨rfl, m5, rfl⟩
            have hs7 := hs6.drewN m5
            go_wp2_with fail
            go_ret
            exact Ret.mk ⟨rfl, (Sat.start w).ext hs7.below⟩
end Go.Proofs.YtjhlelcopofkkaaDoor
