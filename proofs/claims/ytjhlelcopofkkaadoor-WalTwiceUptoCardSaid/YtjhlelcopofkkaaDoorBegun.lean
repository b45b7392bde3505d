/- The chapter's own example of a frame. -/
import Derived.Test.YtjhlelcopofkkaaDoorJoined
namespace Go.Proofs.YtjhlelcopofkkaaDoor
open Go.RowKit

def oneFrame : List UInt8 := [0, 0, 0, 1, 229, 140, 151, 146, 97]
theorem oneFrame_eq : wframe [97] = oneFrame := by decide +kernel
theorem frames_one : frames oneFrame = [[97]] := by
  have h := frames_wframe (p := [97]) [] (by decide) (by decide)
  rw [List.append_nil, oneFrame_eq, frames_short (d := []) (by decide)] at h
  exact h

set_option maxRecDepth 20000 in
set_option maxHeartbeats 6400000 in
theorem law13_begun {w : World} (hT : CrcTab w) : Calls Tryd.prog 37 #[] w (Ret fun v w' => v = .bool true ∧ Sat w w' 1) := by
  have HT := Hid.mk' hT
  clear hT
  have hs1 := (Sat.refl w).new #[.int .u8 0, .int .u8 0, .int .u8 0, .int .u8 1, .int .u8 229, .int .u8 140, .int .u8 151, .int .u8 146, .int .u8 97] 161
  go_enter Tryd.func37, Tryd.ntmps37
  go_wp2_with fail
  have hs2 := hs1.new #[.int .u8 97] 5
  have hrd : Rd _ (some ⟨_, 0, none⟩) (bvs [97]) := Rd.of_heap hs2.heap
  rw [World.size_alloc] at hrd
  generalize hbw : w.heap.size = bw at hs1 hs2 hrd ⊢
  refine (wal_frame (HT.out.mono hs2.below) [97] (some ⟨bw + 1, 0, none⟩) 1 hrd (by decide) (by decide)).mono ?_
  rintro e w2 ⟨v, rfl, u, rfl, hx⟩
  have hs3 := (hs2.drop.glue hx)
  rw [oneFrame_eq] at hs3
  obtain ⟨uo, uc, rfl, hle, hru, hnu⟩ := hs3.vec_rd
  clear hx hs2 hrd hs1
  go_wp2_with fail
  have hs4 : Sat w w2 (1 * blk bw (bvs oneFrame) 161 * vec 5 1 (.slice uo 9 uc) 9 (bvs oneFrame)) := hs3
  obtain ⟨b, o, rfl, hc⟩ := hru.addr (by decide)
  have HU := Hid.mk' hru
  clear hs3 hru hnu
  go_loopw [4] (fun i wr => ∃ k m : Nat, k ≤ 9 ∧ i = .int .i64 k ∧ wr = w2.drewN m) (fun i _ => 9 - (intOf i).toNat)
  case atStart => exact ⟨0, 0, by omega, rfl, rfl⟩
  case round =>
    obtain ⟨k, m, hk, rfl, rfl⟩ := hrel
    by_cases hlt : k < 9
    · have hl : k < oneFrame.length := hlt
      have h1 : w2.cell? ⟨b, o + k, none⟩ = some (.int .u8 (oneFrame[k].toNat : Int)) := hc k _ (bvs_get hl)
      have h2 : w2.cell? ⟨bw, k, none⟩ = some (.int .u8 (oneFrame[k].toNat : Int)) := hs4.swap.cell (bvs_get hl)
      have hb : ((oneFrame[k].toNat : Int) != (oneFrame[k].toNat : Int)) = false := bne_eq_false_iff_eq.2 rfl
      generalize (oneFrame[k].toNat : Int) = z at h1 h2 hb
      clear hc
      go_wp2
      go_quiet (fail)
      go_wp2
      refine ⟨⟨k + 1, _, by omega, rfl, rfl⟩, by simp [intOf]; omega⟩
    · obtain rfl : k = 9 := by omega
      have hs5 := hs4.drewN m
      generalize w2.drewN m = w3 at hs5 ⊢
      go_wp2_with fail
      refine (wal_scan (HT.out.mono hs5.below) oneFrame (some ⟨b, o, none⟩) uc hs5.rd (by have := hle; exact this) (by decide)).mono ?_
      rintro e w4 ⟨v, rfl, vl, rfl, hx⟩
      rw [frames_one] at hx ⊢
      obtain ⟨lo, lc, rfl, hl1, hrl, _⟩ := hx.one'.vecs_rd
      obtain ⟨b2, o2, bo, c2, rfl, hc2, hl2, hr2, _⟩ := hrl.cell (k := 0) (by decide)
      obtain ⟨b3, o3, rfl, hc3⟩ := hr2.addr (by decide)
      have k1 : w4.cell? ⟨b2, o2, none⟩ = some (.slice (some ⟨b3, o3, none⟩) 1 c2) := hc2
      have k2 : w4.cell? ⟨b3, o3, none⟩ = some (.int .u8 97) := hc3 0 _ rfl
      have hs6 := hs5.drop.drop.glue hx
      clear hc2 hc3 hrl hr2 hx hs5 hs4
      go_wp2_with fail
      go_ret
      exact Ret.mk ⟨rfl, hs6.drop⟩
end Go.Proofs.YtjhlelcopofkkaaDoor
