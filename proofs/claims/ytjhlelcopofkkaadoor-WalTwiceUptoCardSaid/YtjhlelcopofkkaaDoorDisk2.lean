/- The program's disk: its operations, by what becomes of what it holds. -/
import Derived.Test.YtjhlelcopofkkaaDoorDisk
import Derived.Deep.RegionLaw
namespace Go.Proofs.YtjhlelcopofkkaaDoor
open Go.RowKit

set_option maxRecDepth 20000 in
set_option maxHeartbeats 3200000 in
theorem disk_put {w0 w : World} {F : HP} {b bd bp : Nat} {D : Dk} (p : List UInt8) (ao : Option Addr) (c : Nat) (_hc : p.length ≤ c) (hno : ao = none → p.length = 0 ∧ c = 0) (hn : p.length ≤ 140737488351232)
    (hp : ∀ w' A, Sat w0 w' (F * A) → Rd w' ao (bvs p)) (hD : D.Ok)
    (hs : Sat w0 w (F * blk bd [.pointer (some ⟨b, 0, none⟩)] 74 * blk bp [.slice ao p.length c] 22 * dk b D)) :
    Calls Tryd.prog 102 #[.pointer (some ⟨bd, 0, none⟩), .pointer (some ⟨bp, 0, none⟩)] w (Ret fun v w' => v = .tuple #[] ∧
      Sat w0 w' (F * blk bd [.pointer (some ⟨b, 0, none⟩)] 74 * blk bp [.slice ao p.length c] 22 * dk b (D.putp p))) := by
  have hfit := disk_fits hs hD p.length hn
  have hrd := hp w _ (hs.perm (B := F * (blk bd [.pointer (some ⟨b, 0, none⟩)] 74 * blk bp [.slice ao p.length c] 22 * dk b D)) (by ac_rfl))
  have kd := hs.rot3.cell (i := 0) (v := .pointer (some ⟨b, 0, none⟩)) rfl
  have kp := hs.swap.cell (i := 0) (v := .slice ao p.length c) rfl
  obtain ⟨bv, av, hs1⟩ := hs.dk_open
  obtain ⟨bo, cap, rfl, hbc, hbc2, _, _⟩ := hs1.rot3.vo_rd
  have k0 := hs1.cell (i := 0) (v := .slice bo D.bytes.length cap) rfl
  have hr := hD.room
  by_cases hf : D.fits p.length
  · have HP := Hid.mk' (show D.putp p = { D with bytes := D.bytes ++ p } from if_pos hf)
    rw [decide_eq_true hf] at hfit
    have HF := Hid.mk' hfit
    have HR := Hid.mk' hrd
    have hfl : D.bytes.length + p.length ≤ D.room := hf
    have HB := Hid.mk' (bvs_length p)
    clear hf hfit hrd hs
    go_enter Tryd.func102, Tryd.ntmps102
    go_wp2_with (first | (go_at_call 103; refine (HF.out).mono ?_; rintro e w' ⟨rfl, m, rfl⟩))
    have f0 := hs1.free 0
    go_region_law ((refine step_append_vo rfl _ _ 22 rfl 5 (.int .u8 0) 1 1 Tryd.underlying22 info_u8 rfl (by decide) _ D.bytes.length _ rfl (by exact (hs1.drewN _).rot3) _ p.length c (bvs p) rfl hno (by rw [HB.out, Nat.mul_one]) (by exact HR.out.drewN) (bvs_one _) (by simp only [maxLen]; omega) (by omega) ?_; intro v' w' hS; obtain ⟨so, cap', rfl, _, _, _, _⟩ := hS.vo_rd; have kd3 := hS.rot5.cell (i := 0) (v := .pointer (some ⟨b, 0, none⟩)) rfl; have f3 := hS.swap.free 0; have k3 := hS.swap.cell (i := 0) (v := .slice bo D.bytes.length cap) rfl))
    all_goals
      go_wp2
      go_end0
      refine Ret.mk ⟨rfl, ?_⟩
      rw [HP.out]
      refine Sat.dk_shut (D := { D with bytes := D.bytes ++ p }) (bv := .slice so (D.bytes.length + p.length) cap') (av := av) ?_
      have h2 := hS.swap.store 0 (.slice so (D.bytes.length + p.length) cap')
      rw [← bvs_append] at h2
      show Sat w0 _ (F * blk bd [.pointer (some ⟨b, 0, none⟩)] 74 * blk bp [.slice ao p.length c] 22 * vo 5 1 _ (D.bytes ++ p).length (bvs (D.bytes ++ p)) * vo 179 2 av D.arms.length (aks D.arms) * blk b [_, .int .i64 D.synced, .int .i64 D.room, .bool D.dead, av] 164)
      rw [List.length_append]
      exact h2.perm (by simp only [List.set_cons_zero]; ac_rfl)
  · have HP := Hid.mk' (show D.putp p = D from if_neg hf)
    rw [decide_eq_false hf] at hfit
    have HF := Hid.mk' hfit
    clear hf hfit hrd
    go_enter Tryd.func102, Tryd.ntmps102
    go_wp2_with (first | (go_at_call 103; refine (HF.out).mono ?_; rintro e w' ⟨rfl, m, rfl⟩))
    go_end0
    exact Ret.mk ⟨rfl, by rw [HP.out]; exact hs.drewN m⟩
end Go.Proofs.YtjhlelcopofkkaaDoor
