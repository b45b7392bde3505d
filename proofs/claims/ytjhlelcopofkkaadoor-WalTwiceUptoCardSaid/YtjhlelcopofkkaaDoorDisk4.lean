/- The program's disk: arms, crashes, looks. -/
import Derived.Test.YtjhlelcopofkkaaDoorDisk3
namespace Go.Proofs.YtjhlelcopofkkaaDoor
open Go.RowKit

theorem info_arm : (Tryd.prog.info? 179).map (fun i => (i.zero, i.size, i.bytes)) = some (some (.agg #[.int .i64 0, .int .i64 0]), 2, 16) := by kernel_rfl

set_option maxHeartbeats 3200000 in
theorem disk_arm {w0 w : World} {F : HP} {b : Nat} {D : Dk} (hs : Sat w0 w (F * dk b D)) (after keep : Int) (hn : D.arms.length < 8796093022207) :
    Calls Tryd.prog 58 #[.pointer (some ⟨b, 0, none⟩), .int .i64 after, .int .i64 keep] w (Ret fun v w' => v = .tuple #[] ∧ Sat w0 w' (F * dk b (D.arm after keep))) := by
  obtain ⟨bv, av, hs1⟩ := hs.dk_open
  obtain ⟨ao, cap, rfl, _, _, _, _⟩ := hs1.swap.vo_rd
  have k4 := hs1.cell (i := 4) (v := .slice ao D.arms.length cap) rfl
  have hA := Hid.mk' (show aks (D.arm after keep).arms = aks D.arms ++ [.int .i64 (after.toNat : Int), .int .i64 keep] by unfold Dk.arm; rw [aks_append]; rfl)
  have hL := Hid.mk' (show (D.arm after keep).arms.length = D.arms.length + 1 by unfold Dk.arm; rw [List.length_append]; rfl)
  clear hs
  by_cases ha : after < 0
  · have HM := Hid.mk' (show (after.toNat : Int) = 0 by omega)
    go_enter Tryd.func58, Tryd.ntmps58
    go_wp2_with (at_builtin; go_loud (refine sl_append_vo rfl _ _ 162 rfl 179 (.agg #[.int .i64 0, .int .i64 0]) 2 16 Tryd.underlying162 info_arm rfl (by decide) _ D.arms.length _ rfl (by exact hs1.swap.skip) _ 1 _ [.int .i64 0, .int .i64 keep] rfl (fun h => by cases h) rfl (by exact Rd.made _ _ _ _) (by intro u hu; simp at hu; rcases hu with rfl | rfl <;> rfl) (by simp only [maxLen]; omega) (by omega) ?_); intro v' w' hS; obtain ⟨so, cap', rfl, _, _, _, _⟩ := hS.vo_rd; have q4 := hS.swap.cell (i := 4) (v := .slice ao D.arms.length cap) rfl; have p4 := hS.swap.free 4)
    go_end0
    refine Ret.mk ⟨rfl, ?_⟩
    refine Sat.dk_shut (D := D.arm after keep) (bv := bv) (av := .slice so (D.arms.length + 1) cap') ?_
    rw [hA.out, hL.out, HM.out]
    exact hS.swap.store 4 (.slice so (D.arms.length + 1) cap')
  · have HM := Hid.mk' (show (after.toNat : Int) = after by omega)
    have ha' : 0 ≤ after := by omega
    clear ha
    go_enter Tryd.func58, Tryd.ntmps58
    go_wp2_with (at_builtin; go_loud (refine sl_append_vo rfl _ _ 162 rfl 179 (.agg #[.int .i64 0, .int .i64 0]) 2 16 Tryd.underlying162 info_arm rfl (by decide) _ D.arms.length _ rfl (by exact hs1.swap.skip) _ 1 _ [.int .i64 after, .int .i64 keep] rfl (fun h => by cases h) rfl (by exact Rd.made _ _ _ _) (by intro u hu; simp at hu; rcases hu with rfl | rfl <;> rfl) (by simp only [maxLen]; omega) (by omega) ?_); intro v' w' hS; obtain ⟨so, cap', rfl, _, _, _, _⟩ := hS.vo_rd; have q4 := hS.swap.cell (i := 4) (v := .slice ao D.arms.length cap) rfl; have p4 := hS.swap.free 4)
    go_end0
    refine Ret.mk ⟨rfl, ?_⟩
    refine Sat.dk_shut (D := D.arm after keep) (bv := bv) (av := .slice so (D.arms.length + 1) cap') ?_
    rw [hA.out, hL.out, HM.out]
    exact hS.swap.store 4 (.slice so (D.arms.length + 1) cap')

set_option maxHeartbeats 1600000 in
theorem disk_crash {w0 w : World} {F : HP} {b : Nat} {D : Dk} (hs : Sat w0 w (F * dk b D)) (hD : D.Ok) (keep : Int) (h1 : -9223372036854775808 ≤ keep) (h2 : keep ≤ 9223372036854775807) :
    Calls Tryd.prog 62 #[.pointer (some ⟨b, 0, none⟩), .int .i64 keep] w (Ret fun v w' => v = .tuple #[] ∧ Sat w0 w' (F * dk b (D.crash keep))) := by
  obtain ⟨bv, av, hs1⟩ := hs.dk_open
  have k3 := hs1.cell (i := 3) (v := .bool D.dead) rfl
  have HF := Hid.mk' (disk_fail hs hD keep h1 h2)
  clear hs1
  cases hd : D.dead with
  | true =>
    have HR := Hid.mk' (show D.crash keep = D from if_pos hd)
    rw [hd] at k3
    clear hd
    go_enter Tryd.func62, Tryd.ntmps62
    go_wp2_with fail
    go_end0
    exact Ret.mk ⟨rfl, by rw [HR.out]; exact hs⟩
  | false =>
    have HR := Hid.mk' (show D.crash keep = D.fail keep from if_neg (by rw [hd]; simp))
    rw [hd] at k3
    clear hd
    go_enter Tryd.func62, Tryd.ntmps62
    go_wp2_with (go_at_call 122; refine HF.out.mono ?_; rintro e w2 ⟨v, rfl, rfl, hs2⟩)
    go_end0
    exact Ret.mk ⟨rfl, by rw [HR.out]; exact hs2⟩

theorem disk_dead {w0 w : World} {F : HP} {b : Nat} {D : Dk} (hs : Sat w0 w (F * dk b D)) :
    Calls Tryd.prog 53 #[.pointer (some ⟨b, 0, none⟩)] w (Same (.bool D.dead) w) := by
  obtain ⟨bv, av, hs1⟩ := hs.dk_open
  have k3 := hs1.cell (i := 3) (v := .bool D.dead) rfl
  clear hs1
  go_enter Tryd.func53, Tryd.ntmps53
  go_wp2_with fail
  go_ret
  exact ⟨rfl, rfl⟩

theorem disk_revive {w0 w : World} {F : HP} {b : Nat} {D : Dk} (hs : Sat w0 w (F * dk b D)) :
    Calls Tryd.prog 63 #[.pointer (some ⟨b, 0, none⟩)] w (Ret fun v w' => v = .tuple #[] ∧ Sat w0 w' (F * dk b D.revive)) := by
  obtain ⟨bv, av, hs1⟩ := hs.dk_open
  have k3 := hs1.cell (i := 3) (v := .bool D.dead) rfl
  have f3 := hs1.free 3
  go_enter Tryd.func63, Tryd.ntmps63
  go_wp2_with fail
  go_end0
  exact Ret.mk ⟨rfl, Sat.dk_shut (D := D.revive) (bv := bv) (av := av) (hs1.store 3 (.bool false))⟩

set_option maxRecDepth 20000 in
set_option maxHeartbeats 3200000 in
theorem disk_look {w0 w : World} {F : HP} {b : Nat} {D : Dk} (hD : D.Ok) (hs : Sat w0 w (F * dk b D)) :
    Calls Tryd.prog 61 #[.pointer (some ⟨b, 0, none⟩)] w (Ret fun v w' => ∃ u, v = .tuple #[u, .int .i64 D.synced] ∧ Sat w0 w' (F * dk b D * vec 5 1 u D.bytes.length (bvs D.bytes))) := by
  obtain ⟨bv, av, hs1⟩ := hs.dk_open
  obtain ⟨bo, cap, rfl, _, _, hrd, _⟩ := hs1.rot3.vo_rd
  have k0 := hs1.cell (i := 0) (v := .slice bo D.bytes.length cap) rfl
  have k1 := hs1.cell (i := 1) (v := .int .i64 D.synced) rfl
  have HF := Hid.mk' (fun m => disk_fresh (w := w.drewN m) D.bytes bo cap hrd.drewN hD.bytes)
  clear hs1 hrd
  go_enter Tryd.func61, Tryd.ntmps61
  go_wp2_with fail
  go_region_held3 (fun wr => wr.cell? ⟨b, 0, none⟩ = some (.slice bo D.bytes.length cap) ∧ wr.cell? ⟨b, 1, none⟩ = some (.int .i64 D.synced)) (first | exact ⟨k0, k1⟩ | exact ⟨(hx.below.cell (World.block_lt_of_cell? _ _ k0)).trans k0, (hx.below.cell (World.block_lt_of_cell? _ _ k1)).trans k1⟩)
    ((go_at_call 99; go_loud (refine (HF.out 1).mono ?_); rintro e w3 ⟨v, rfl, hx⟩))
  go_wp2
  go_ret2
  exact Ret.mk ⟨_, rfl, (hs.drewN 1).glue hx⟩

set_option maxHeartbeats 3200000 in
theorem disk_open {w0 w : World} {F : HP} (hs : Sat w0 w F) (xs : List UInt8) (ao : Option Addr) (c : Nat) (hr : Rd w ao (bvs xs)) (hn : xs.length ≤ 140737488351232) (room : Int) :
    Calls Tryd.prog 42 #[.slice ao xs.length c, .int .i64 room] w (Ret fun v w' => ∃ b, v = .pointer (some ⟨b, 0, none⟩) ∧ Sat w0 w' (F * dk b (Dk.new xs room))) := by
  have HF := Hid.mk' (disk_fresh xs ao c hr hn)
  have HR := Hid.mk' (show ((Dk.new xs room).room : Int) = min (max room 0) 1073741824 by show (((min (max room 0) 1073741824).toNat : Nat) : Int) = _; omega)
  clear hr
  go_enter Tryd.func42, Tryd.ntmps42
  go_wp2_with (go_at_call 99; refine HF.out.mono ?_; rintro e w3 ⟨v, rfl, hx⟩; have hs2 := hs.glue hx; clear hx; obtain ⟨uo, uc, rfl, _, _, _⟩ := hs2.vec_rd)
  all_goals
    go_ret
    refine Ret.mk ⟨_, rfl, Sat.dk_shut (D := Dk.new xs room) (bv := .slice uo xs.length uc) (av := .slice none 0 0) ?_⟩
    rw [HR.out]
    first
      | (rw [show min (max room 0) 1073741824 = 0 by omega]; exact ((hs2.vec_vo.vec_nil _ _).vec_vo).new _ _)
      | (rw [show min (max room 0) 1073741824 = room by omega]; exact ((hs2.vec_vo.vec_nil _ _).vec_vo).new _ _)
      | (rw [show min (max room 0) 1073741824 = 1073741824 by omega]; exact ((hs2.vec_vo.vec_nil _ _).vec_vo).new _ _)
theorem disk_new {w0 w : World} {F : HP} (hs : Sat w0 w F) (room : Int) :
    Calls Tryd.prog 56 #[.int .i64 room] w (Ret fun v w' => ∃ b, v = .pointer (some ⟨b, 0, none⟩) ∧ Sat w0 w' (F * dk b (Dk.new [] room))) := by
  have HO := Hid.mk' (disk_open hs [] none 0 (Rd.nil _ _) (by simp) room)
  go_enter Tryd.func56, Tryd.ntmps56
  go_wp2_with (go_at_call 42; refine HO.out.mono ?_; rintro e w3 ⟨v, rfl, b, rfl, hx⟩)
  go_ret
  exact Ret.mk ⟨_, rfl, hx⟩
end Go.Proofs.YtjhlelcopofkkaaDoor
