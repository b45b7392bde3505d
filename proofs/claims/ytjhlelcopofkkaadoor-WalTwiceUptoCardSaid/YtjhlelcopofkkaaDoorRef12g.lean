/- The document's disk: what is no operation. -/
import Derived.Test.YtjhlelcopofkkaaDoorRef12f
namespace Go.Proofs.YtjhlelcopofkkaaDoor
open Go.RowKit

set_option maxHeartbeats 3200000 in
theorem ref12_arm {w0 w : World} {F : HP} {b : Nat} {D : Dk} (hs : Sat w0 w (F * rk b D)) (after keep : Int) (hn : D.arms.length < 8796093022207) :
    Calls Tryd.prog 113 #[.pointer (some ⟨b, 0, none⟩), .int .i64 after, .int .i64 keep] w (Ret fun v w' => v = .tuple #[] ∧ Sat w0 w' (F * rk b (D.arm after keep))) := by
  obtain ⟨sv, tv, av, hs1⟩ := hs.rk_open
  obtain ⟨ao, cap, rfl, _, _, _⟩ := hs1.swap.vec_rd
  have k4 := hs1.cell (i := 4) (v := .slice ao D.arms.length cap) rfl
  have hA := Hid.mk' (show aks (D.arm after keep).arms = aks D.arms ++ [.int .i64 (after.toNat : Int), .int .i64 keep] by unfold Dk.arm; rw [aks_append]; rfl)
  have hL := Hid.mk' (show (D.arm after keep).arms.length = D.arms.length + 1 by unfold Dk.arm; rw [List.length_append]; rfl)
  clear hs
  by_cases ha : after < 0
  · have HM := Hid.mk' (show (after.toNat : Int) = 0 by omega)
    go_enter Tryd.func113, Tryd.ntmps113
    go_wp2_with (at_builtin; go_loud (refine sl_append rfl _ _ 165 rfl 198 (.agg #[.int .i64 0, .int .i64 0]) 2 16 Tryd.underlying165 info_Arm rfl (by decide) _ D.arms.length _ rfl (by exact hs1.swap.skip) _ 1 _ [.int .i64 0, .int .i64 keep] rfl rfl (by exact Rd.made _ _ _ _) (by intro u hu; simp at hu; rcases hu with rfl | rfl <;> rfl) (by simp only [maxLen]; omega) (by omega) ?_); intro v' w' hS; obtain ⟨so, cap', rfl, _, _, _⟩ := hS.vec_rd; have q4 := hS.swap.cell (i := 4) (v := .slice ao D.arms.length cap) rfl; have p4 := hS.swap.free 4)
    go_end0
    refine Ret.mk ⟨rfl, ?_⟩
    refine Sat.rk_shut (D := D.arm after keep) _ _ rfl rfl (sv := sv) (tv := tv) (av := .slice so (D.arms.length + 1) cap') ?_
    rw [hA.out, hL.out, HM.out]
    exact hS.swap.store 4 (.slice so (D.arms.length + 1) cap')
  · have HM := Hid.mk' (show (after.toNat : Int) = after by omega)
    have ha' : 0 ≤ after := by omega
    clear ha
    go_enter Tryd.func113, Tryd.ntmps113
    go_wp2_with (at_builtin; go_loud (refine sl_append rfl _ _ 165 rfl 198 (.agg #[.int .i64 0, .int .i64 0]) 2 16 Tryd.underlying165 info_Arm rfl (by decide) _ D.arms.length _ rfl (by exact hs1.swap.skip) _ 1 _ [.int .i64 after, .int .i64 keep] rfl rfl (by exact Rd.made _ _ _ _) (by intro u hu; simp at hu; rcases hu with rfl | rfl <;> rfl) (by simp only [maxLen]; omega) (by omega) ?_); intro v' w' hS; obtain ⟨so, cap', rfl, _, _, _⟩ := hS.vec_rd; have q4 := hS.swap.cell (i := 4) (v := .slice ao D.arms.length cap) rfl; have p4 := hS.swap.free 4)
    go_end0
    refine Ret.mk ⟨rfl, ?_⟩
    refine Sat.rk_shut (D := D.arm after keep) _ _ rfl rfl (sv := sv) (tv := tv) (av := .slice so (D.arms.length + 1) cap') ?_
    rw [hA.out, hL.out, HM.out]
    exact hS.swap.store 4 (.slice so (D.arms.length + 1) cap')

set_option maxHeartbeats 1600000 in
theorem ref12_crash {w0 w : World} {F : HP} {b : Nat} {D : Dk} (hs : Sat w0 w (F * rk b D)) (hD : D.Ok) (keep : Int) (h2 : keep ≤ 9223372036854775807) :
    Calls Tryd.prog 114 #[.pointer (some ⟨b, 0, none⟩), .int .i64 keep] w (Ret fun v w' => v = .tuple #[] ∧ Sat w0 w' (F * rk b (D.crash keep))) := by
  obtain ⟨sv, tv, av, hs1⟩ := hs.rk_open
  have k3 := hs1.cell (i := 3) (v := .bool D.dead) rfl
  have HF := Hid.mk' (ref12_fail hD hs keep h2)
  clear hs1
  cases hd : D.dead with
  | true =>
    have HR := Hid.mk' (show D.crash keep = D from if_pos hd)
    rw [hd] at k3
    clear hd
    go_enter Tryd.func114, Tryd.ntmps114
    go_wp2_with fail
    go_end0
    exact Ret.mk ⟨rfl, by rw [HR.out]; exact hs⟩
  | false =>
    have HR := Hid.mk' (show D.crash keep = D.fail keep from if_neg (by rw [hd]; simp))
    rw [hd] at k3
    clear hd
    go_enter Tryd.func114, Tryd.ntmps114
    go_wp2_with (go_at_call 106; refine HF.out.mono ?_; rintro e w2 ⟨v, rfl, rfl, hs2⟩)
    go_end0
    exact Ret.mk ⟨rfl, by rw [HR.out]; exact hs2⟩

theorem ref12_dead {w0 w : World} {F : HP} {b : Nat} {D : Dk} (hs : Sat w0 w (F * rk b D)) :
    Calls Tryd.prog 116 #[.pointer (some ⟨b, 0, none⟩)] w (Same (.bool D.dead) w) := by
  obtain ⟨sv, tv, av, hs1⟩ := hs.rk_open
  have k3 := hs1.cell (i := 3) (v := .bool D.dead) rfl
  clear hs1
  go_enter Tryd.func116, Tryd.ntmps116
  go_wp2_with fail
  go_ret
  exact ⟨rfl, rfl⟩

theorem ref12_revive {w0 w : World} {F : HP} {b : Nat} {D : Dk} (hs : Sat w0 w (F * rk b D)) :
    Calls Tryd.prog 115 #[.pointer (some ⟨b, 0, none⟩)] w (Ret fun v w' => v = .tuple #[] ∧ Sat w0 w' (F * rk b D.revive)) := by
  obtain ⟨sv, tv, av, hs1⟩ := hs.rk_open
  have k3 := hs1.cell (i := 3) (v := .bool D.dead) rfl
  have f3 := hs1.free 3
  go_enter Tryd.func115, Tryd.ntmps115
  go_wp2_with fail
  go_end0
  exact Ret.mk ⟨rfl, Sat.rk_shut (D := D.revive) _ _ rfl rfl (sv := sv) (tv := tv) (av := av) (hs1.store 3 (.bool false))⟩

set_option maxRecDepth 20000 in
set_option maxHeartbeats 3200000 in
theorem ref12_look {w0 w : World} {F : HP} {b : Nat} {D : Dk} (hD : D.Ok) (hs : Sat w0 w (F * rk b D)) :
    Calls Tryd.prog 117 #[.pointer (some ⟨b, 0, none⟩)] w (Ret fun v w' => ∃ u, v = .tuple #[u, .int .i64 D.synced] ∧ Sat w0 w' (F * rk b D * vec 5 1 u D.bytes.length (bvs D.bytes))) := by
  have HA := Hid.mk' (ref12_all hD hs)
  have HL := Hid.mk' (rk_len hD).1
  clear hs
  go_enter Tryd.func117, Tryd.ntmps117
  go_wp2_with (go_at_call 140; refine HA.out.mono ?_; rintro e w2 ⟨v, rfl, hs2⟩)
  obtain ⟨sv, tv, av, hs3⟩ := hs2.swap.rk_open
  obtain ⟨so, sc, rfl, _, _, _⟩ := hs3.rot4.vec_rd
  rw [HL.out] at hs3
  have q0 := hs3.cell (i := 0) (v := .slice so D.synced sc) rfl
  clear hs3
  go_quiet (fail)
  go_wp2
  go_ret2
  exact Ret.mk ⟨_, rfl, hs2.drewN _⟩

set_option maxHeartbeats 3200000 in
theorem ref12_open {w0 w : World} {F : HP} (hs : Sat w0 w F) (xs : List UInt8) (ao : Option Addr) (c : Nat) (hr : Rd w ao (bvs xs)) (hn : xs.length ≤ 140737488351232) (room : Int) :
    Calls Tryd.prog 43 #[.slice ao xs.length c, .int .i64 room] w (Ret fun v w' => ∃ b, v = .pointer (some ⟨b, 0, none⟩) ∧ Sat w0 w' (F * rk b (Dk.new xs room))) := by
  have HF := Hid.mk' (ref12_fresh xs ao c hr hn)
  have HR := Hid.mk' (show ((Dk.new xs room).room : Int) = min (max room 0) 1073741824 by show (((min (max room 0) 1073741824).toNat : Nat) : Int) = _; omega)
  clear hr
  go_enter Tryd.func43, Tryd.ntmps43
  go_wp2_with (go_at_call 100; refine HF.out.mono ?_; rintro e w3 ⟨v, rfl, hx⟩; have hs2 := hs.glue hx; clear hx; obtain ⟨uo, uc, rfl, _, _, _⟩ := hs2.vec_rd)
  all_goals
    go_ret
    refine Ret.mk ⟨_, rfl, Sat.rk_shut (D := Dk.new xs room) xs [] (List.take_length ..) (List.drop_length ..) (sv := .slice uo xs.length uc) (tv := .slice none 0 0) (av := .slice none 0 0) ?_⟩
    rw [HR.out]
    first
      | (rw [show min (max room 0) 1073741824 = 0 by omega]; exact ((hs2.vec_nil _ _).vec_nil _ _).new _ _)
      | (rw [show min (max room 0) 1073741824 = room by omega]; exact ((hs2.vec_nil _ _).vec_nil _ _).new _ _)
      | (rw [show min (max room 0) 1073741824 = 1073741824 by omega]; exact ((hs2.vec_nil _ _).vec_nil _ _).new _ _)
theorem ref12_new {w0 w : World} {F : HP} (hs : Sat w0 w F) (room : Int) :
    Calls Tryd.prog 57 #[.int .i64 room] w (Ret fun v w' => ∃ b, v = .pointer (some ⟨b, 0, none⟩) ∧ Sat w0 w' (F * rk b (Dk.new [] room))) := by
  have HO := Hid.mk' (ref12_open hs [] none 0 (Rd.nil _ _) (by simp) room)
  go_enter Tryd.func57, Tryd.ntmps57
  go_wp2_with (go_at_call 43; refine HO.out.mono ?_; rintro e w3 ⟨v, rfl, b, rfl, hx⟩)
  go_ret
  exact Ret.mk ⟨_, rfl, hx⟩
end Go.Proofs.YtjhlelcopofkkaaDoor
