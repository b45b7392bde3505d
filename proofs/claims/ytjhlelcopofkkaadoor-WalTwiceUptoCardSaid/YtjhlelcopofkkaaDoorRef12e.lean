/- The document's disk: Sync, ReadAll, Truncate and what is no operation. -/
import Derived.Test.YtjhlelcopofkkaaDoorRef12d
namespace Go.Proofs.YtjhlelcopofkkaaDoor
open Go.RowKit

theorem rk_len {D : Dk} (h : D.Ok) : (D.bytes.take D.synced).length = D.synced ∧ (D.bytes.drop D.synced).length = D.bytes.length - D.synced := by
  have := h.synced
  exact ⟨by rw [List.length_take]; omega, List.length_drop⟩

theorem gate_live {D : Dk} (hd : D.dead = false) (hb : D.diesB = false) (L : Dk → Dk) : D.gate L = ({ D with arms := D.rest }, 0) := by
  rw [Dk.gate_eq hd, if_neg (by rw [hb]; simp)]
theorem gate_dies {D : Dk} (hd : D.dead = false) (hb : D.diesB = true) (L : Dk → Dk) : D.gate L = ((L { D with arms := D.rest }).fail D.diesK, 10) := by
  rw [Dk.gate_eq hd, if_pos hb]

set_option maxRecDepth 20000 in
set_option maxHeartbeats 6400000 in
theorem ref12_sync {w0 w : World} {F : HP} {b : Nat} {D : Dk} (hD : D.Ok) (hs : Sat w0 w (F * rk b D)) (hm : D.arms.length < 8796093022207) :
    Calls Tryd.prog 110 #[.pointer (some ⟨b, 0, none⟩)] w (Ret fun v w' => v = .int .i64 D.sync.2 ∧ Sat w0 w' (F * rk b D.sync.1)) := by
  obtain ⟨sv, tv, av, hs1⟩ := hs.rk_open
  have k3 := hs1.cell (i := 3) (v := .bool D.dead) rfl
  clear hs1
  cases hd : D.dead with
  | true =>
    have HR := Hid.mk' (show D.sync = (D, 10) by unfold Dk.sync; rw [Dk.gate_dead hd]; rfl)
    rw [hd] at k3
    clear hd
    go_enter Tryd.func110, Tryd.ntmps110
    go_wp2_with fail
    go_ret
    exact Ret.mk (by rw [HR.out]; exact ⟨rfl, hs⟩)
  | false =>
    have HDI := Hid.mk' (ref12_dies hD hs hm)
    have hK := hD.diesK
    have hO := hD.rest
    have hm1 : ({ D with arms := D.rest } : Dk).room ≤ 1073741824 := hD.room
    rw [hd] at k3
    cases hdb : D.diesB with
    | true =>
      have HR := Hid.mk' (show D.sync = (({ D with arms := D.rest } : Dk).fail D.diesK, 10) by unfold Dk.sync; rw [gate_dies hd hdb]; rfl)
      rw [hdb] at HDI
      clear hd hdb
      generalize ({ D with arms := D.rest } : Dk) = D1 at *
      generalize D.diesK = K at *
      go_enter Tryd.func110, Tryd.ntmps110
      go_wp2_with (first | (go_at_call 105; refine HDI.out.mono ?_; rintro e w2 ⟨v, rfl, rfl, hs2⟩) | (go_at_call 106; refine (ref12_fail hO hs2 K hK.2).mono ?_; rintro e w5 ⟨v, rfl, rfl, hs5⟩))
      go_ret
      exact Ret.mk (by rw [HR.out]; exact ⟨rfl, hs5⟩)
    | false =>
      have HR := Hid.mk' (show D.sync = ({ ({ D with arms := D.rest } : Dk) with synced := ({ D with arms := D.rest } : Dk).bytes.length }, 0) by unfold Dk.sync; rw [gate_live hd hdb]; rfl)
      rw [hdb] at HDI
      clear hd hdb
      generalize ({ D with arms := D.rest } : Dk) = D1 at *
      generalize D.diesK = K at *
      have hl := rk_len hO
      have hb1 := hO.bytes
      have hy1 := hO.synced
      go_enter Tryd.func110, Tryd.ntmps110
      go_wp2_with (first | (go_at_call 105; refine HDI.out.mono ?_; rintro e w2 ⟨v, rfl, rfl, hs2⟩))
      obtain ⟨sv2, tv2, av2, hs3⟩ := hs2.rk_open
      obtain ⟨so, sc, rfl, _, _, _⟩ := hs3.rot4.vec_rd
      obtain ⟨to_, tc, rfl, _, _, htn⟩ := hs3.rot3.vec_rd
      rw [hl.1, hl.2] at hs3
      rw [hl.2] at htn
      have q0 := hs3.cell (i := 0) (v := .slice so D1.synced sc) rfl
      have q1 := hs3.cell (i := 1) (v := .slice to_ (D1.bytes.length - D1.synced) tc) rfl
      have HS := Hid.mk' hs3
      have HLB := Hid.mk' (show (bvs (D1.bytes.drop D1.synced)).length = (D1.bytes.length - D1.synced) * 1 by rw [bvs_length, hl.2, Nat.mul_one])
      have HRD := Hid.mk' (fun n => (hs3.drewN n).rot3.rd)
      have HTN := Hid.mk' htn
      have HBB := Hid.mk' (show bvs (D1.bytes.take D1.synced) ++ bvs (D1.bytes.drop D1.synced) = bvs D1.bytes by rw [← bvs_append, List.take_append_drop])
      have HLL := Hid.mk' (show D1.synced + (D1.bytes.length - D1.synced) = D1.bytes.length by omega)
      clear hs3 htn hl
      go_region_law ((refine step_append_any rfl _ _ 22 rfl 5 (.int .u8 0) 1 1 Tryd.underlying22 info_u8 rfl (by decide) _ D1.synced _ rfl (by exact (HS.out.drewN _).rot4) _ (D1.bytes.length - D1.synced) tc (bvs (D1.bytes.drop D1.synced)) rfl HTN.out HLB.out (by exact HRD.out _) (bvs_one _) (by simp only [maxLen]; omega) (by omega) ?_; intro v' w' hS'; obtain ⟨so2, sc2, rfl, _, _, _⟩ := hS'.vec_rd; have d0 := hS'.swap.cell (i := 0) (v := .slice so D1.synced sc) rfl; have d1 := hS'.swap.cell (i := 1) (v := .slice to_ (D1.bytes.length - D1.synced) tc) rfl; have e0 := hS'.swap.free 0; have e1 := hS'.swap.free 1))
      all_goals
        have hfin : Sat w0 ((w'.setCell ⟨b, 0, none⟩ (.slice so2 (D1.synced + (D1.bytes.length - D1.synced)) sc2)).setCell ⟨b, 1, none⟩ (.slice none 0 0)) (F * rk b { D1 with synced := D1.bytes.length }) := by
          refine Sat.rk_shut (D := { D1 with synced := D1.bytes.length }) D1.bytes [] (List.take_length ..) (List.drop_length ..) (sv := .slice so2 (D1.synced + (D1.bytes.length - D1.synced)) sc2) (tv := .slice none 0 0) (av := av2) ?_
          have h := (((hS'.swap.store 0 (.slice so2 (D1.synced + (D1.bytes.length - D1.synced)) sc2)).store 1 (.slice none 0 0)).rot4.drop).vec_nil 5 1
          rw [HBB.out] at h
          rw [HLL.out] at h ⊢
          exact h.perm (by simp only [List.set_cons_succ, List.set_cons_zero]; ac_rfl)
        rw [HLL.out] at hfin
        go_wp2_with fail
        go_ret
        exact Ret.mk (by rw [HR.out]; exact ⟨rfl, hfin⟩)

set_option maxHeartbeats 3200000 in
theorem ref12_readAll {w0 w : World} {F : HP} {b : Nat} {D : Dk} (hD : D.Ok) (hs : Sat w0 w (F * rk b D)) (hm : D.arms.length < 8796093022207) :
    Calls Tryd.prog 111 #[.pointer (some ⟨b, 0, none⟩)] w (Ret fun v w' => ∃ u, v = .tuple #[u, .int .i64 (D.gate id).2] ∧
      Sat w0 w' (F * rk b (D.gate id).1 * vec 5 1 u (if (D.gate id).2 = 0 then (D.gate id).1.bytes else []).length (bvs (if (D.gate id).2 = 0 then (D.gate id).1.bytes else [])))) := by
  obtain ⟨sv, tv, av, hs1⟩ := hs.rk_open
  have k3 := hs1.cell (i := 3) (v := .bool D.dead) rfl
  clear hs1
  cases hd : D.dead with
  | true =>
    rw [Dk.gate_dead hd]
    rw [hd] at k3
    clear hd
    go_enter Tryd.func111, Tryd.ntmps111
    go_wp2_with fail
    go_ret2
    exact Ret.mk ⟨_, rfl, hs.vec_nil _ _⟩
  | false =>
    have HDI := Hid.mk' (ref12_dies hD hs hm)
    have hK := hD.diesK
    have hO := hD.rest
    rw [hd] at k3
    cases hdb : D.diesB with
    | true =>
      rw [gate_dies hd hdb]
      rw [hdb] at HDI
      show Calls _ _ _ _ (Ret fun v w' => ∃ u, v = .tuple #[u, .int .i64 (10 : Nat)] ∧ Sat w0 w' (F * rk b (({ D with arms := D.rest } : Dk).fail D.diesK) * vec 5 1 u 0 []))
      clear hd hdb
      generalize ({ D with arms := D.rest } : Dk) = D1 at *
      generalize D.diesK = K at *
      go_enter Tryd.func111, Tryd.ntmps111
      go_wp2_with (first | (go_at_call 105; refine HDI.out.mono ?_; rintro e w2 ⟨v, rfl, rfl, hs2⟩) | (go_at_call 106; refine (ref12_fail hO hs2 K hK.2).mono ?_; rintro e w5 ⟨v, rfl, rfl, hs5⟩))
      go_ret2
      exact Ret.mk ⟨_, rfl, hs5.vec_nil _ _⟩
    | false =>
      rw [gate_live hd hdb]
      rw [hdb] at HDI
      show Calls _ _ _ _ (Ret fun v w' => ∃ u, v = .tuple #[u, .int .i64 (0 : Nat)] ∧ Sat w0 w' (F * rk b ({ D with arms := D.rest } : Dk) * vec 5 1 u ({ D with arms := D.rest } : Dk).bytes.length (bvs ({ D with arms := D.rest } : Dk).bytes)))
      clear hd hdb
      generalize ({ D with arms := D.rest } : Dk) = D1 at *
      generalize D.diesK = K at *
      go_enter Tryd.func111, Tryd.ntmps111
      go_wp2_with (first | (go_at_call 105; refine HDI.out.mono ?_; rintro e w2 ⟨v, rfl, rfl, hs2⟩) | (go_at_call 140; refine (ref12_all hO hs2).mono ?_; rintro e w5 ⟨v, rfl, hs5⟩))
      go_ret2
      exact Ret.mk ⟨_, rfl, hs5⟩
end Go.Proofs.YtjhlelcopofkkaaDoor
