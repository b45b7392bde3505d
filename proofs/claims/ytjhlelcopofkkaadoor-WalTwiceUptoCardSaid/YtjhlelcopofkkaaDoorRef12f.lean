/- The document's disk: Truncate, Arm, Crash, Dead, Revive, Look, Open, New. -/
import Derived.Test.YtjhlelcopofkkaaDoorRef12e
namespace Go.Proofs.YtjhlelcopofkkaaDoor
open Go.RowKit

theorem trunc_low {D : Dk} (m : Nat) (h : m < D.synced) : ({ D with bytes := D.bytes.take m, synced := min D.synced m } : Dk).bytes.take (min D.synced m) = (D.bytes.take D.synced).take m ∧ ({ D with bytes := D.bytes.take m, synced := min D.synced m } : Dk).bytes.drop (min D.synced m) = [] := by
  have e : min D.synced m = m := by omega
  show (D.bytes.take m).take (min D.synced m) = _ ∧ (D.bytes.take m).drop (min D.synced m) = []
  rw [e, List.take_take, List.take_take, Nat.min_self, Nat.min_eq_left (by omega)]
  exact ⟨rfl, List.drop_eq_nil_of_le (by rw [List.length_take]; omega)⟩
theorem trunc_high {D : Dk} (m : Nat) (h : D.synced ≤ m) : ({ D with bytes := D.bytes.take m, synced := min D.synced m } : Dk).bytes.take (min D.synced m) = D.bytes.take D.synced ∧ ({ D with bytes := D.bytes.take m, synced := min D.synced m } : Dk).bytes.drop (min D.synced m) = (D.bytes.drop D.synced).take (m - D.synced) := by
  have e : min D.synced m = D.synced := by omega
  show (D.bytes.take m).take (min D.synced m) = _ ∧ (D.bytes.take m).drop (min D.synced m) = _
  rw [e, List.take_take, Nat.min_eq_left h, List.drop_take]
  exact ⟨rfl, rfl⟩

set_option maxRecDepth 20000 in
set_option maxHeartbeats 6400000 in
/-- Behind the arms. -/
theorem ref12_truncate_bad {w0 w : World} {F : HP} {b : Nat} {D : Dk} (hD : D.Ok) (hs : Sat w0 w (F * rk b D)) (n : Int) (hbad : D.dead = true ∨ n < 0 ∨ (D.bytes.length : Int) < n) :
    Calls Tryd.prog 112 #[.pointer (some ⟨b, 0, none⟩), .int .i64 n] w (Ret fun v w' => v = .int .i64 (D.trunc n).2 ∧ Sat w0 w' (F * rk b (D.trunc n).1)) := by
  obtain ⟨sv, tv, av, hs1⟩ := hs.rk_open
  have k3 := hs1.cell (i := 3) (v := .bool D.dead) rfl
  cases hd : D.dead with
  | true =>
    have HR := Hid.mk' (show D.trunc n = (D, 10) by unfold Dk.trunc; rw [if_neg (by rw [hd]; simp), Dk.gate_dead hd]; rfl)
    rw [hd] at k3
    clear hd hbad hs1
    go_enter Tryd.func112, Tryd.ntmps112
    go_wp2_with fail
    go_ret
    exact Ret.mk (by rw [HR.out]; exact ⟨rfl, hs⟩)
  | false =>
    have hbad' : n < 0 ∨ (D.bytes.length : Int) < n := by
      rcases hbad with h | h
      · rw [hd] at h; cases h
      · exact h
    have HR := Hid.mk' (show D.trunc n = (D, 1) from if_pos ⟨hd, hbad'⟩)
    rw [hd] at k3
    obtain ⟨so, sc, rfl, _, _, _⟩ := hs1.rot4.vec_rd
    obtain ⟨to_, tc, rfl, _, _, _⟩ := hs1.rot3.vec_rd
    have hl := rk_len hD
    have hy := hD.synced
    have hby := hD.bytes
    rw [hl.1, hl.2] at hs1
    have q0 := hs1.cell (i := 0) (v := .slice so D.synced sc) rfl
    have q1 := hs1.cell (i := 1) (v := .slice to_ (D.bytes.length - D.synced) tc) rfl
    have hcast : ((D.bytes.length - D.synced : Nat) : Int) = (D.bytes.length : Int) - (D.synced : Int) := by omega
    clear hbad hd hl hs1
    by_cases hn : n < 0
    · clear hbad'
      go_enter Tryd.func112, Tryd.ntmps112
      go_wp2_with fail
      go_quiet (fail)
      go_wp2_with fail
      go_ret
      exact Ret.mk (by rw [HR.out]; exact ⟨rfl, hs.drewN _⟩)
    · have hn1 : (D.bytes.length : Int) < n := by omega
      have hn0 : decide (n < 0) = false := decide_eq_false hn
      have hn2 : decide ((D.synced : Int) + ((D.bytes.length : Int) - (D.synced : Int)) < n) = true := decide_eq_true (by omega)
      clear hbad' hn
      go_enter Tryd.func112, Tryd.ntmps112
      go_wp2_with fail
      go_quiet (fail)
      go_wp2_with fail
      go_ret
      exact Ret.mk (by rw [HR.out]; exact ⟨rfl, hs.drewN _⟩)

set_option maxRecDepth 20000 in
set_option maxHeartbeats 6400000 in
theorem ref12_truncate_ok {w0 w : World} {F : HP} {b : Nat} {D : Dk} (hD : D.Ok) (hs : Sat w0 w (F * rk b D)) (hm : D.arms.length < 8796093022207) (n : Nat) (hd : D.dead = false) (hn : n ≤ D.bytes.length) :
    Calls Tryd.prog 112 #[.pointer (some ⟨b, 0, none⟩), .int .i64 n] w (Ret fun v w' => v = .int .i64 (D.trunc n).2 ∧ Sat w0 w' (F * rk b (D.trunc n).1)) := by
  obtain ⟨sv, tv, av, hs1⟩ := hs.rk_open
  have k3 := hs1.cell (i := 3) (v := .bool D.dead) rfl
  obtain ⟨so, sc, rfl, _, _, _⟩ := hs1.rot4.vec_rd
  obtain ⟨to_, tc, rfl, _, _, _⟩ := hs1.rot3.vec_rd
  have hl := rk_len hD
  have hy := hD.synced
  have hby := hD.bytes
  rw [hl.1, hl.2] at hs1
  have q0 := hs1.cell (i := 0) (v := .slice so D.synced sc) rfl
  have q1 := hs1.cell (i := 1) (v := .slice to_ (D.bytes.length - D.synced) tc) rfl
  have hcast : ((D.bytes.length - D.synced : Nat) : Int) = (D.bytes.length : Int) - (D.synced : Int) := by omega
  have hn0 : decide ((n : Int) < 0) = false := decide_eq_false (by omega)
  have hn2 : decide ((D.synced : Int) + ((D.bytes.length : Int) - (D.synced : Int)) < (n : Int)) = false := decide_eq_false (by omega)
  have HDI := Hid.mk' (fun k => ref12_dies (w := w.drewN k) hD (hs.drewN k) hm)
  have hK := hD.diesK
  have hO := hD.rest
  have HT := Hid.mk' (show D.trunc (n : Int) = if (D.gate id).2 = 0 then ({ (D.gate id).1 with bytes := (D.gate id).1.bytes.take n, synced := min (D.gate id).1.synced n }, 0) else D.gate id from if_neg (by omega))
  have hnb : n ≤ ({ D with arms := D.rest } : Dk).bytes.length := hn
  rw [hd] at k3
  clear hl hs1 hs
  cases hdb : D.diesB with
  | true =>
    have HR := Hid.mk' (show D.trunc n = (({ D with arms := D.rest } : Dk).fail D.diesK, 10) by rw [HT.out, gate_dies hd hdb]; rfl)
    rw [hdb] at HDI
    clear hd hdb HT
    generalize ({ D with arms := D.rest } : Dk) = D1 at *
    generalize D.diesK = K at *
    go_enter Tryd.func112, Tryd.ntmps112
    go_wp2_with fail
    go_quiet (fail)
    go_wp2_with (first | (go_at_call 105; refine (HDI.out _).mono ?_; rintro e w2 ⟨v, rfl, rfl, hs2⟩) | (go_at_call 106; refine (ref12_fail hO hs2 K hK.2).mono ?_; rintro e w5 ⟨v, rfl, rfl, hs5⟩))
    go_ret
    exact Ret.mk (by rw [HR.out]; exact ⟨rfl, hs5⟩)
  | false =>
    have HR := Hid.mk' (show D.trunc n = ({ ({ D with arms := D.rest } : Dk) with bytes := ({ D with arms := D.rest } : Dk).bytes.take n, synced := min ({ D with arms := D.rest } : Dk).synced n }, 0) by rw [HT.out, gate_live hd hdb]; rfl)
    rw [hdb] at HDI
    clear hd hdb HT
    have hy1 : ({ D with arms := D.rest } : Dk).synced ≤ ({ D with arms := D.rest } : Dk).bytes.length := hy
    have hby1 : ({ D with arms := D.rest } : Dk).bytes.length ≤ 140737488351232 := hby
    generalize ({ D with arms := D.rest } : Dk) = D1 at *
    generalize D.diesK = K at *
    have hl := rk_len hO
    go_enter Tryd.func112, Tryd.ntmps112
    go_wp2_with fail
    go_quiet (fail)
    go_wp2_with fail
    refine (HDI.out _).mono ?_
    rintro e w2 ⟨v, rfl, rfl, hs2⟩
    obtain ⟨sv2, tv2, av2, hs3⟩ := hs2.rk_open
    obtain ⟨so2, sc2, rfl, hsc2, hrs2, _⟩ := hs3.rot4.vec_rd
    obtain ⟨to2, tc2, rfl, htc2, hrt2, _⟩ := hs3.rot3.vec_rd
    rw [hl.1] at hsc2
    rw [hl.2] at htc2
    rw [hl.1, hl.2] at hs3
    have p0 := hs3.cell (i := 0) (v := .slice so2 D1.synced sc2) rfl
    have p1 := hs3.cell (i := 1) (v := .slice to2 (D1.bytes.length - D1.synced) tc2) rfl
    by_cases hlow : n < D1.synced
    · have HTL := Hid.mk' (trunc_low n hlow)
      have htl : ((D1.bytes.take D1.synced).take n).length = n := by rw [List.length_take, hl.1]; omega
      have HF := Hid.mk' (show Calls Tryd.prog 100 #[.slice so2 n sc2] w2 (Ret fun v w' => Sat w2 w' (vec 5 1 v n (bvs ((D1.bytes.take D1.synced).take n)))) from by
        have h := ref12_fresh (w := w2) ((D1.bytes.take D1.synced).take n) so2 sc2 (by rw [← bvs_take]; exact hrs2.take n) (by omega)
        rw [htl] at h
        exact h)
      have HTE := Hid.mk' htl
      have HS := Hid.mk' hs3
      clear hs3 hrs2 hrt2 htl
      go_wp2_with (first | (go_at_call 100; refine HF.out.mono ?_; rintro e w5 ⟨v, rfl, hx⟩; have hs6 := HS.out.glue hx; obtain ⟨xo, xc, rfl, _, _, _⟩ := hs6.vec_rd; have g0 := hs6.swap.free 0; have g1 := hs6.swap.free 1; have e0 := hs6.swap.cell (i := 0) (v := .slice so2 D1.synced sc2) rfl; have e1 := hs6.swap.cell (i := 1) (v := .slice to2 (D1.bytes.length - D1.synced) tc2) rfl))
      go_ret
      refine Ret.mk ?_
      rw [HR.out]
      refine ⟨rfl, Sat.rk_shut (D := { D1 with bytes := D1.bytes.take n, synced := min D1.synced n }) _ _ HTL.out.1 HTL.out.2 (sv := .slice xo n xc) (tv := .slice none 0 0) (av := av2) ?_⟩
      rw [HTE.out]
      have h := ((hs6.swap.store 0 (.slice xo n xc)).store 1 (.slice none 0 0)).vec_nil 5 1
      exact (h.perm (B := F * vec 5 1 (.slice xo n xc) n (bvs ((D1.bytes.take D1.synced).take n)) * vec 5 1 (.slice none 0 0) 0 [] * vec 198 2 av2 D1.arms.length (aks D1.arms) * blk b [.slice xo n xc, .slice none 0 0, .int .i64 D1.room, .bool D1.dead, av2] 167 * (vec 5 1 (.slice so2 D1.synced sc2) D1.synced (bvs (D1.bytes.take D1.synced)) * vec 5 1 (.slice to2 (D1.bytes.length - D1.synced) tc2) (D1.bytes.length - D1.synced) (bvs (D1.bytes.drop D1.synced)))) (by simp only [List.set_cons_succ, List.set_cons_zero]; ac_rfl)).drop
    · obtain ⟨k, rfl⟩ : ∃ k, n = D1.synced + k := ⟨n - D1.synced, by omega⟩
      have HTL := Hid.mk' (trunc_high (D := D1) (D1.synced + k) (by omega))
      rw [Nat.add_sub_cancel_left] at HTL
      have htl : ((D1.bytes.drop D1.synced).take k).length = k := by rw [List.length_take, hl.2]; omega
      have HF := Hid.mk' (show ∀ j, Calls Tryd.prog 100 #[.slice to2 k tc2] (w2.drewN j) (Ret fun v w' => Sat (w2.drewN j) w' (vec 5 1 v k (bvs ((D1.bytes.drop D1.synced).take k)))) from fun j => by
        have h := ref12_fresh (w := w2.drewN j) ((D1.bytes.drop D1.synced).take k) to2 tc2 (by rw [← bvs_take]; exact hrt2.drewN.take k) (by omega)
        rw [htl] at h
        exact h)
      have HTE := Hid.mk' htl
      have HS := Hid.mk' hs3
      have hk1 : ((D1.synced + k : Nat) : Int) - (D1.synced : Int) = (k : Int) := by omega
      have hk2 : k ≤ tc2 := by omega
      clear hs3 hrs2 hrt2 htl
      go_wp2_with fail
      have hf0 := HS.out.free 1
      have hkw : IntKind.i64.wrap ((D1.synced : Int) + (k : Int) - (D1.synced : Int)) = (k : Int) := by rw [show (D1.synced : Int) + (k : Int) - (D1.synced : Int) = (k : Int) by omega, IntKind.wrap_i64]; omega
      have hkw2 : IntKind.i64.wrap (k : Int) = (k : Int) := by rw [IntKind.wrap_i64]; omega
      have hk3 : 0 ≤ (k : Int) := by omega
      have hk4 : (k : Int) ≤ (tc2 : Int) := by omega
      go_region_with ((go_at_call 100; refine (HF.out _).mono ?_; rintro e w5 ⟨v, rfl, hx⟩; have hs6 := (HS.out.drewN _).glue hx; obtain ⟨xo, xc, rfl, _, _, _⟩ := hs6.vec_rd; have g1 := hs6.swap.free 1; have e1 := hs6.swap.cell (i := 1) (v := .slice to2 (D1.bytes.length - D1.synced) tc2) rfl))
      all_goals
        go_wp2_with fail
        go_ret
        refine Ret.mk ?_
        rw [HR.out]
        refine ⟨rfl, Sat.rk_shut (D := { D1 with bytes := D1.bytes.take (D1.synced + k), synced := min D1.synced (D1.synced + k) }) _ _ HTL.out.1 HTL.out.2 (sv := .slice so2 D1.synced sc2) (tv := .slice xo k xc) (av := av2) ?_⟩
        rw [HTE.out, (rk_len hO).1]
        have h := hs6.swap.store 1 (.slice xo k xc)
        exact (h.perm (B := F * vec 5 1 (.slice so2 D1.synced sc2) D1.synced (bvs (D1.bytes.take D1.synced)) * vec 5 1 (.slice xo k xc) k (bvs ((D1.bytes.drop D1.synced).take k)) * vec 198 2 av2 D1.arms.length (aks D1.arms) * blk b [.slice so2 D1.synced sc2, .slice xo k xc, .int .i64 D1.room, .bool D1.dead, av2] 167 * vec 5 1 (.slice to2 (D1.bytes.length - D1.synced) tc2) (D1.bytes.length - D1.synced) (bvs (D1.bytes.drop D1.synced))) (by simp only [List.set_cons_succ, List.set_cons_zero]; ac_rfl)).drop
theorem ref12_truncate {w0 w : World} {F : HP} {b : Nat} {D : Dk} (hD : D.Ok) (hs : Sat w0 w (F * rk b D)) (hm : D.arms.length < 8796093022207) (n : Int) :
    Calls Tryd.prog 112 #[.pointer (some ⟨b, 0, none⟩), .int .i64 n] w (Ret fun v w' => v = .int .i64 (D.trunc n).2 ∧ Sat w0 w' (F * rk b (D.trunc n).1)) := by
  by_cases h : D.dead = true ∨ n < 0 ∨ (D.bytes.length : Int) < n
  · exact ref12_truncate_bad hD hs n h
  · obtain ⟨m, rfl⟩ : ∃ m : Nat, n = (m : Int) := ⟨n.toNat, by have : ¬ n < 0 := fun e => h (Or.inr (Or.inl e)); omega⟩
    exact ref12_truncate_ok hD hs hm m (by cases hd : D.dead with
      | true => exact absurd (Or.inl hd) h
      | false => rfl) (by have : ¬ (D.bytes.length : Int) < (m : Int) := fun e => h (Or.inr (Or.inr e)); omega)
end Go.Proofs.YtjhlelcopofkkaaDoor
