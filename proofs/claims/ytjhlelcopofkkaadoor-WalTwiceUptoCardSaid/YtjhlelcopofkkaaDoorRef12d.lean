/- The document's disk: its operations answer by the same account as the program's. -/
import Derived.Test.YtjhlelcopofkkaaDoorRef12c
namespace Go.Proofs.YtjhlelcopofkkaaDoor
open Go.RowKit

theorem putp_take {D : Dk} (h : D.synced ≤ D.bytes.length) (p : List UInt8) : ({ D with bytes := D.bytes ++ p } : Dk).bytes.take D.synced = D.bytes.take D.synced ∧ ({ D with bytes := D.bytes ++ p } : Dk).bytes.drop D.synced = D.bytes.drop D.synced ++ p := by
  refine ⟨?_, ?_⟩
  · show (D.bytes ++ p).take D.synced = _
    rw [List.take_append_of_le_length h]
  · show (D.bytes ++ p).drop D.synced = _
    rw [List.drop_append_of_le_length h]

set_option maxRecDepth 20000 in
set_option maxHeartbeats 6400000 in
theorem ref12_append {w0 w : World} {F : HP} {b : Nat} {D : Dk} (p : List UInt8) (ao : Option Addr) (c : Nat) (hno : ao = none → p.length = 0 ∧ c = 0) (hn : p.length ≤ 140737488351232)
    (hp : ∀ w' A, Sat w0 w' (F * A) → Rd w' ao (bvs p)) (hD : D.Ok) (hs : Sat w0 w (F * rk b D)) (hm : D.arms.length < 8796093022207) :
    Calls Tryd.prog 46 #[.pointer (some ⟨b, 0, none⟩), .slice ao p.length c] w (Ret fun v w' => v = .int .i64 (D.append p).2 ∧ Sat w0 w' (F * rk b (D.append p).1)) := by
  have HP := Hid.mk' hp
  obtain ⟨sv, tv, av, hs1⟩ := hs.rk_open
  have k3 := hs1.cell (i := 3) (v := .bool D.dead) rfl
  clear hp hs1
  cases hd : D.dead with
  | true =>
    have HR := Hid.mk' (show D.append p = (D, 10) by unfold Dk.append; rw [Dk.gate_dead hd]; rfl)
    rw [hd] at k3
    clear hd
    go_enter Tryd.func46, Tryd.ntmps46
    go_wp2_with fail
    go_ret
    exact Ret.mk (by rw [HR.out]; exact ⟨rfl, hs⟩)
  | false =>
    have HR0 := Hid.mk' (Dk.gate_eq hd (·.putp p))
    have HA := Hid.mk' (show D.append p = if D.diesB = true then (({ D with arms := D.rest } : Dk).putp p |>.fail D.diesK, 10) else (if ({ D with arms := D.rest } : Dk).fits p.length then (({ D with arms := D.rest } : Dk).putp p, 0) else ({ D with arms := D.rest }, 9)) by
      unfold Dk.append
      rw [HR0.out]
      by_cases h : D.diesB = true
      · rw [if_pos h, if_pos h]; rfl
      · rw [if_neg h, if_neg h]; rfl)
    have HDI := Hid.mk' (ref12_dies hD hs hm)
    have hK := hD.diesK
    have hO := hD.rest
    have hy : D.synced ≤ D.bytes.length := hD.synced
    rw [hd] at k3
    clear hd HR0 hs
    obtain ⟨D1, hD1⟩ : ∃ D1, ({ D with arms := D.rest } : Dk) = D1 := ⟨_, rfl⟩
    have hm1 : D1.room ≤ 1073741824 := by rw [← hD1]; exact hD.room
    rw [hD1] at HA HDI hO
    clear hD1 hD hy hm
    have hy := hO.synced
    have hby := hO.bytes
    generalize D.diesK = K at *
    go_enter Tryd.func46, Tryd.ntmps46
    go_wp2_with fail
    refine HDI.out.mono ?_
    rintro e w2 ⟨v, rfl, rfl, hs2⟩
    have hrd := HP.out _ _ hs2
    obtain ⟨sv, tv, av, hs3⟩ := hs2.rk_open
    have hl1 : (D1.bytes.take D1.synced).length = D1.synced := by rw [List.length_take]; omega
    have hl2 : (D1.bytes.drop D1.synced).length = D1.bytes.length - D1.synced := List.length_drop
    obtain ⟨so, sc, rfl, _, _, _⟩ := hs3.rot4.vec_rd
    obtain ⟨to_, tc, rfl, _, _, _⟩ := hs3.rot3.vec_rd
    rw [hl1, hl2] at hs3
    have q0 := hs3.cell (i := 0) (v := .slice so D1.synced sc) rfl
    have q1 := hs3.cell (i := 1) (v := .slice to_ (D1.bytes.length - D1.synced) tc) rfl
    have q2 := hs3.cell (i := 2) (v := .int .i64 D1.room) rfl
    have f1 := hs3.free 1
    by_cases hf : D1.fits p.length
    · have hq : decide ((D1.synced : Int) + ((D1.bytes.length : Int) - (D1.synced : Int)) + (p.length : Int) ≤ (D1.room : Int)) = true := decide_eq_true (by unfold Dk.fits at hf; omega)
      have hcast : ((D1.bytes.length - D1.synced : Nat) : Int) = (D1.bytes.length : Int) - (D1.synced : Int) := by omega
      have hfl : D1.bytes.length + p.length ≤ D1.room := hf
      have HPT := Hid.mk' (show D1.putp p = { D1 with bytes := D1.bytes ++ p } from if_pos hf)
      have hpo : (D1.putp p).Ok := hO.putp p
      have HLB := Hid.mk' (bvs_length p)
      have HTK := Hid.mk' (putp_take hy p)
      have HL := Hid.mk' (And.intro hl1 hl2)
      have HRD := Hid.mk' (fun n => (hrd.drewN (k := n)))
      have hs4 := hs3.drewN
      cases hdb : D.diesB with
      | true =>
        have HR := Hid.mk' (show D.append p = ((D1.putp p).fail K, 10) by rw [HA.out, if_pos hdb])
        clear HA hdb hf hl1 hl2 hrd
        go_wp2_with fail
        go_quiet (fail)
        go_wp2_with (first | (at_builtin; go_loud (refine sl_append_any rfl _ _ 22 rfl 5 (.int .u8 0) 1 1 Tryd.underlying22 info_u8 rfl (by decide) _ (D1.bytes.length - D1.synced) _ rfl (by exact (hs4 _).rot3) _ p.length c (bvs p) rfl hno (by rw [HLB.out, Nat.mul_one]) (by exact HRD.out _) (bvs_one _) (by simp only [maxLen]; omega) (by omega) ?_); intro v' w' hS; obtain ⟨to2, tc2, rfl, _, _, _⟩ := hS.vec_rd; have g1 := hS.swap.free 1; have e1 := hS.swap.cell (i := 1) (v := .slice to_ (D1.bytes.length - D1.synced) tc) rfl))
        have hfin : Sat w0 (w'.setCell ⟨b, 1, none⟩ (.slice to2 (D1.bytes.length - D1.synced + p.length) tc2)) (F * rk b (D1.putp p)) := by
          rw [HPT.out]
          refine Sat.rk_shut (D := { D1 with bytes := D1.bytes ++ p }) _ _ HTK.out.1 HTK.out.2 (sv := .slice so D1.synced sc) (tv := .slice to2 (D1.bytes.length - D1.synced + p.length) tc2) (av := av) ?_
          rw [List.length_append, HL.out.1, HL.out.2, bvs_append]
          exact (hS.swap.store 1 (.slice to2 (D1.bytes.length - D1.synced + p.length) tc2)).perm (by simp only [List.set_cons_succ, List.set_cons_zero]; ac_rfl)
        refine (ref12_fail hpo hfin K hK.2).mono ?_
        rintro e w5 ⟨v, rfl, rfl, hs5⟩
        go_wp2_with fail
        go_ret
        exact Ret.mk (by rw [HR.out]; exact ⟨rfl, hs5⟩)
      | false =>
        have HR := Hid.mk' (show D.append p = (D1.putp p, 0) by rw [HA.out, if_neg (by rw [hdb]; simp), if_pos hf])
        clear HA hdb hf hl1 hl2 hrd
        go_wp2_with fail
        go_quiet (fail)
        go_wp2_with (first | (at_builtin; go_loud (refine sl_append_any rfl _ _ 22 rfl 5 (.int .u8 0) 1 1 Tryd.underlying22 info_u8 rfl (by decide) _ (D1.bytes.length - D1.synced) _ rfl (by exact (hs4 _).rot3) _ p.length c (bvs p) rfl hno (by rw [HLB.out, Nat.mul_one]) (by exact HRD.out _) (bvs_one _) (by simp only [maxLen]; omega) (by omega) ?_); intro v' w' hS; obtain ⟨to2, tc2, rfl, _, _, _⟩ := hS.vec_rd; have g1 := hS.swap.free 1; have e1 := hS.swap.cell (i := 1) (v := .slice to_ (D1.bytes.length - D1.synced) tc) rfl))
        have hfin : Sat w0 (w'.setCell ⟨b, 1, none⟩ (.slice to2 (D1.bytes.length - D1.synced + p.length) tc2)) (F * rk b (D1.putp p)) := by
          rw [HPT.out]
          refine Sat.rk_shut (D := { D1 with bytes := D1.bytes ++ p }) _ _ HTK.out.1 HTK.out.2 (sv := .slice so D1.synced sc) (tv := .slice to2 (D1.bytes.length - D1.synced + p.length) tc2) (av := av) ?_
          rw [List.length_append, HL.out.1, HL.out.2, bvs_append]
          exact (hS.swap.store 1 (.slice to2 (D1.bytes.length - D1.synced + p.length) tc2)).perm (by simp only [List.set_cons_succ, List.set_cons_zero]; ac_rfl)
        go_ret
        exact Ret.mk (by rw [HR.out]; exact ⟨rfl, hfin⟩)
    · have hq : decide ((D1.synced : Int) + ((D1.bytes.length : Int) - (D1.synced : Int)) + (p.length : Int) ≤ (D1.room : Int)) = false := decide_eq_false (by unfold Dk.fits at hf; omega)
      have hcast : ((D1.bytes.length - D1.synced : Nat) : Int) = (D1.bytes.length : Int) - (D1.synced : Int) := by omega
      have hs4 := Hid.mk' (fun n => hs2.drewN n)
      have HPT := Hid.mk' (show D1.putp p = D1 from if_neg hf)
      cases hdb : D.diesB with
      | true =>
        have HR := Hid.mk' (show D.append p = (D1.fail K, 10) by rw [HA.out, if_pos hdb, HPT.out])
        clear HA hdb hf hl1 hl2 hrd hs3 hs2
        go_wp2_with fail
        go_quiet (fail)
        go_wp2_with (go_at_call 106; refine (ref12_fail hO (hs4.out _) K hK.2).mono ?_; rintro e w5 ⟨v, rfl, rfl, hs5⟩)
        go_ret
        exact Ret.mk (by rw [HR.out]; exact ⟨rfl, hs5⟩)
      | false =>
        have HR := Hid.mk' (show D.append p = (D1, 9) by rw [HA.out, if_neg (by rw [hdb]; simp), if_neg hf])
        clear HA hdb hf hl1 hl2 hrd hs3 hs2
        go_wp2_with fail
        go_quiet (fail)
        go_wp2_with fail
        go_ret
        exact Ret.mk (by rw [HR.out]; exact ⟨rfl, hs4.out _⟩)
end Go.Proofs.YtjhlelcopofkkaaDoor
