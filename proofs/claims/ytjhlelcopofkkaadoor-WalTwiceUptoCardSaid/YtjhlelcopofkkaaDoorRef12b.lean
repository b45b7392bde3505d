/- The document's disk: how it looks at the arms, how it fails. -/
import Derived.Test.YtjhlelcopofkkaaDoorRef12
namespace Go.Proofs.YtjhlelcopofkkaaDoor
open Go.RowKit

theorem info_Arm : (Tryd.prog.info? 198).map (fun i => (i.zero, i.size, i.bytes)) = some (some (.agg #[.int .i64 0, .int .i64 0]), 2, 16) := by kernel_rfl
theorem aks_get {l : List (Nat × Int)} {k : Nat} (h : k < l.length) : (aks l)[2 * k]? = some (.int .i64 l[k].1) ∧ (aks l)[2 * k + 1]? = some (.int .i64 l[k].2) := by
  induction l generalizing k with
  | nil => simp at h
  | cons x l ih =>
    rw [aks_cons]
    cases k with
    | zero => exact ⟨rfl, rfl⟩
    | succ k =>
      have := ih (k := k) (by simpa using h)
      rw [List.getElem?_append_right (by simp; omega), List.getElem?_append_right (by simp; omega)]
      simp only [List.length_cons, List.length_nil, List.getElem_cons_succ]
      rw [show 2 * (k + 1) - (0 + 1 + 1) = 2 * k by omega, show 2 * (k + 1) + 1 - (0 + 1 + 1) = 2 * k + 1 by omega]
      exact this

set_option maxRecDepth 20000 in
set_option maxHeartbeats 6400000 in
theorem ref12_dies {w0 w : World} {F : HP} {b : Nat} {D : Dk} (hD : D.Ok) (hs : Sat w0 w (F * rk b D)) (hn : D.arms.length < 8796093022207) :
    Calls Tryd.prog 105 #[.pointer (some ⟨b, 0, none⟩)] w (Ret fun v w' => v = .tuple #[.bool D.diesB, .int .i64 D.diesK] ∧ Sat w0 w' (F * rk b { D with arms := D.rest })) := by
  obtain ⟨sv, tv, av, hs1⟩ := hs.rk_open
  obtain ⟨ao, cap, rfl, hcap, hrd, _⟩ := hs1.swap.vec_rd
  cases ha : D.arms with
  | nil =>
    have k4 := hs1.cell (i := 4) (v := .slice ao 0 cap) (by rw [ha]; rfl)
    have H1 := Hid.mk' (show D.diesB = false ∧ D.diesK = 0 ∧ ({ D with arms := D.rest } : Dk) = D by
      obtain ⟨a1, a2, a3, a4, a5⟩ := D
      simp only at ha
      subst ha
      exact ⟨rfl, rfl, rfl⟩)
    clear hs1 hrd ha
    go_enter Tryd.func105, Tryd.ntmps105
    go_wp2_with fail
    go_ret2
    refine Ret.mk ?_
    rw [H1.out.1, H1.out.2.1, H1.out.2.2]
    exact ⟨rfl, hs⟩
  | cons x r =>
    obtain ⟨k, keep⟩ := x
    rw [ha] at hs1 hrd hcap
    obtain ⟨ba, oa, rfl, hcl⟩ := hrd.addr (by rw [aks_cons]; simp)
    have a0 : w.cell? ⟨ba, oa, none⟩ = some (.int .i64 (k : Int)) := hcl 0 _ rfl
    have a1 : w.cell? ⟨ba, oa + 1, none⟩ = some (.int .i64 keep) := hcl 1 _ rfl
    have k4 := hs1.cell (i := 4) (v := .slice (some ⟨ba, oa, none⟩) (r.length + 1) cap) rfl
    have hok := hD.arms (k, keep) (by rw [ha]; exact List.mem_cons_self ..)
    have hl0 : ((r.length : Int) + 1 == 0) = false := beq_eq_false_iff_ne.2 (by omega)
    rw [ha, List.length_cons] at hn
    have H1 := Hid.mk' (show D.diesK = keep by unfold Dk.diesK; rw [ha])
    cases k with
    | succ k =>
      have hs2 := (hs1.new #[.int .i64 ((k : Int) + 1), .int .i64 keep] 198).vec_nil 198 2
      have H2 := Hid.mk' (show D.diesB = false by unfold Dk.diesB; rw [ha]; rfl)
      have H3 := Hid.mk' (show D.rest = (k, keep) :: r by unfold Dk.rest; rw [ha])
      clear hs ha
      have a0' : w.cell? ⟨ba, oa, none⟩ = some (.int .i64 ((k : Int) + 1)) := a0
      clear a0 hcl
      go_enter Tryd.func105, Tryd.ntmps105
      go_wp2_with (at_builtin; go_loud (refine sl_append rfl _ _ 165 rfl 198 (.agg #[.int .i64 0, .int .i64 0]) 2 16 Tryd.underlying165 info_Arm rfl (by decide) _ 0 [] rfl (by exact hs2.skip) _ 1 _ [.int .i64 k, .int .i64 keep] rfl rfl (by exact Rd.made' _ _ _ _ _ (by simp)) (by intro u hu; simp at hu; rcases hu with rfl | rfl <;> rfl) (by simp only [maxLen]; omega) (by omega) ?_); intro v' w' hS0; obtain ⟨so0, cap', rfl, _, _, _⟩ := hS0.vec_rd)
      generalize hbw : w.heap.size = bw at hS0
      clear hs1 hrd hs2 hbw
      go_loopw [5, 6] (fun t i wr => ∃ (j : Nat) (tv' : Value), j ≤ r.length ∧ t = tv' ∧ i = .int .i64 ((j : Int) + 1) ∧ Sat w0 wr (F * vec 5 1 sv (D.bytes.take D.synced).length (bvs (D.bytes.take D.synced)) * vec 5 1 tv (D.bytes.drop D.synced).length (bvs (D.bytes.drop D.synced)) * vec 198 2 (.slice (some ⟨ba, oa, none⟩) ((k + 1, keep) :: r).length cap) ((k + 1, keep) :: r).length (aks ((k + 1, keep) :: r)) * blk b [sv, tv, .int .i64 D.room, .bool D.dead, .slice (some ⟨ba, oa, none⟩) ((k + 1, keep) :: r).length cap] 167 * blk bw [.int .i64 ((k : Int) + 1), .int .i64 keep] 198 * vec 198 2 tv' (1 + j) (aks ([(k, keep)] ++ r.take j)))) (fun _ i _ => r.length + 1 - (intOf i).toNat)
      case atStart => exact ⟨0, _, by omega, rfl, rfl, by rw [List.take_zero]; exact hS0⟩
      case round =>
        clear hS0
        obtain ⟨j, tv', hj, rfl, rfl, hS⟩ := hrel
        have c4 := hS.rot3.cell (i := 4) (v := .slice (some ⟨ba, oa, none⟩) (r.length + 1) cap) rfl
        have q0 := hS.swap.cell (i := 0) (v := .int .i64 ((k : Int) + 1)) rfl
        have q1 := hS.swap.cell (i := 1) (v := .int .i64 keep) rfl
        by_cases hlt : j < r.length
        · have hrj := hS.rot4.rd
          have hg := aks_get (l := (k + 1, keep) :: r) (k := j + 1) (by simp; omega)
          rw [List.getElem_cons_succ] at hg
          obtain ⟨_, _, e1, hcl⟩ := hrj.addr (by rw [aks_cons]; simp)
          cases e1
          have r0 : wr.cell? ⟨ba, oa + (j + 1) * 2, none⟩ = some (.int .i64 (r[j].1 : Int)) := by rw [Nat.mul_comm]; exact hcl _ _ hg.1
          have r1 : wr.cell? ⟨ba, oa + (j + 1) * 2 + 1, none⟩ = some (.int .i64 r[j].2) := by rw [Nat.mul_comm, Nat.add_assoc]; exact hcl _ _ hg.2
          have HTK := Hid.mk' (show aks ([(k, keep)] ++ r.take j) ++ [.int .i64 (r[j].1 : Int), .int .i64 r[j].2] = aks ([(k, keep)] ++ r.take (j + 1)) by rw [take_snoc r j hlt, ← List.append_assoc, aks_append ([(k, keep)] ++ r.take j)]; rfl)
          clear hcl hg hrj
          go_wp2_with (at_builtin; go_loud (refine sl_append rfl _ _ 165 rfl 198 (.agg #[.int .i64 0, .int .i64 0]) 2 16 Tryd.underlying165 info_Arm rfl (by decide) _ (1 + j) _ rfl (by exact hS.skip) _ 1 _ [.int .i64 (r[j].1 : Int), .int .i64 r[j].2] rfl rfl (by exact Rd.made' _ _ _ _ _ (by simp)) (by intro u hu; simp at hu; rcases hu with rfl | rfl <;> rfl) (by simp only [maxLen]; omega) (by omega) ?_); intro v' w' hS')
          refine ⟨⟨j + 1, v', by omega, by first | rfl | trivial, by go_num, ?_⟩, by simp [intOf]; omega⟩
          rw [HTK.out] at hS'
          rw [show 1 + (j + 1) = 1 + j + 1 by omega]
          exact hS'
        · obtain rfl : j = r.length := by omega
          have f4 := hS.rot3.free 4
          obtain ⟨so, sc, rfl, _, _, _⟩ := hS.vec_rd
          have hfin := (hS.rot3.store 4 (.slice so (1 + r.length) sc)).perm (B := F * vec 5 1 sv (D.bytes.take D.synced).length (bvs (D.bytes.take D.synced)) * vec 5 1 tv (D.bytes.drop D.synced).length (bvs (D.bytes.drop D.synced)) * vec 198 2 (.slice so (1 + r.length) sc) (1 + r.length) (aks ([(k, keep)] ++ r.take r.length)) * blk b [sv, tv, .int .i64 D.room, .bool D.dead, .slice so (1 + r.length) sc] 167 * (blk bw [.int .i64 ((k : Int) + 1), .int .i64 keep] 198 * vec 198 2 (.slice (some ⟨ba, oa, none⟩) ((k + 1, keep) :: r).length cap) ((k + 1, keep) :: r).length (aks ((k + 1, keep) :: r)))) (by simp only [List.set_cons_succ, List.set_cons_zero]; ac_rfl)
          have HFIN := Hid.mk' hfin.drop
          clear hfin
          have hne : bw ≠ b := (hS.swap.perm (B := F * vec 5 1 sv (D.bytes.take D.synced).length (bvs (D.bytes.take D.synced)) * vec 5 1 tv (D.bytes.drop D.synced).length (bvs (D.bytes.drop D.synced)) * vec 198 2 (.slice (some ⟨ba, oa, none⟩) ((k + 1, keep) :: r).length cap) ((k + 1, keep) :: r).length (aks ((k + 1, keep) :: r)) * vec 198 2 (.slice so (1 + r.length) sc) (1 + r.length) (aks ([(k, keep)] ++ r.take r.length)) * blk bw [.int .i64 ((k : Int) + 1), .int .i64 keep] 198 * blk b [sv, tv, .int .i64 D.room, .bool D.dead, .slice (some ⟨ba, oa, none⟩) ((k + 1, keep) :: r).length cap] 167) (by ac_rfl)).blk_ne
          clear hS
          go_wp2_with fail
          go_quiet (fail)
          go_wp2
          go_ret2
          refine Ret.mk ?_
          rw [H1.out, H2.out]
          refine ⟨by first | rfl | simp, Sat.rk_shut (D := { D with arms := D.rest }) _ _ rfl rfl (sv := sv) (tv := tv) (av := .slice so (1 + r.length) sc) ?_⟩
          show Sat w0 _ (F * vec 5 1 sv (D.bytes.take D.synced).length (bvs (D.bytes.take D.synced)) * vec 5 1 tv (D.bytes.drop D.synced).length (bvs (D.bytes.drop D.synced)) * vec 198 2 (.slice so (1 + r.length) sc) D.rest.length (aks D.rest) * blk b [sv, tv, .int .i64 D.room, .bool D.dead, .slice so (1 + r.length) sc] 167)
          have h := HFIN.out.drewN nq
          rw [List.take_length] at h
          rw [H3.out]
          rw [List.length_cons, Nat.add_comm r.length 1]
          exact h
    | zero =>
      have hs2 := (hs1.new #[.int .i64 0, .int .i64 keep] 198).vec_nil 198 2
      have H2 := Hid.mk' (show D.diesB = true by unfold Dk.diesB; rw [ha]; rfl)
      have H3 := Hid.mk' (show D.rest = r by unfold Dk.rest; rw [ha])
      clear hs ha
      have a0' : w.cell? ⟨ba, oa, none⟩ = some (.int .i64 0) := a0
      have hS0 := hs2
      clear a0 hcl
      go_enter Tryd.func105, Tryd.ntmps105
      go_wp2_with fail
      generalize hbw : w.heap.size = bw at hS0
      clear hs1 hrd hs2 hbw
      go_loopw [5, 6] (fun t i wr => ∃ (j : Nat) (tv' : Value), j ≤ r.length ∧ t = tv' ∧ i = .int .i64 ((j : Int) + 1) ∧ Sat w0 wr (F * vec 5 1 sv (D.bytes.take D.synced).length (bvs (D.bytes.take D.synced)) * vec 5 1 tv (D.bytes.drop D.synced).length (bvs (D.bytes.drop D.synced)) * vec 198 2 (.slice (some ⟨ba, oa, none⟩) ((0, keep) :: r).length cap) ((0, keep) :: r).length (aks ((0, keep) :: r)) * blk b [sv, tv, .int .i64 D.room, .bool D.dead, .slice (some ⟨ba, oa, none⟩) ((0, keep) :: r).length cap] 167 * blk bw [.int .i64 0, .int .i64 keep] 198 * vec 198 2 tv' (0 + j) (aks ([] ++ r.take j)))) (fun _ i _ => r.length + 1 - (intOf i).toNat)
      case atStart => exact ⟨0, _, by omega, rfl, rfl, by rw [List.take_zero]; exact hS0⟩
      case round =>
        clear hS0
        obtain ⟨j, tv', hj, rfl, rfl, hS⟩ := hrel
        have c4 := hS.rot3.cell (i := 4) (v := .slice (some ⟨ba, oa, none⟩) (r.length + 1) cap) rfl
        have q0 := hS.swap.cell (i := 0) (v := .int .i64 0) rfl
        have q1 := hS.swap.cell (i := 1) (v := .int .i64 keep) rfl
        by_cases hlt : j < r.length
        · have hrj := hS.rot4.rd
          have hg := aks_get (l := (0, keep) :: r) (k := j + 1) (by simp; omega)
          rw [List.getElem_cons_succ] at hg
          obtain ⟨_, _, e1, hcl⟩ := hrj.addr (by rw [aks_cons]; simp)
          cases e1
          have r0 : wr.cell? ⟨ba, oa + (j + 1) * 2, none⟩ = some (.int .i64 (r[j].1 : Int)) := by rw [Nat.mul_comm]; exact hcl _ _ hg.1
          have r1 : wr.cell? ⟨ba, oa + (j + 1) * 2 + 1, none⟩ = some (.int .i64 r[j].2) := by rw [Nat.mul_comm, Nat.add_assoc]; exact hcl _ _ hg.2
          have HTK := Hid.mk' (show aks ([] ++ r.take j) ++ [.int .i64 (r[j].1 : Int), .int .i64 r[j].2] = aks ([] ++ r.take (j + 1)) by rw [take_snoc r j hlt, ← List.append_assoc, aks_append ([] ++ r.take j)]; rfl)
          clear hcl hg hrj
          go_wp2_with (at_builtin; go_loud (refine sl_append rfl _ _ 165 rfl 198 (.agg #[.int .i64 0, .int .i64 0]) 2 16 Tryd.underlying165 info_Arm rfl (by decide) _ (0 + j) _ rfl (by exact hS.skip) _ 1 _ [.int .i64 (r[j].1 : Int), .int .i64 r[j].2] rfl rfl (by exact Rd.made' _ _ _ _ _ (by simp)) (by intro u hu; simp at hu; rcases hu with rfl | rfl <;> rfl) (by simp only [maxLen]; omega) (by omega) ?_); intro v' w' hS')
          refine ⟨⟨j + 1, v', by omega, by first | rfl | trivial, by go_num, ?_⟩, by simp [intOf]; omega⟩
          rw [HTK.out] at hS'
          rw [show 0 + (j + 1) = 0 + j + 1 by omega]
          exact hS'
        · obtain rfl : j = r.length := by omega
          have f4 := hS.rot3.free 4
          obtain ⟨so, sc, rfl, _, _, _⟩ := hS.vec_rd
          have hfin := (hS.rot3.store 4 (.slice so (0 + r.length) sc)).perm (B := F * vec 5 1 sv (D.bytes.take D.synced).length (bvs (D.bytes.take D.synced)) * vec 5 1 tv (D.bytes.drop D.synced).length (bvs (D.bytes.drop D.synced)) * vec 198 2 (.slice so (0 + r.length) sc) (0 + r.length) (aks ([] ++ r.take r.length)) * blk b [sv, tv, .int .i64 D.room, .bool D.dead, .slice so (0 + r.length) sc] 167 * (blk bw [.int .i64 0, .int .i64 keep] 198 * vec 198 2 (.slice (some ⟨ba, oa, none⟩) ((0, keep) :: r).length cap) ((0, keep) :: r).length (aks ((0, keep) :: r)))) (by simp only [List.set_cons_succ, List.set_cons_zero]; ac_rfl)
          have HFIN := Hid.mk' hfin.drop
          clear hfin
          have hne : bw ≠ b := (hS.swap.perm (B := F * vec 5 1 sv (D.bytes.take D.synced).length (bvs (D.bytes.take D.synced)) * vec 5 1 tv (D.bytes.drop D.synced).length (bvs (D.bytes.drop D.synced)) * vec 198 2 (.slice (some ⟨ba, oa, none⟩) ((0, keep) :: r).length cap) ((0, keep) :: r).length (aks ((0, keep) :: r)) * vec 198 2 (.slice so (0 + r.length) sc) (0 + r.length) (aks ([] ++ r.take r.length)) * blk bw [.int .i64 0, .int .i64 keep] 198 * blk b [sv, tv, .int .i64 D.room, .bool D.dead, .slice (some ⟨ba, oa, none⟩) ((0, keep) :: r).length cap] 167) (by ac_rfl)).blk_ne
          clear hS
          go_wp2_with fail
          go_quiet (fail)
          go_wp2
          go_ret2
          refine Ret.mk ?_
          rw [H1.out, H2.out]
          refine ⟨by first | rfl | simp, Sat.rk_shut (D := { D with arms := D.rest }) _ _ rfl rfl (sv := sv) (tv := tv) (av := .slice so (0 + r.length) sc) ?_⟩
          show Sat w0 _ (F * vec 5 1 sv (D.bytes.take D.synced).length (bvs (D.bytes.take D.synced)) * vec 5 1 tv (D.bytes.drop D.synced).length (bvs (D.bytes.drop D.synced)) * vec 198 2 (.slice so (0 + r.length) sc) D.rest.length (aks D.rest) * blk b [sv, tv, .int .i64 D.room, .bool D.dead, .slice so (0 + r.length) sc] 167)
          have h := HFIN.out.drewN nq
          rw [List.take_length] at h
          rw [H3.out]
          rw [Nat.zero_add] at h ⊢
          exact h
end Go.Proofs.YtjhlelcopofkkaaDoor
