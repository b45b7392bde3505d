/- The document's disk: its inner functions, by the same account of what a disk holds. · The document's disk: how it looks at the arms, how it fails. · The document's disk: how it fails. · The document's disk: its operations answer by the same account as the program's. · The document's disk: Sync, ReadAll, Truncate and what is no operation. · The document's disk: Truncate, Arm, Crash, Dead, Revive, Look, Open, New. · The document's disk: what is no operation. -/
import Derived.Test.YtjhlelcopofkkaaDoorDiskP

/-! Ref12 -/
namespace Go.Proofs.YtjhlelcopofkkaaDoor
open Go.RowKit

/-- The document's disk, at the head of a block: what is synced and what is not lie in two lists. -/
def rk (b : Nat) (D : Dk) : HP := fun h => ∃ sv tv av, (vec 5 1 sv (D.bytes.take D.synced).length (bvs (D.bytes.take D.synced)) * vec 5 1 tv (D.bytes.drop D.synced).length (bvs (D.bytes.drop D.synced)) * vec 198 2 av D.arms.length (aks D.arms) * blk b [sv, tv, .int .i64 D.room, .bool D.dead, av] 167) h
section
variable {w0 w : World} {F : HP} {b : Nat} {D : Dk}
theorem Sat.rk_open (hs : Sat w0 w (F * rk b D)) : ∃ sv tv av, Sat w0 w (F * vec 5 1 sv (D.bytes.take D.synced).length (bvs (D.bytes.take D.synced)) * vec 5 1 tv (D.bytes.drop D.synced).length (bvs (D.bytes.drop D.synced)) * vec 198 2 av D.arms.length (aks D.arms) * blk b [sv, tv, .int .i64 D.room, .bool D.dead, av] 167) := by
  obtain ⟨x, ⟨h1, h2, ha, ⟨sv, tv, av, hb⟩, hd, hu⟩, hx⟩ := hs.held
  refine ⟨sv, tv, av, ?_⟩
  rw [HP.assoc, HP.assoc, HP.assoc]
  rw [HP.assoc, HP.assoc] at hb
  exact ⟨hs.below, x, ⟨h1, h2, ha, hb, hd, hu⟩, hx⟩
theorem Sat.rk_shut (sf tl : List UInt8) (hsf : D.bytes.take D.synced = sf) (htl : D.bytes.drop D.synced = tl) {sv tv av : Value} (hs : Sat w0 w (F * vec 5 1 sv sf.length (bvs sf) * vec 5 1 tv tl.length (bvs tl) * vec 198 2 av D.arms.length (aks D.arms) * blk b [sv, tv, .int .i64 D.room, .bool D.dead, av] 167)) : Sat w0 w (F * rk b D) := by
  subst hsf; subst htl
  rw [HP.assoc, HP.assoc, HP.assoc] at hs
  exact hs.imp_last fun x hx => ⟨sv, tv, av, by rw [HP.assoc, HP.assoc]; exact hx⟩
end

set_option maxHeartbeats 1600000 in
theorem ref12_fresh {w : World} (xs : List UInt8) (ao : Option Addr) (c : Nat) (hr : Rd w ao (bvs xs)) (hn : xs.length ≤ 140737488351232) :
    Calls Tryd.prog 100 #[.slice ao xs.length c] w (Ret fun v w' => Sat w w' (vec 5 1 v xs.length (bvs xs))) := by
  go_enter Tryd.func100, Tryd.ntmps100
  go_wp2
  go_loopw [3, 4] (fun l i wr => ∃ k : Nat, k ≤ xs.length ∧ i = .int .i64 k ∧ Sat w wr (1 * vec 5 1 l k (bvs (xs.take k)))) (fun _ i _ => xs.length - (intOf i).toNat)
  case atStart => exact ⟨0, by omega, rfl, (Sat.refl w).vec_nil _ _⟩
  case round =>
    obtain ⟨k, hk, rfl, hS⟩ := hrel
    by_cases hlt : k < xs.length
    · obtain ⟨b, of, rfl, hcells⟩ := (hr.mono hS.below).addr (by intro e; have := bvs_length xs; rw [e] at this; simp at this; omega)
      have hcell : wr.cell? ⟨b, of + k, none⟩ = some (.int .u8 (xs[k].toNat : Int)) := hcells k _ (bvs_get hlt)
      go_wp2_with (at_builtin; refine sl_append rfl _ _ 22 rfl 5 (.int .u8 0) 1 1 Tryd.underlying22 info_u8 rfl (by decide) _ k _ rfl (by exact hS.skip) _ 1 _ [bv xs[k]] rfl rfl (by exact Rd.made _ _ _ _) (by intro u hu; simp at hu; subst hu; rfl) (by simp only [maxLen]; omega) (by omega) ?_; intro v' w' hS')
      refine ⟨⟨k + 1, by omega, rfl, ?_⟩, by simp [intOf]; omega⟩
      rw [take_snoc xs k hlt, bvs_append]
      exact hS'
    · obtain rfl : k = xs.length := by omega
      go_wp2
      go_ret
      rw [HP.one_mul, List.take_length] at hS
      exact Ret.mk hS

set_option maxRecDepth 20000 in
set_option maxHeartbeats 3200000 in
theorem ref12_all {w0 w : World} {F : HP} {b : Nat} {D : Dk} (hD : D.Ok) (hs : Sat w0 w (F * rk b D)) :
    Calls Tryd.prog 140 #[.pointer (some ⟨b, 0, none⟩)] w (Ret fun v w' => Sat w0 w' (F * rk b D * vec 5 1 v D.bytes.length (bvs D.bytes))) := by
  obtain ⟨sv, tv, av, hs1⟩ := hs.rk_open
  have hsy := hD.synced
  have hby := hD.bytes
  have hl1 : (D.bytes.take D.synced).length = D.synced := by rw [List.length_take]; omega
  have hl2 : (D.bytes.drop D.synced).length = D.bytes.length - D.synced := List.length_drop
  obtain ⟨so, sc, rfl, _, hsr, _⟩ := hs1.rot4.vec_rd
  obtain ⟨to_, tc, rfl, _, _, htn⟩ := hs1.rot3.vec_rd
  have HF := Hid.mk' (ref12_fresh (w := w) (D.bytes.take D.synced) so sc hsr (by omega))
  rw [hl1] at HF
  rw [hl2] at htn
  have HT := Hid.mk' htn
  have k0 := hs1.cell (i := 0) (v := .slice so D.synced sc) (by rw [hl1]; rfl)
  have k1 : ∀ w3 A, Sat w w3 A → w3.cell? ⟨b, 1, none⟩ = some (.slice to_ (D.bytes.length - D.synced) tc) := fun w3 A h => by
    have h1 := hs1.cell (i := 1) (v := .slice to_ (D.bytes.length - D.synced) tc) (by rw [hl2]; rfl)
    exact (h.below.cell (World.block_lt_of_cell? _ _ h1)).trans h1
  have K1 := Hid.mk' k1
  have HB := Hid.mk' (show bvs (D.bytes.take D.synced) ++ bvs (D.bytes.drop D.synced) = bvs D.bytes by rw [← bvs_append, List.take_append_drop])
  have HL2 := Hid.mk' (show (bvs (D.bytes.drop D.synced)).length = (D.bytes.length - D.synced) * 1 by rw [bvs_length, hl2, Nat.mul_one])
  have HR := Hid.mk' (fun w3 A (h : Sat w w3 A) => (hs1.rot3.rd).mono h.below)
  have HL := Hid.mk' (show D.synced + (D.bytes.length - D.synced) = D.bytes.length by omega)
  clear hs1 k1 hsr htn hl1 hl2
  go_enter Tryd.func140, Tryd.ntmps140
  go_wp2_with (first | (go_at_call 100; refine HF.out.mono ?_; rintro e w3 ⟨v, rfl, hx⟩; have c1 := K1.out _ _ hx; have hx' := hx.one') | (at_builtin; go_loud (refine sl_append_any rfl _ _ 22 rfl 5 (.int .u8 0) 1 1 Tryd.underlying22 info_u8 rfl (by decide) _ D.synced _ rfl (by exact hx') _ (D.bytes.length - D.synced) tc (bvs (D.bytes.drop D.synced)) rfl HT.out HL2.out (by exact HR.out _ _ hx) (bvs_one _) (by simp only [maxLen]; omega) (by omega) ?_); intro v' w' hS))
  go_ret
  rw [HB.out, HL.out] at hS
  exact Ret.mk (hs.glue hS.unone')
end Go.Proofs.YtjhlelcopofkkaaDoor

/-! Ref12b -/
namespace Go.Proofs.YtjhlelcopofkkaaDoor
open Go.RowKit

theorem info_Arm : (Tryd.prog.info? 198).map (fun i => (i.zero, i.size, i.bytes)) = some (some (.agg #[.int .i64 0, .int .i64 0]), 2, 16) := by kernel_rfl
theorem aks_get {l : List (Nat × Int)} {k : Nat} (h : k < l.length) : (aks l)[2 * k]? = some (.int .i64 l[k].1) ∧ (aks l)[2 * k + 1]? = some (.int .i64 l[k].2) := by
  induction l generalizing k with
  | nil => simp at h
  | cons x l ih =>
    rw [aks_cons]
    cases k with
    | zero => exact ⟨rfl, rfl⟩
    | succ k =>
      have := ih (k := k) (by simpa using h)
      rw [List.getElem?_append_right (by simp; omega), List.getElem?_append_right (by simp; omega)]
      simp only [List.length_cons, List.length_nil, List.getElem_cons_succ]
      rw [show 2 * (k + 1) - (0 + 1 + 1) = 2 * k by omega, show 2 * (k + 1) + 1 - (0 + 1 + 1) = 2 * k + 1 by omega]
      exact this

set_option maxRecDepth 20000 in
set_option maxHeartbeats 6400000 in
theorem ref12_dies {w0 w : World} {F : HP} {b : Nat} {D : Dk} (hD : D.Ok) (hs : Sat w0 w (F * rk b D)) (hn : D.arms.length < 8796093022207) :
    Calls Tryd.prog 105 #[.pointer (some ⟨b, 0, none⟩)] w (Ret fun v w' => v = .tuple #[.bool D.diesB, .int .i64 D.diesK] ∧ Sat w0 w' (F * rk b { D with arms := D.rest })) := by
  obtain ⟨sv, tv, av, hs1⟩ := hs.rk_open
  obtain ⟨ao, cap, rfl, hcap, hrd, _⟩ := hs1.swap.vec_rd
  cases ha : D.arms with
  | nil =>
    have k4 := hs1.cell (i := 4) (v := .slice ao 0 cap) (by rw [ha]; rfl)
    have H1 := Hid.mk' (show D.diesB = false ∧ D.diesK = 0 ∧ ({ D with arms := D.rest } : Dk) = D by
      obtain ⟨a1, a2, a3, a4, a5⟩ := D
      simp only at ha
      subst ha
      exact ⟨rfl, rfl, rfl⟩)
    clear hs1 hrd ha
    go_enter Tryd.func105, Tryd.ntmps105
    go_wp2_with fail
    go_ret2
    refine Ret.mk ?_
    rw [H1.out.1, H1.out.2.1, H1.out.2.2]
    exact ⟨rfl, hs⟩
  | cons x r =>
    obtain ⟨k, keep⟩ := x
    rw [ha] at hs1 hrd hcap
    obtain ⟨ba, oa, rfl, hcl⟩ := hrd.addr (by rw [aks_cons]; simp)
    have a0 : w.cell? ⟨ba, oa, none⟩ = some (.int .i64 (k : Int)) := hcl 0 _ rfl
    have a1 : w.cell? ⟨ba, oa + 1, none⟩ = some (.int .i64 keep) := hcl 1 _ rfl
    have k4 := hs1.cell (i := 4) (v := .slice (some ⟨ba, oa, none⟩) (r.length + 1) cap) rfl
    have hok := hD.arms (k, keep) (by rw [ha]; exact List.mem_cons_self ..)
    have hl0 : ((r.length : Int) + 1 == 0) = false := beq_eq_false_iff_ne.2 (by omega)
    rw [ha, List.length_cons] at hn
    have H1 := Hid.mk' (show D.diesK = keep by unfold Dk.diesK; rw [ha])
    cases k with
    | succ k =>
      have hs2 := (hs1.new #[.int .i64 ((k : Int) + 1), .int .i64 keep] 198).vec_nil 198 2
      have H2 := Hid.mk' (show D.diesB = false by unfold Dk.diesB; rw [ha]; rfl)
      have H3 := Hid.mk' (show D.rest = (k, keep) :: r by unfold Dk.rest; rw [ha])
      clear hs ha
      have a0' : w.cell? ⟨ba, oa, none⟩ = some (.int .i64 ((k : Int) + 1)) := a0
      clear a0 hcl
      go_enter Tryd.func105, Tryd.ntmps105
      go_wp2_with (at_builtin; go_loud (refine sl_append rfl _ _ 165 rfl 198 (.agg #[.int .i64 0, .int .i64 0]) 2 16 Tryd.underlying165 info_Arm rfl (by decide) _ 0 [] rfl (by exact hs2.skip) _ 1 _ [.int .i64 k, .int .i64 keep] rfl rfl (by exact Rd.made' _ _ _ _ _ (by simp)) (by intro u hu; simp at hu; rcases hu with rfl | rfl <;> rfl) (by simp only [maxLen]; omega) (by omega) ?_); intro v' w' hS0; obtain ⟨so0, cap', rfl, _, _, _⟩ := hS0.vec_rd)
      generalize hbw : w.heap.size = bw at hS0
      clear hs1 hrd hs2 hbw
      go_loopw [5, 6] (fun t i wr => ∃ (j : Nat) (tv' : Value), j ≤ r.length ∧ t = tv' ∧ i = .int .i64 ((j : Int) + 1) ∧ Sat w0 wr (F * vec 5 1 sv (D.bytes.take D.synced).length (bvs (D.bytes.take D.synced)) * vec 5 1 tv (D.bytes.drop D.synced).length (bvs (D.bytes.drop D.synced)) * vec 198 2 (.slice (some ⟨ba, oa, none⟩) ((k + 1, keep) :: r).length cap) ((k + 1, keep) :: r).length (aks ((k + 1, keep) :: r)) * blk b [sv, tv, .int .i64 D.room, .bool D.dead, .slice (some ⟨ba, oa, none⟩) ((k + 1, keep) :: r).length cap] 167 * blk bw [.int .i64 ((k : Int) + 1), .int .i64 keep] 198 * vec 198 2 tv' (1 + j) (aks ([(k, keep)] ++ r.take j)))) (fun _ i _ => r.length + 1 - (intOf i).toNat)
      case atStart => exact ⟨0, _, by omega, rfl, rfl, by rw [List.take_zero]; exact hS0⟩
      case round =>
        clear hS0
        obtain ⟨j, tv', hj, rfl, rfl, hS⟩ := hrel
        have c4 := hS.rot3.cell (i := 4) (v := .slice (some ⟨ba, oa, none⟩) (r.length + 1) cap) rfl
        have q0 := hS.swap.cell (i := 0) (v := .int .i64 ((k : Int) + 1)) rfl
        have q1 := hS.swap.cell (i := 1) (v := .int .i64 keep) rfl
        by_cases hlt : j < r.length
        · have hrj := hS.rot4.rd
          have hg := aks_get (l := (k + 1, keep) :: r) (k := j + 1) (by simp; omega)
          rw [List.getElem_cons_succ] at hg
          obtain ⟨_, _, e1, hcl⟩ := hrj.addr (by rw [aks_cons]; simp)
          cases e1
          have r0 : wr.cell? ⟨ba, oa + (j + 1) * 2, none⟩ = some (.int .i64 (r[j].1 : Int)) := by rw [Nat.mul_comm]; exact hcl _ _ hg.1
          have r1 : wr.cell? ⟨ba, oa + (j + 1) * 2 + 1, none⟩ = some (.int .i64 r[j].2) := by rw [Nat.mul_comm, Nat.add_assoc]; exact hcl _ _ hg.2
          have HTK := Hid.mk' (show aks ([(k, keep)] ++ r.take j) ++ [.int .i64 (r[j].1 : Int), .int .i64 r[j].2] = aks ([(k, keep)] ++ r.take (j + 1)) by rw [take_snoc r j hlt, ← List.append_assoc, aks_append ([(k, keep)] ++ r.take j)]; rfl)
          clear hcl hg hrj
          go_wp2_with (at_builtin; go_loud (refine sl_append rfl _ _ 165 rfl 198 (.agg #[.int .i64 0, .int .i64 0]) 2 16 Tryd.underlying165 info_Arm rfl (by decide) _ (1 + j) _ rfl (by exact hS.skip) _ 1 _ [.int .i64 (r[j].1 : Int), .int .i64 r[j].2] rfl rfl (by exact Rd.made' _ _ _ _ _ (by simp)) (by intro u hu; simp at hu; rcases hu with rfl | rfl <;> rfl) (by simp only [maxLen]; omega) (by omega) ?_); intro v' w' hS')
          refine ⟨⟨j + 1, v', by omega, by first | rfl | trivial, by go_num, ?_⟩, by simp [intOf]; omega⟩
          rw [HTK.out] at hS'
          rw [show 1 + (j + 1) = 1 + j + 1 by omega]
          exact hS'
        · obtain rfl : j = r.length := by omega
          have f4 := hS.rot3.free 4
          obtain ⟨so, sc, rfl, _, _, _⟩ := hS.vec_rd
          have hfin := (hS.rot3.store 4 (.slice so (1 + r.length) sc)).perm (B := F * vec 5 1 sv (D.bytes.take D.synced).length (bvs (D.bytes.take D.synced)) * vec 5 1 tv (D.bytes.drop D.synced).length (bvs (D.bytes.drop D.synced)) * vec 198 2 (.slice so (1 + r.length) sc) (1 + r.length) (aks ([(k, keep)] ++ r.take r.length)) * blk b [sv, tv, .int .i64 D.room, .bool D.dead, .slice so (1 + r.length) sc] 167 * (blk bw [.int .i64 ((k : Int) + 1), .int .i64 keep] 198 * vec 198 2 (.slice (some ⟨ba, oa, none⟩) ((k + 1, keep) :: r).length cap) ((k + 1, keep) :: r).length (aks ((k + 1, keep) :: r)))) (by simp only [List.set_cons_succ, List.set_cons_zero]; ac_rfl)
          have HFIN := Hid.mk' hfin.drop
          clear hfin
          have hne : bw ≠ b := (hS.swap.perm (B := F * vec 5 1 sv (D.bytes.take D.synced).length (bvs (D.bytes.take D.synced)) * vec 5 1 tv (D.bytes.drop D.synced).length (bvs (D.bytes.drop D.synced)) * vec 198 2 (.slice (some ⟨ba, oa, none⟩) ((k + 1, keep) :: r).length cap) ((k + 1, keep) :: r).length (aks ((k + 1, keep) :: r)) * vec 198 2 (.slice so (1 + r.length) sc) (1 + r.length) (aks ([(k, keep)] ++ r.take r.length)) * blk bw [.int .i64 ((k : Int) + 1), .int .i64 keep] 198 * blk b [sv, tv, .int .i64 D.room, .bool D.dead, .slice (some ⟨ba, oa, none⟩) ((k + 1, keep) :: r).length cap] 167) (by ac_rfl)).blk_ne
          clear hS
          go_wp2_with fail
          go_quiet (fail)
          go_wp2
          go_ret2
          refine Ret.mk ?_
          rw [H1.out, H2.out]
          refine ⟨by first | rfl | simp, Sat.rk_shut (D := { D with arms := D.rest }) _ _ rfl rfl (sv := sv) (tv := tv) (av := .slice so (1 + r.length) sc) ?_⟩
          show Sat w0 _ (F * vec 5 1 sv (D.bytes.take D.synced).length (bvs (D.bytes.take D.synced)) * vec 5 1 tv (D.bytes.drop D.synced).length (bvs (D.bytes.drop D.synced)) * vec 198 2 (.slice so (1 + r.length) sc) D.rest.length (aks D.rest) * blk b [sv, tv, .int .i64 D.room, .bool D.dead, .slice so (1 + r.length) sc] 167)
          have h := HFIN.out.drewN nq
          rw [List.take_length] at h
          rw [H3.out]
          rw [List.length_cons, Nat.add_comm r.length 1]
          exact h
    | zero =>
      have hs2 := (hs1.new #[.int .i64 0, .int .i64 keep] 198).vec_nil 198 2
      have H2 := Hid.mk' (show D.diesB = true by unfold Dk.diesB; rw [ha]; rfl)
      have H3 := Hid.mk' (show D.rest = r by unfold Dk.rest; rw [ha])
      clear hs ha
      have a0' : w.cell? ⟨ba, oa, none⟩ = some (.int .i64 0) := a0
      have hS0 := hs2
      clear a0 hcl
      go_enter Tryd.func105, Tryd.ntmps105
      go_wp2_with fail
      generalize hbw : w.heap.size = bw at hS0
      clear hs1 hrd hs2 hbw
      go_loopw [5, 6] (fun t i wr => ∃ (j : Nat) (tv' : Value), j ≤ r.length ∧ t = tv' ∧ i = .int .i64 ((j : Int) + 1) ∧ Sat w0 wr (F * vec 5 1 sv (D.bytes.take D.synced).length (bvs (D.bytes.take D.synced)) * vec 5 1 tv (D.bytes.drop D.synced).length (bvs (D.bytes.drop D.synced)) * vec 198 2 (.slice (some ⟨ba, oa, none⟩) ((0, keep) :: r).length cap) ((0, keep) :: r).length (aks ((0, keep) :: r)) * blk b [sv, tv, .int .i64 D.room, .bool D.dead, .slice (some ⟨ba, oa, none⟩) ((0, keep) :: r).length cap] 167 * blk bw [.int .i64 0, .int .i64 keep] 198 * vec 198 2 tv' (0 + j) (aks ([] ++ r.take j)))) (fun _ i _ => r.length + 1 - (intOf i).toNat)
      case atStart => exact ⟨0, _, by omega, rfl, rfl, by rw [List.take_zero]; exact hS0⟩
      case round =>
        clear hS0
        obtain ⟨j, tv', hj, rfl, rfl, hS⟩ := hrel
        have c4 := hS.rot3.cell (i := 4) (v := .slice (some ⟨ba, oa, none⟩) (r.length + 1) cap) rfl
        have q0 := hS.swap.cell (i := 0) (v := .int .i64 0) rfl
        have q1 := hS.swap.cell (i := 1) (v := .int .i64 keep) rfl
        by_cases hlt : j < r.length
        · have hrj := hS.rot4.rd
          have hg := aks_get (l := (0, keep) :: r) (k := j + 1) (by simp; omega)
          rw [List.getElem_cons_succ] at hg
          obtain ⟨_, _, e1, hcl⟩ := hrj.addr (by rw [aks_cons]; simp)
          cases e1
          have r0 : wr.cell? ⟨ba, oa + (j + 1) * 2, none⟩ = some (.int .i64 (r[j].1 : Int)) := by rw [Nat.mul_comm]; exact hcl _ _ hg.1
          have r1 : wr.cell? ⟨ba, oa + (j + 1) * 2 + 1, none⟩ = some (.int .i64 r[j].2) := by rw [Nat.mul_comm, Nat.add_assoc]; exact hcl _ _ hg.2
          have HTK := Hid.mk' (show aks ([] ++ r.take j) ++ [.int .i64 (r[j].1 : Int), .int .i64 r[j].2] = aks ([] ++ r.take (j + 1)) by rw [take_snoc r j hlt, ← List.append_assoc, aks_append ([] ++ r.take j)]; rfl)
          clear hcl hg hrj
          go_wp2_with (at_builtin; go_loud (refine sl_append rfl _ _ 165 rfl 198 (.agg #[.int .i64 0, .int .i64 0]) 2 16 Tryd.underlying165 info_Arm rfl (by decide) _ (0 + j) _ rfl (by exact hS.skip) _ 1 _ [.int .i64 (r[j].1 : Int), .int .i64 r[j].2] rfl rfl (by exact Rd.made' _ _ _ _ _ (by simp)) (by intro u hu; simp at hu; rcases hu with rfl | rfl <;> rfl) (by simp only [maxLen]; omega) (by omega) ?_); intro v' w' hS')
          refine ⟨⟨j + 1, v', by omega, by first | rfl | trivial, by go_num, ?_⟩, by simp [intOf]; omega⟩
          rw [HTK.out] at hS'
          rw [show 0 + (j + 1) = 0 + j + 1 by omega]
          exact hS'
        · obtain rfl : j = r.length := by omega
          have f4 := hS.rot3.free 4
          obtain ⟨so, sc, rfl, _, _, _⟩ := hS.vec_rd
          have hfin := (hS.rot3.store 4 (.slice so (0 + r.length) sc)).perm (B := F * vec 5 1 sv (D.bytes.take D.synced).length (bvs (D.bytes.take D.synced)) * vec 5 1 tv (D.bytes.drop D.synced).length (bvs (D.bytes.drop D.synced)) * vec 198 2 (.slice so (0 + r.length) sc) (0 + r.length) (aks ([] ++ r.take r.length)) * blk b [sv, tv, .int .i64 D.room, .bool D.dead, .slice so (0 + r.length) sc] 167 * (blk bw [.int .i64 0, .int .i64 keep] 198 * vec 198 2 (.slice (some ⟨ba, oa, none⟩) ((0, keep) :: r).length cap) ((0, keep) :: r).length (aks ((0, keep) :: r)))) (by simp only [List.set_cons_succ, List.set_cons_zero]; ac_rfl)
          have HFIN := Hid.mk' hfin.drop
          clear hfin
          have hne : bw ≠ b := (hS.swap.perm (B := F * vec 5 1 sv (D.bytes.take D.synced).length (bvs (D.bytes.take D.synced)) * vec 5 1 tv (D.bytes.drop D.synced).length (bvs (D.bytes.drop D.synced)) * vec 198 2 (.slice (some ⟨ba, oa, none⟩) ((0, keep) :: r).length cap) ((0, keep) :: r).length (aks ((0, keep) :: r)) * vec 198 2 (.slice so (0 + r.length) sc) (0 + r.length) (aks ([] ++ r.take r.length)) * blk bw [.int .i64 0, .int .i64 keep] 198 * blk b [sv, tv, .int .i64 D.room, .bool D.dead, .slice (some ⟨ba, oa, none⟩) ((0, keep) :: r).length cap] 167) (by ac_rfl)).blk_ne
          clear hS
          go_wp2_with fail
          go_quiet (fail)
          go_wp2
          go_ret2
          refine Ret.mk ?_
          rw [H1.out, H2.out]
          refine ⟨by first | rfl | simp, Sat.rk_shut (D := { D with arms := D.rest }) _ _ rfl rfl (sv := sv) (tv := tv) (av := .slice so (0 + r.length) sc) ?_⟩
          show Sat w0 _ (F * vec 5 1 sv (D.bytes.take D.synced).length (bvs (D.bytes.take D.synced)) * vec 5 1 tv (D.bytes.drop D.synced).length (bvs (D.bytes.drop D.synced)) * vec 198 2 (.slice so (0 + r.length) sc) D.rest.length (aks D.rest) * blk b [sv, tv, .int .i64 D.room, .bool D.dead, .slice so (0 + r.length) sc] 167)
          have h := HFIN.out.drewN nq
          rw [List.take_length] at h
          rw [H3.out]
          rw [Nat.zero_add] at h ⊢
          exact h
end Go.Proofs.YtjhlelcopofkkaaDoor

/-! Ref12c -/
namespace Go.Proofs.YtjhlelcopofkkaaDoor
open Go.RowKit

set_option maxRecDepth 20000 in
set_option maxHeartbeats 6400000 in
theorem ref12_fail {w0 w : World} {F : HP} {b : Nat} {D : Dk} (hD : D.Ok) (hs : Sat w0 w (F * rk b D)) (keep : Int) (hk2 : keep ≤ 9223372036854775807) :
    Calls Tryd.prog 106 #[.pointer (some ⟨b, 0, none⟩), .int .i64 keep] w (Ret fun v w' => v = .tuple #[] ∧ Sat w0 w' (F * rk b (D.fail keep))) := by
  obtain ⟨sv, tv, av, hs1⟩ := hs.rk_open
  have hsy := hD.synced
  have hby := hD.bytes
  have HL1 := Hid.mk' (show (D.bytes.take D.synced).length = D.synced by rw [List.length_take]; omega)
  have hl2 : (D.bytes.drop D.synced).length = D.bytes.length - D.synced := List.length_drop
  have HF := Hid.mk' (show ∀ k, k ≤ (D.bytes.drop D.synced).length → ¬ (k < (D.bytes.drop D.synced).length ∧ (k : Int) < keep) → k ≤ keep.toNat → (D.fail keep).bytes.take (D.fail keep).synced = D.bytes.take D.synced ++ (D.bytes.drop D.synced).take k ∧ (D.fail keep).bytes.drop (D.fail keep).synced = [] from fun k h1 h2 h3 => by
    have hkk : D.kept keep = D.synced + k := by unfold Dk.kept; omega
    show (D.bytes.take (D.kept keep)).take (D.kept keep) = _ ∧ (D.bytes.take (D.kept keep)).drop (D.kept keep) = []
    rw [hkk, List.take_take, Nat.min_self, List.take_add]
    exact ⟨rfl, List.drop_eq_nil_of_le (by rw [List.length_append, List.length_take, List.length_take]; omega)⟩)
  generalize D.bytes.take D.synced = sf at *
  generalize D.bytes.drop D.synced = tl at *
  have hsl : sf.length + tl.length ≤ 140737488351232 := by rw [HL1.out]; omega
  obtain ⟨to_, tc, rfl, htc, _, htn⟩ := hs1.rot3.vec_rd
  clear hs HL1 hl2
  go_enter Tryd.func106, Tryd.ntmps106
  go_wp2
  go_loopw [4] (fun i wr => ∃ (k : Nat) (sv' : Value), k ≤ tl.length ∧ k ≤ keep.toNat ∧ i = .int .i64 k ∧ Sat w0 wr (F * vec 5 1 (.slice to_ tl.length tc) tl.length (bvs tl) * vec 198 2 av D.arms.length (aks D.arms) * blk b [sv', .slice to_ tl.length tc, .int .i64 D.room, .bool D.dead, av] 167 * vec 5 1 sv' (sf.length + k) (bvs (sf ++ tl.take k)))) (fun i _ => tl.length + 1 - (intOf i).toNat)
  case atStart => exact ⟨0, sv, by omega, by omega, rfl, by rw [List.take_zero, List.append_nil]; exact hs1.rot4⟩
  case round =>
    clear hs1
    obtain ⟨k, sv', hk, hk3, rfl, hS⟩ := hrel
    obtain ⟨so, sc, rfl, _, _, _⟩ := hS.vec_rd
    have c0 := hS.swap.cell (i := 0) (v := .slice so (sf.length + k) sc) rfl
    have c1 := hS.swap.cell (i := 1) (v := .slice to_ tl.length tc) rfl
    have f0 := hS.swap.free 0
    by_cases hlt : k < tl.length
    · by_cases hlk : (k : Int) < keep
      · obtain ⟨bt, ot, rfl, hcl⟩ := hS.rot4.rd.addr (by intro e; have := bvs_length tl; rw [e] at this; simp at this; omega)
        have ct : wr.cell? ⟨bt, ot + k, none⟩ = some (.int .u8 (tl[k].toNat : Int)) := hcl k _ (bvs_get hlt)
        have HTK := Hid.mk' (show bvs (sf ++ tl.take k) ++ [bv tl[k]] = bvs (sf ++ tl.take (k + 1)) by rw [take_snoc tl k hlt, ← List.append_assoc, bvs_append (sf ++ tl.take k)]; rfl)
        have c0a : ∀ o, (wr.alloc o).cell? ⟨b, 0, none⟩ = some (.slice so (sf.length + k) sc) := fun o => hS.skip.swap.cell (i := 0) (v := .slice so (sf.length + k) sc) rfl
        have HS := Hid.mk' hS
        clear hcl hS
        go_wp2_with fail
        go_region_law ((refine step_append_vec rfl _ _ 22 rfl 5 (.int .u8 0) 1 1 Tryd.underlying22 info_u8 rfl (by decide) _ (sf.length + k) _ rfl (by exact HS.out.skip.drew) _ 1 _ [bv tl[k]] rfl rfl (by exact (Rd.made _ _ _ _).drew) (by intro u hu; simp at hu; subst hu; rfl) (by simp only [maxLen]; omega) (by omega) ?_; intro v' w' hS'; obtain ⟨so2, sc2, rfl, _, _, _⟩ := hS'.vec_rd; have d0 := hS'.swap.cell (i := 0) (v := .slice so (sf.length + k) sc) rfl; have e0 := hS'.swap.free 0))
        all_goals
          go_wp2
          refine ⟨⟨k + 1, .slice so2 (sf.length + k + 1) sc2, by omega, by omega, by first | rfl | go_num, ?_⟩, by simp [intOf]; omega⟩
          have h := (hS'.swap.store 0 (.slice so2 (sf.length + k + 1) sc2)).swap
          rw [HTK.out] at h
          exact h
      · have hfin := Hid.mk' (HF.out k hk (fun h => hlk h.2) hk3)
        have hd : Sat w0 ((wr.setCell ⟨b, 1, none⟩ (.slice none 0 0)).setCell ⟨b, 3, none⟩ (.bool true)) (F * rk b (D.fail keep)) := by
          refine Sat.rk_shut (D := D.fail keep) _ _ hfin.out.1 hfin.out.2 (sv := .slice so (sf.length + k) sc) (tv := .slice none 0 0) (av := av) ?_
          have h := (((hS.swap.store 1 (.slice none 0 0)).store 3 (.bool true)).rot4.drop).vec_nil 5 1
          rw [show (sf ++ tl.take k).length = sf.length + k by rw [List.length_append, List.length_take]; omega]
          exact h.perm (by simp only [List.set_cons_succ, List.set_cons_zero]; ac_rfl)
        have f1 := hS.swap.free 1
        have f3 := hS.swap.free 3
        have c3 := hS.swap.cell (i := 3) (v := .bool D.dead) rfl
        have HD := Hid.mk' hd
        clear hS hd
        go_wp2_with fail
        go_end0
        exact Ret.mk ⟨rfl, HD.out⟩
    · have hfin := Hid.mk' (HF.out k hk (fun h => hlt h.1) hk3)
      have hd : Sat w0 ((wr.setCell ⟨b, 1, none⟩ (.slice none 0 0)).setCell ⟨b, 3, none⟩ (.bool true)) (F * rk b (D.fail keep)) := by
        refine Sat.rk_shut (D := D.fail keep) _ _ hfin.out.1 hfin.out.2 (sv := .slice so (sf.length + k) sc) (tv := .slice none 0 0) (av := av) ?_
        have h := (((hS.swap.store 1 (.slice none 0 0)).store 3 (.bool true)).rot4.drop).vec_nil 5 1
        rw [show (sf ++ tl.take k).length = sf.length + k by rw [List.length_append, List.length_take]; omega]
        exact h.perm (by simp only [List.set_cons_succ, List.set_cons_zero]; ac_rfl)
      have f1 := hS.swap.free 1
      have f3 := hS.swap.free 3
      have c3 := hS.swap.cell (i := 3) (v := .bool D.dead) rfl
      have HD := Hid.mk' hd
      clear hS hd
      go_wp2_with fail
      go_end0
      exact Ret.mk ⟨rfl, HD.out⟩
end Go.Proofs.YtjhlelcopofkkaaDoor

/-! Ref12d -/
namespace Go.Proofs.YtjhlelcopofkkaaDoor
open Go.RowKit

theorem putp_take {D : Dk} (h : D.synced ≤ D.bytes.length) (p : List UInt8) : ({ D with bytes := D.bytes ++ p } : Dk).bytes.take D.synced = D.bytes.take D.synced ∧ ({ D with bytes := D.bytes ++ p } : Dk).bytes.drop D.synced = D.bytes.drop D.synced ++ p := by
  refine ⟨?_, ?_⟩
  · show (D.bytes ++ p).take D.synced = _
    rw [List.take_append_of_le_length h]
  · show (D.bytes ++ p).drop D.synced = _
    rw [List.drop_append_of_le_length h]

set_option maxRecDepth 20000 in
set_option maxHeartbeats 6400000 in
theorem ref12_append {w0 w : World} {F : HP} {b : Nat} {D : Dk} (p : List UInt8) (ao : Option Addr) (c : Nat) (hno : ao = none → p.length = 0 ∧ c = 0) (hn : p.length ≤ 140737488351232)
    (hp : ∀ w' A, Sat w0 w' (F * A) → Rd w' ao (bvs p)) (hD : D.Ok) (hs : Sat w0 w (F * rk b D)) (hm : D.arms.length < 8796093022207) :
    Calls Tryd.prog 46 #[.pointer (some ⟨b, 0, none⟩), .slice ao p.length c] w (Ret fun v w' => v = .int .i64 (D.append p).2 ∧ Sat w0 w' (F * rk b (D.append p).1)) := by
  have HP := Hid.mk' hp
  obtain ⟨sv, tv, av, hs1⟩ := hs.rk_open
  have k3 := hs1.cell (i := 3) (v := .bool D.dead) rfl
  clear hp hs1
  cases hd : D.dead with
  | true =>
    have HR := Hid.mk' (show D.append p = (D, 10) by unfold Dk.append; rw [Dk.gate_dead hd]; rfl)
    rw [hd] at k3
    clear hd
    go_enter Tryd.func46, Tryd.ntmps46
    go_wp2_with fail
    go_ret
    exact Ret.mk (by rw [HR.out]; exact ⟨rfl, hs⟩)
  | false =>
    have HR0 := Hid.mk' (Dk.gate_eq hd (·.putp p))
    have HA := Hid.mk' (show D.append p = if D.diesB = true then (({ D with arms := D.rest } : Dk).putp p |>.fail D.diesK, 10) else (if ({ D with arms := D.rest } : Dk).fits p.length then (({ D with arms := D.rest } : Dk).putp p, 0) else ({ D with arms := D.rest }, 9)) by
      unfold Dk.append
      rw [HR0.out]
      by_cases h : D.diesB = true
      · rw [if_pos h, if_pos h]; rfl
      · rw [if_neg h, if_neg h]; rfl)
    have HDI := Hid.mk' (ref12_dies hD hs hm)
    have hK := hD.diesK
    have hO := hD.rest
    have hy : D.synced ≤ D.bytes.length := hD.synced
    rw [hd] at k3
    clear hd HR0 hs
    obtain ⟨D1, hD1⟩ : ∃ D1, ({ D with arms := D.rest } : Dk) = D1 := ⟨_, rfl⟩
    have hm1 : D1.room ≤ 1073741824 := by rw [← hD1]; exact hD.room
    rw [hD1] at HA HDI hO
    clear hD1 hD hy hm
    have hy := hO.synced
    have hby := hO.bytes
    generalize D.diesK = K at *
    go_enter Tryd.func46, Tryd.ntmps46
    go_wp2_with fail
    refine HDI.out.mono ?_
    rintro e w2 ⟨v, rfl, rfl, hs2⟩
    have hrd := HP.out _ _ hs2
    obtain ⟨sv, tv, av, hs3⟩ := hs2.rk_open
    have hl1 : (D1.bytes.take D1.synced).length = D1.synced := by rw [List.length_take]; omega
    have hl2 : (D1.bytes.drop D1.synced).length = D1.bytes.length - D1.synced := List.length_drop
    obtain ⟨so, sc, rfl, _, _, _⟩ := hs3.rot4.vec_rd
    obtain ⟨to_, tc, rfl, _, _, _⟩ := hs3.rot3.vec_rd
    rw [hl1, hl2] at hs3
    have q0 := hs3.cell (i := 0) (v := .slice so D1.synced sc) rfl
    have q1 := hs3.cell (i := 1) (v := .slice to_ (D1.bytes.length - D1.synced) tc) rfl
    have q2 := hs3.cell (i := 2) (v := .int .i64 D1.room) rfl
    have f1 := hs3.free 1
    by_cases hf : D1.fits p.length
    · have hq : decide ((D1.synced : Int) + ((D1.bytes.length : Int) - (D1.synced : Int)) + (p.length : Int) ≤ (D1.room : Int)) = true := decide_eq_true (by unfold Dk.fits at hf; omega)
      have hcast : ((D1.bytes.length - D1.synced : Nat) : Int) = (D1.bytes.length : Int) - (D1.synced : Int) := by omega
      have hfl : D1.bytes.length + p.length ≤ D1.room := hf
      have HPT := Hid.mk' (show D1.putp p = { D1 with bytes := D1.bytes ++ p } from if_pos hf)
      have hpo : (D1.putp p).Ok := hO.putp p
      have HLB := Hid.mk' (bvs_length p)
      have HTK := Hid.mk' (putp_take hy p)
      have HL := Hid.mk' (And.intro hl1 hl2)
      have HRD := Hid.mk' (fun n => (hrd.drewN (k := n)))
      have hs4 := hs3.drewN
      cases hdb : D.diesB with
      | true =>
        have HR := Hid.mk' (show D.append p = ((D1.putp p).fail K, 10) by rw [HA.out, if_pos hdb])
        clear HA hdb hf hl1 hl2 hrd
        go_wp2_with fail
        go_quiet (fail)
        go_wp2_with (first | (at_builtin; go_loud (refine sl_append_any rfl _ _ 22 rfl 5 (.int .u8 0) 1 1 Tryd.underlying22 info_u8 rfl (by decide) _ (D1.bytes.length - D1.synced) _ rfl (by exact (hs4 _).rot3) _ p.length c (bvs p) rfl hno (by rw [HLB.out, Nat.mul_one]) (by exact HRD.out _) (bvs_one _) (by simp only [maxLen]; omega) (by omega) ?_); intro v' w' hS; obtain ⟨to2, tc2, rfl, _, _, _⟩ := hS.vec_rd; have g1 := hS.swap.free 1; have e1 := hS.swap.cell (i := 1) (v := .slice to_ (D1.bytes.length - D1.synced) tc) rfl))
        have hfin : Sat w0 (w'.setCell ⟨b, 1, none⟩ (.slice to2 (D1.bytes.length - D1.synced + p.length) tc2)) (F * rk b (D1.putp p)) := by
          rw [HPT.out]
          refine Sat.rk_shut (D := { D1 with bytes := D1.bytes ++ p }) _ _ HTK.out.1 HTK.out.2 (sv := .slice so D1.synced sc) (tv := .slice to2 (D1.bytes.length - D1.synced + p.length) tc2) (av := av) ?_
          rw [List.length_append, HL.out.1, HL.out.2, bvs_append]
          exact (hS.swap.store 1 (.slice to2 (D1.bytes.length - D1.synced + p.length) tc2)).perm (by simp only [List.set_cons_succ, List.set_cons_zero]; ac_rfl)
        refine (ref12_fail hpo hfin K hK.2).mono ?_
        rintro e w5 ⟨v, rfl, rfl, hs5⟩
        go_wp2_with fail
        go_ret
        exact Ret.mk (by rw [HR.out]; exact ⟨rfl, hs5⟩)
      | false =>
        have HR := Hid.mk' (show D.append p = (D1.putp p, 0) by rw [HA.out, if_neg (by rw [hdb]; simp), if_pos hf])
        clear HA hdb hf hl1 hl2 hrd
        go_wp2_with fail
        go_quiet (fail)
        go_wp2_with (first | (at_builtin; go_loud (refine sl_append_any rfl _ _ 22 rfl 5 (.int .u8 0) 1 1 Tryd.underlying22 info_u8 rfl (by decide) _ (D1.bytes.length - D1.synced) _ rfl (by exact (hs4 _).rot3) _ p.length c (bvs p) rfl hno (by rw [HLB.out, Nat.mul_one]) (by exact HRD.out _) (bvs_one _) (by simp only [maxLen]; omega) (by omega) ?_); intro v' w' hS; obtain ⟨to2, tc2, rfl, _, _, _⟩ := hS.vec_rd; have g1 := hS.swap.free 1; have e1 := hS.swap.cell (i := 1) (v := .slice to_ (D1.bytes.length - D1.synced) tc) rfl))
        have hfin : Sat w0 (w'.setCell ⟨b, 1, none⟩ (.slice to2 (D1.bytes.length - D1.synced + p.length) tc2)) (F * rk b (D1.putp p)) := by
          rw [HPT.out]
          refine Sat.rk_shut (D := { D1 with bytes := D1.bytes ++ p }) _ _ HTK.out.1 HTK.out.2 (sv := .slice so D1.synced sc) (tv := .slice to2 (D1.bytes.length - D1.synced + p.length) tc2) (av := av) ?_
          rw [List.length_append, HL.out.1, HL.out.2, bvs_append]
          exact (hS.swap.store 1 (.slice to2 (D1.bytes.length - D1.synced + p.length) tc2)).perm (by simp only [List.set_cons_succ, List.set_cons_zero]; ac_rfl)
        go_ret
        exact Ret.mk (by rw [HR.out]; exact ⟨rfl, hfin⟩)
    · have hq : decide ((D1.synced : Int) + ((D1.bytes.length : Int) - (D1.synced : Int)) + (p.length : Int) ≤ (D1.room : Int)) = false := decide_eq_false (by unfold Dk.fits at hf; omega)
      have hcast : ((D1.bytes.length - D1.synced : Nat) : Int) = (D1.bytes.length : Int) - (D1.synced : Int) := by omega
      have hs4 := Hid.mk' (fun n => hs2.drewN n)
      have HPT := Hid.mk' (show D1.putp p = D1 from if_neg hf)
      cases hdb : D.diesB with
      | true =>
        have HR := Hid.mk' (show D.append p = (D1.fail K, 10) by rw [HA.out, if_pos hdb, HPT.out])
        clear HA hdb hf hl1 hl2 hrd hs3 hs2
        go_wp2_with fail
        go_quiet (fail)
        go_wp2_with (go_at_call 106; refine (ref12_fail hO (hs4.out _) K hK.2).mono ?_; rintro e w5 ⟨v, rfl, rfl, hs5⟩)
        go_ret
        exact Ret.mk (by rw [HR.out]; exact ⟨rfl, hs5⟩)
      | false =>
        have HR := Hid.mk' (show D.append p = (D1, 9) by rw [HA.out, if_neg (by rw [hdb]; simp), if_neg hf])
        clear HA hdb hf hl1 hl2 hrd hs3 hs2
        go_wp2_with fail
        go_quiet (fail)
        go_wp2_with fail
        go_ret
        exact Ret.mk (by rw [HR.out]; exact ⟨rfl, hs4.out _⟩)
end Go.Proofs.YtjhlelcopofkkaaDoor

/-! Ref12e -/
namespace Go.Proofs.YtjhlelcopofkkaaDoor
open Go.RowKit

theorem rk_len {D : Dk} (h : D.Ok) : (D.bytes.take D.synced).length = D.synced ∧ (D.bytes.drop D.synced).length = D.bytes.length - D.synced := by
  have := h.synced
  exact ⟨by rw [List.length_take]; omega, List.length_drop⟩

theorem gate_live {D : Dk} (hd : D.dead = false) (hb : D.diesB = false) (L : Dk → Dk) : D.gate L = ({ D with arms := D.rest }, 0) := by
  rw [Dk.gate_eq hd, if_neg (by rw [hb]; simp)]
theorem gate_dies {D : Dk} (hd : D.dead = false) (hb : D.diesB = true) (L : Dk → Dk) : D.gate L = ((L { D with arms := D.rest }).fail D.diesK, 10) := by
  rw [Dk.gate_eq hd, if_pos hb]

set_option maxRecDepth 20000 in
set_option maxHeartbeats 6400000 in
theorem ref12_sync {w0 w : World} {F : HP} {b : Nat} {D : Dk} (hD : D.Ok) (hs : Sat w0 w (F * rk b D)) (hm : D.arms.length < 8796093022207) :
    Calls Tryd.prog 110 #[.pointer (some ⟨b, 0, none⟩)] w (Ret fun v w' => v = .int .i64 D.sync.2 ∧ Sat w0 w' (F * rk b D.sync.1)) := by
  obtain ⟨sv, tv, av, hs1⟩ := hs.rk_open
  have k3 := hs1.cell (i := 3) (v := .bool D.dead) rfl
  clear hs1
  cases hd : D.dead with
  | true =>
    have HR := Hid.mk' (show D.sync = (D, 10) by unfold Dk.sync; rw [Dk.gate_dead hd]; rfl)
    rw [hd] at k3
    clear hd
    go_enter Tryd.func110, Tryd.ntmps110
    go_wp2_with fail
    go_ret
    exact Ret.mk (by rw [HR.out]; exact ⟨rfl, hs⟩)
  | false =>
    have HDI := Hid.mk' (ref12_dies hD hs hm)
    have hK := hD.diesK
    have hO := hD.rest
    have hm1 : ({ D with arms := D.rest } : Dk).room ≤ 1073741824 := hD.room
    rw [hd] at k3
    cases hdb : D.diesB with
    | true =>
      have HR := Hid.mk' (show D.sync = (({ D with arms := D.rest } : Dk).fail D.diesK, 10) by unfold Dk.sync; rw [gate_dies hd hdb]; rfl)
      rw [hdb] at HDI
      clear hd hdb
      generalize ({ D with arms := D.rest } : Dk) = D1 at *
      generalize D.diesK = K at *
      go_enter Tryd.func110, Tryd.ntmps110
      go_wp2_with (first | (go_at_call 105; refine HDI.out.mono ?_; rintro e w2 ⟨v, rfl, rfl, hs2⟩) | (go_at_call 106; refine (ref12_fail hO hs2 K hK.2).mono ?_; rintro e w5 ⟨v, rfl, rfl, hs5⟩))
      go_ret
      exact Ret.mk (by rw [HR.out]; exact ⟨rfl, hs5⟩)
    | false =>
      have HR := Hid.mk' (show D.sync = ({ ({ D with arms := D.rest } : Dk) with synced := ({ D with arms := D.rest } : Dk).bytes.length }, 0) by unfold Dk.sync; rw [gate_live hd hdb]; rfl)
      rw [hdb] at HDI
      clear hd hdb
      generalize ({ D with arms := D.rest } : Dk) = D1 at *
      generalize D.diesK = K at *
      have hl := rk_len hO
      have hb1 := hO.bytes
      have hy1 := hO.synced
      go_enter Tryd.func110, Tryd.ntmps110
      go_wp2_with (first | (go_at_call 105; refine HDI.out.mono ?_; rintro e w2 ⟨v, rfl, rfl, hs2⟩))
      obtain ⟨sv2, tv2, av2, hs3⟩ := hs2.rk_open
      obtain ⟨so, sc, rfl, _, _, _⟩ := hs3.rot4.vec_rd
      obtain ⟨to_, tc, rfl, _, _, htn⟩ := hs3.rot3.vec_rd
      rw [hl.1, hl.2] at hs3
      rw [hl.2] at htn
      have q0 := hs3.cell (i := 0) (v := .slice so D1.synced sc) rfl
      have q1 := hs3.cell (i := 1) (v := .slice to_ (D1.bytes.length - D1.synced) tc) rfl
      have HS := Hid.mk' hs3
      have HLB := Hid.mk' (show (bvs (D1.bytes.drop D1.synced)).length = (D1.bytes.length - D1.synced) * 1 by rw [bvs_length, hl.2, Nat.mul_one])
      have HRD := Hid.mk' (fun n => (hs3.drewN n).rot3.rd)
      have HTN := Hid.mk' htn
      have HBB := Hid.mk' (show bvs (D1.bytes.take D1.synced) ++ bvs (D1.bytes.drop D1.synced) = bvs D1.bytes by rw [← bvs_append, List.take_append_drop])
      have HLL := Hid.mk' (show D1.synced + (D1.bytes.length - D1.synced) = D1.bytes.length by omega)
      clear hs3 htn hl
      go_region_law ((refine step_append_any rfl _ _ 22 rfl 5 (.int .u8 0) 1 1 Tryd.underlying22 info_u8 rfl (by decide) _ D1.synced _ rfl (by exact (HS.out.drewN _).rot4) _ (D1.bytes.length - D1.synced) tc (bvs (D1.bytes.drop D1.synced)) rfl HTN.out HLB.out (by exact HRD.out _) (bvs_one _) (by simp only [maxLen]; omega) (by omega) ?_; intro v' w' hS'; obtain ⟨so2, sc2, rfl, _, _, _⟩ := hS'.vec_rd; have d0 := hS'.swap.cell (i := 0) (v := .slice so D1.synced sc) rfl; have d1 := hS'.swap.cell (i := 1) (v := .slice to_ (D1.bytes.length - D1.synced) tc) rfl; have e0 := hS'.swap.free 0; have e1 := hS'.swap.free 1))
      all_goals
        have hfin : Sat w0 ((w'.setCell ⟨b, 0, none⟩ (.slice so2 (D1.synced + (D1.bytes.length - D1.synced)) sc2)).setCell ⟨b, 1, none⟩ (.slice none 0 0)) (F * rk b { D1 with synced := D1.bytes.length }) := by
          refine Sat.rk_shut (D := { D1 with synced := D1.bytes.length }) D1.bytes [] (List.take_length ..) (List.drop_length ..) (sv := .slice so2 (D1.synced + (D1.bytes.length - D1.synced)) sc2) (tv := .slice none 0 0) (av := av2) ?_
          have h := (((hS'.swap.store 0 (.slice so2 (D1.synced + (D1.bytes.length - D1.synced)) sc2)).store 1 (.slice none 0 0)).rot4.drop).vec_nil 5 1
          rw [HBB.out] at h
          rw [HLL.out] at h ⊢
          exact h.perm (by simp only [List.set_cons_succ, List.set_cons_zero]; ac_rfl)
        rw [HLL.out] at hfin
        go_wp2_with fail
        go_ret
        exact Ret.mk (by rw [HR.out]; exact ⟨rfl, hfin⟩)

set_option maxHeartbeats 3200000 in
theorem ref12_readAll {w0 w : World} {F : HP} {b : Nat} {D : Dk} (hD : D.Ok) (hs : Sat w0 w (F * rk b D)) (hm : D.arms.length < 8796093022207) :
    Calls Tryd.prog 111 #[.pointer (some ⟨b, 0, none⟩)] w (Ret fun v w' => ∃ u, v = .tuple #[u, .int .i64 (D.gate id).2] ∧
      Sat w0 w' (F * rk b (D.gate id).1 * vec 5 1 u (if (D.gate id).2 = 0 then (D.gate id).1.bytes else []).length (bvs (if (D.gate id).2 = 0 then (D.gate id).1.bytes else [])))) := by
  obtain ⟨sv, tv, av, hs1⟩ := hs.rk_open
  have k3 := hs1.cell (i := 3) (v := .bool D.dead) rfl
  clear hs1
  cases hd : D.dead with
  | true =>
    rw [Dk.gate_dead hd]
    rw [hd] at k3
    clear hd
    go_enter Tryd.func111, Tryd.ntmps111
    go_wp2_with fail
    go_ret2
    exact Ret.mk ⟨_, rfl, hs.vec_nil _ _⟩
  | false =>
    have HDI := Hid.mk' (ref12_dies hD hs hm)
    have hK := hD.diesK
    have hO := hD.rest
    rw [hd] at k3
    cases hdb : D.diesB with
    | true =>
      rw [gate_dies hd hdb]
      rw [hdb] at HDI
      show Calls _ _ _ _ (Ret fun v w' => ∃ u, v = .tuple #[u, .int .i64 (10 : Nat)] ∧ Sat w0 w' (F * rk b (({ D with arms := D.rest } : Dk).fail D.diesK) * vec 5 1 u 0 []))
      clear hd hdb
      generalize ({ D with arms := D.rest } : Dk) = D1 at *
      generalize D.diesK = K at *
      go_enter Tryd.func111, Tryd.ntmps111
      go_wp2_with (first | (go_at_call 105; refine HDI.out.mono ?_; rintro e w2 ⟨v, rfl, rfl, hs2⟩) | (go_at_call 106; refine (ref12_fail hO hs2 K hK.2).mono ?_; rintro e w5 ⟨v, rfl, rfl, hs5⟩))
      go_ret2
      exact Ret.mk ⟨_, rfl, hs5.vec_nil _ _⟩
    | false =>
      rw [gate_live hd hdb]
      rw [hdb] at HDI
      show Calls _ _ _ _ (Ret fun v w' => ∃ u, v = .tuple #[u, .int .i64 (0 : Nat)] ∧ Sat w0 w' (F * rk b ({ D with arms := D.rest } : Dk) * vec 5 1 u ({ D with arms := D.rest } : Dk).bytes.length (bvs ({ D with arms := D.rest } : Dk).bytes)))
      clear hd hdb
      generalize ({ D with arms := D.rest } : Dk) = D1 at *
      generalize D.diesK = K at *
      go_enter Tryd.func111, Tryd.ntmps111
      go_wp2_with (first | (go_at_call 105; refine HDI.out.mono ?_; rintro e w2 ⟨v, rfl, rfl, hs2⟩) | (go_at_call 140; refine (ref12_all hO hs2).mono ?_; rintro e w5 ⟨v, rfl, hs5⟩))
      go_ret2
      exact Ret.mk ⟨_, rfl, hs5⟩
end Go.Proofs.YtjhlelcopofkkaaDoor

/-! Ref12f -/
namespace Go.Proofs.YtjhlelcopofkkaaDoor
open Go.RowKit

theorem trunc_low {D : Dk} (m : Nat) (h : m < D.synced) : ({ D with bytes := D.bytes.take m, synced := min D.synced m } : Dk).bytes.take (min D.synced m) = (D.bytes.take D.synced).take m ∧ ({ D with bytes := D.bytes.take m, synced := min D.synced m } : Dk).bytes.drop (min D.synced m) = [] := by
  have e : min D.synced m = m := by omega
  show (D.bytes.take m).take (min D.synced m) = _ ∧ (D.bytes.take m).drop (min D.synced m) = []
  rw [e, List.take_take, List.take_take, Nat.min_self, Nat.min_eq_left (by omega)]
  exact ⟨rfl, List.drop_eq_nil_of_le (by rw [List.length_take]; omega)⟩
theorem trunc_high {D : Dk} (m : Nat) (h : D.synced ≤ m) : ({ D with bytes := D.bytes.take m, synced := min D.synced m } : Dk).bytes.take (min D.synced m) = D.bytes.take D.synced ∧ ({ D with bytes := D.bytes.take m, synced := min D.synced m } : Dk).bytes.drop (min D.synced m) = (D.bytes.drop D.synced).take (m - D.synced) := by
  have e : min D.synced m = D.synced := by omega
  show (D.bytes.take m).take (min D.synced m) = _ ∧ (D.bytes.take m).drop (min D.synced m) = _
  rw [e, List.take_take, Nat.min_eq_left h, List.drop_take]
  exact ⟨rfl, rfl⟩

set_option maxRecDepth 20000 in
set_option maxHeartbeats 6400000 in
/-- Behind the arms. -/
theorem ref12_truncate_bad {w0 w : World} {F : HP} {b : Nat} {D : Dk} (hD : D.Ok) (hs : Sat w0 w (F * rk b D)) (n : Int) (hbad : D.dead = true ∨ n < 0 ∨ (D.bytes.length : Int) < n) :
    Calls Tryd.prog 112 #[.pointer (some ⟨b, 0, none⟩), .int .i64 n] w (Ret fun v w' => v = .int .i64 (D.trunc n).2 ∧ Sat w0 w' (F * rk b (D.trunc n).1)) := by
  obtain ⟨sv, tv, av, hs1⟩ := hs.rk_open
  have k3 := hs1.cell (i := 3) (v := .bool D.dead) rfl
  cases hd : D.dead with
  | true =>
    have HR := Hid.mk' (show D.trunc n = (D, 10) by unfold Dk.trunc; rw [if_neg (by rw [hd]; simp), Dk.gate_dead hd]; rfl)
    rw [hd] at k3
    clear hd hbad hs1
    go_enter Tryd.func112, Tryd.ntmps112
    go_wp2_with fail
    go_ret
    exact Ret.mk (by rw [HR.out]; exact ⟨rfl, hs⟩)
  | false =>
    have hbad' : n < 0 ∨ (D.bytes.length : Int) < n := by
      rcases hbad with h | h
      · rw [hd] at h; cases h
      · exact h
    have HR := Hid.mk' (show D.trunc n = (D, 1) from if_pos ⟨hd, hbad'⟩)
    rw [hd] at k3
    obtain ⟨so, sc, rfl, _, _, _⟩ := hs1.rot4.vec_rd
    obtain ⟨to_, tc, rfl, _, _, _⟩ := hs1.rot3.vec_rd
    have hl := rk_len hD
    have hy := hD.synced
    have hby := hD.bytes
    rw [hl.1, hl.2] at hs1
    have q0 := hs1.cell (i := 0) (v := .slice so D.synced sc) rfl
    have q1 := hs1.cell (i := 1) (v := .slice to_ (D.bytes.length - D.synced) tc) rfl
    have hcast : ((D.bytes.length - D.synced : Nat) : Int) = (D.bytes.length : Int) - (D.synced : Int) := by omega
    clear hbad hd hl hs1
    by_cases hn : n < 0
    · clear hbad'
      go_enter Tryd.func112, Tryd.ntmps112
      go_wp2_with fail
      go_quiet (fail)
      go_wp2_with fail
      go_ret
      exact Ret.mk (by rw [HR.out]; exact ⟨rfl, hs.drewN _⟩)
    · have hn1 : (D.bytes.length : Int) < n := by omega
      have hn0 : decide (n < 0) = false := decide_eq_false hn
      have hn2 : decide ((D.synced : Int) + ((D.bytes.length : Int) - (D.synced : Int)) < n) = true := decide_eq_true (by omega)
      clear hbad' hn
      go_enter Tryd.func112, Tryd.ntmps112
      go_wp2_with fail
      go_quiet (fail)
      go_wp2_with fail
      go_ret
      exact Ret.mk (by rw [HR.out]; exact ⟨rfl, hs.drewN _⟩)

set_option maxRecDepth 20000 in
set_option maxHeartbeats 6400000 in
theorem ref12_truncate_ok {w0 w : World} {F : HP} {b : Nat} {D : Dk} (hD : D.Ok) (hs : Sat w0 w (F * rk b D)) (hm : D.arms.length < 8796093022207) (n : Nat) (hd : D.dead = false) (hn : n ≤ D.bytes.length) :
    Calls Tryd.prog 112 #[.pointer (some ⟨b, 0, none⟩), .int .i64 n] w (Ret fun v w' => v = .int .i64 (D.trunc n).2 ∧ Sat w0 w' (F * rk b (D.trunc n).1)) := by
  obtain ⟨sv, tv, av, hs1⟩ := hs.rk_open
  have k3 := hs1.cell (i := 3) (v := .bool D.dead) rfl
  obtain ⟨so, sc, rfl, _, _, _⟩ := hs1.rot4.vec_rd
  obtain ⟨to_, tc, rfl, _, _, _⟩ := hs1.rot3.vec_rd
  have hl := rk_len hD
  have hy := hD.synced
  have hby := hD.bytes
  rw [hl.1, hl.2] at hs1
  have q0 := hs1.cell (i := 0) (v := .slice so D.synced sc) rfl
  have q1 := hs1.cell (i := 1) (v := .slice to_ (D.bytes.length - D.synced) tc) rfl
  have hcast : ((D.bytes.length - D.synced : Nat) : Int) = (D.bytes.length : Int) - (D.synced : Int) := by omega
  have hn0 : decide ((n : Int) < 0) = false := decide_eq_false (by omega)
  have hn2 : decide ((D.synced : Int) + ((D.bytes.length : Int) - (D.synced : Int)) < (n : Int)) = false := decide_eq_false (by omega)
  have HDI := Hid.mk' (fun k => ref12_dies (w := w.drewN k) hD (hs.drewN k) hm)
  have hK := hD.diesK
  have hO := hD.rest
  have HT := Hid.mk' (show D.trunc (n : Int) = if (D.gate id).2 = 0 then ({ (D.gate id).1 with bytes := (D.gate id).1.bytes.take n, synced := min (D.gate id).1.synced n }, 0) else D.gate id from if_neg (by omega))
  have hnb : n ≤ ({ D with arms := D.rest } : Dk).bytes.length := hn
  rw [hd] at k3
  clear hl hs1 hs
  cases hdb : D.diesB with
  | true =>
    have HR := Hid.mk' (show D.trunc n = (({ D with arms := D.rest } : Dk).fail D.diesK, 10) by rw [HT.out, gate_dies hd hdb]; rfl)
    rw [hdb] at HDI
    clear hd hdb HT
    generalize ({ D with arms := D.rest } : Dk) = D1 at *
    generalize D.diesK = K at *
    go_enter Tryd.func112, Tryd.ntmps112
    go_wp2_with fail
    go_quiet (fail)
    go_wp2_with (first | (go_at_call 105; refine (HDI.out _).mono ?_; rintro e w2 ⟨v, rfl, rfl, hs2⟩) | (go_at_call 106; refine (ref12_fail hO hs2 K hK.2).mono ?_; rintro e w5 ⟨v, rfl, rfl, hs5⟩))
    go_ret
    exact Ret.mk (by rw [HR.out]; exact ⟨rfl, hs5⟩)
  | false =>
    have HR := Hid.mk' (show D.trunc n = ({ ({ D with arms := D.rest } : Dk) with bytes := ({ D with arms := D.rest } : Dk).bytes.take n, synced := min ({ D with arms := D.rest } : Dk).synced n }, 0) by rw [HT.out, gate_live hd hdb]; rfl)
    rw [hdb] at HDI
    clear hd hdb HT
    have hy1 : ({ D with arms := D.rest } : Dk).synced ≤ ({ D with arms := D.rest } : Dk).bytes.length := hy
    have hby1 : ({ D with arms := D.rest } : Dk).bytes.length ≤ 140737488351232 := hby
    generalize ({ D with arms := D.rest } : Dk) = D1 at *
    generalize D.diesK = K at *
    have hl := rk_len hO
    go_enter Tryd.func112, Tryd.ntmps112
    go_wp2_with fail
    go_quiet (fail)
    go_wp2_with fail
    refine (HDI.out _).mono ?_
    rintro e w2 ⟨v, rfl, rfl, hs2⟩
    obtain ⟨sv2, tv2, av2, hs3⟩ := hs2.rk_open
    obtain ⟨so2, sc2, rfl, hsc2, hrs2, _⟩ := hs3.rot4.vec_rd
    obtain ⟨to2, tc2, rfl, htc2, hrt2, _⟩ := hs3.rot3.vec_rd
    rw [hl.1] at hsc2
    rw [hl.2] at htc2
    rw [hl.1, hl.2] at hs3
    have p0 := hs3.cell (i := 0) (v := .slice so2 D1.synced sc2) rfl
    have p1 := hs3.cell (i := 1) (v := .slice to2 (D1.bytes.length - D1.synced) tc2) rfl
    by_cases hlow : n < D1.synced
    · have HTL := Hid.mk' (trunc_low n hlow)
      have htl : ((D1.bytes.take D1.synced).take n).length = n := by rw [List.length_take, hl.1]; omega
      have HF := Hid.mk' (show Calls Tryd.prog 100 #[.slice so2 n sc2] w2 (Ret fun v w' => Sat w2 w' (vec 5 1 v n (bvs ((D1.bytes.take D1.synced).take n)))) from by
        have h := ref12_fresh (w := w2) ((D1.bytes.take D1.synced).take n) so2 sc2 (by rw [← bvs_take]; exact hrs2.take n) (by omega)
        rw [htl] at h
        exact h)
      have HTE := Hid.mk' htl
      have HS := Hid.mk' hs3
      clear hs3 hrs2 hrt2 htl
      go_wp2_with (first | (go_at_call 100; refine HF.out.mono ?_; rintro e w5 ⟨v, rfl, hx⟩; have hs6 := HS.out.glue hx; obtain ⟨xo, xc, rfl, _, _, _⟩ := hs6.vec_rd; have g0 := hs6.swap.free 0; have g1 := hs6.swap.free 1; have e0 := hs6.swap.cell (i := 0) (v := .slice so2 D1.synced sc2) rfl; have e1 := hs6.swap.cell (i := 1) (v := .slice to2 (D1.bytes.length - D1.synced) tc2) rfl))
      go_ret
      refine Ret.mk ?_
      rw [HR.out]
      refine ⟨rfl, Sat.rk_shut (D := { D1 with bytes := D1.bytes.take n, synced := min D1.synced n }) _ _ HTL.out.1 HTL.out.2 (sv := .slice xo n xc) (tv := .slice none 0 0) (av := av2) ?_⟩
      rw [HTE.out]
      have h := ((hs6.swap.store 0 (.slice xo n xc)).store 1 (.slice none 0 0)).vec_nil 5 1
      exact (h.perm (B := F * vec 5 1 (.slice xo n xc) n (bvs ((D1.bytes.take D1.synced).take n)) * vec 5 1 (.slice none 0 0) 0 [] * vec 198 2 av2 D1.arms.length (aks D1.arms) * blk b [.slice xo n xc, .slice none 0 0, .int .i64 D1.room, .bool D1.dead, av2] 167 * (vec 5 1 (.slice so2 D1.synced sc2) D1.synced (bvs (D1.bytes.take D1.synced)) * vec 5 1 (.slice to2 (D1.bytes.length - D1.synced) tc2) (D1.bytes.length - D1.synced) (bvs (D1.bytes.drop D1.synced)))) (by simp only [List.set_cons_succ, List.set_cons_zero]; ac_rfl)).drop
    · obtain ⟨k, rfl⟩ : ∃ k, n = D1.synced + k := ⟨n - D1.synced, by omega⟩
      have HTL := Hid.mk' (trunc_high (D := D1) (D1.synced + k) (by omega))
      rw [Nat.add_sub_cancel_left] at HTL
      have htl : ((D1.bytes.drop D1.synced).take k).length = k := by rw [List.length_take, hl.2]; omega
      have HF := Hid.mk' (show ∀ j, Calls Tryd.prog 100 #[.slice to2 k tc2] (w2.drewN j) (Ret fun v w' => Sat (w2.drewN j) w' (vec 5 1 v k (bvs ((D1.bytes.drop D1.synced).take k)))) from fun j => by
        have h := ref12_fresh (w := w2.drewN j) ((D1.bytes.drop D1.synced).take k) to2 tc2 (by rw [← bvs_take]; exact hrt2.drewN.take k) (by omega)
        rw [htl] at h
        exact h)
      have HTE := Hid.mk' htl
      have HS := Hid.mk' hs3
      have hk1 : ((D1.synced + k : Nat) : Int) - (D1.synced : Int) = (k : Int) := by omega
      have hk2 : k ≤ tc2 := by omega
      clear hs3 hrs2 hrt2 htl
      go_wp2_with fail
      have hf0 := HS.out.free 1
      have hkw : IntKind.i64.wrap ((D1.synced : Int) + (k : Int) - (D1.synced : Int)) = (k : Int) := by rw [show (D1.synced : Int) + (k : Int) - (D1.synced : Int) = (k : Int) by omega, IntKind.wrap_i64]; omega
      have hkw2 : IntKind.i64.wrap (k : Int) = (k : Int) := by rw [IntKind.wrap_i64]; omega
      have hk3 : 0 ≤ (k : Int) := by omega
      have hk4 : (k : Int) ≤ (tc2 : Int) := by omega
      go_region_with ((go_at_call 100; refine (HF.out _).mono ?_; rintro e w5 ⟨v, rfl, hx⟩; have hs6 := (HS.out.drewN _).glue hx; obtain ⟨xo, xc, rfl, _, _, _⟩ := hs6.vec_rd; have g1 := hs6.swap.free 1; have e1 := hs6.swap.cell (i := 1) (v := .slice to2 (D1.bytes.length - D1.synced) tc2) rfl))
      all_goals
        go_wp2_with fail
        go_ret
        refine Ret.mk ?_
        rw [HR.out]
        refine ⟨rfl, Sat.rk_shut (D := { D1 with bytes := D1.bytes.take (D1.synced + k), synced := min D1.synced (D1.synced + k) }) _ _ HTL.out.1 HTL.out.2 (sv := .slice so2 D1.synced sc2) (tv := .slice xo k xc) (av := av2) ?_⟩
        rw [HTE.out, (rk_len hO).1]
        have h := hs6.swap.store 1 (.slice xo k xc)
        exact (h.perm (B := F * vec 5 1 (.slice so2 D1.synced sc2) D1.synced (bvs (D1.bytes.take D1.synced)) * vec 5 1 (.slice xo k xc) k (bvs ((D1.bytes.drop D1.synced).take k)) * vec 198 2 av2 D1.arms.length (aks D1.arms) * blk b [.slice so2 D1.synced sc2, .slice xo k xc, .int .i64 D1.room, .bool D1.dead, av2] 167 * vec 5 1 (.slice to2 (D1.bytes.length - D1.synced) tc2) (D1.bytes.length - D1.synced) (bvs (D1.bytes.drop D1.synced))) (by simp only [List.set_cons_succ, List.set_cons_zero]; ac_rfl)).drop
theorem ref12_truncate {w0 w : World} {F : HP} {b : Nat} {D : Dk} (hD : D.Ok) (hs : Sat w0 w (F * rk b D)) (hm : D.arms.length < 8796093022207) (n : Int) :
    Calls Tryd.prog 112 #[.pointer (some ⟨b, 0, none⟩), .int .i64 n] w (Ret fun v w' => v = .int .i64 (D.trunc n).2 ∧ Sat w0 w' (F * rk b (D.trunc n).1)) := by
  by_cases h : D.dead = true ∨ n < 0 ∨ (D.bytes.length : Int) < n
  · exact ref12_truncate_bad hD hs n h
  · obtain ⟨m, rfl⟩ : ∃ m : Nat, n = (m : Int) := ⟨n.toNat, by have : ¬ n < 0 := fun e => h (Or.inr (Or.inl e)); omega⟩
    exact ref12_truncate_ok hD hs hm m (by cases hd : D.dead with
      | true => exact absurd (Or.inl hd) h
      | false => rfl) (by have : ¬ (D.bytes.length : Int) < (m : Int) := fun e => h (Or.inr (Or.inr e)); omega)
end Go.Proofs.YtjhlelcopofkkaaDoor

/-! Ref12g -/
namespace Go.Proofs.YtjhlelcopofkkaaDoor
open Go.RowKit

set_option maxHeartbeats 3200000 in
theorem ref12_arm {w0 w : World} {F : HP} {b : Nat} {D : Dk} (hs : Sat w0 w (F * rk b D)) (after keep : Int) (hn : D.arms.length < 8796093022207) :
    Calls Tryd.prog 113 #[.pointer (some ⟨b, 0, none⟩), .int .i64 after, .int .i64 keep] w (Ret fun v w' => v = .tuple #[] ∧ Sat w0 w' (F * rk b (D.arm after keep))) := by
  obtain ⟨sv, tv, av, hs1⟩ := hs.rk_open
  obtain ⟨ao, cap, rfl, _, _, _⟩ := hs1.swap.vec_rd
  have k4 := hs1.cell (i := 4) (v := .slice ao D.arms.length cap) rfl
  have hA := Hid.mk' (show aks (D.arm after keep).arms = aks D.arms ++ [.int .i64 (after.toNat : Int), .int .i64 keep] by unfold Dk.arm; rw [aks_append]; rfl)
  have hL := Hid.mk' (show (D.arm after keep).arms.length = D.arms.length + 1 by unfold Dk.arm; rw [List.length_append]; rfl)
  clear hs
  by_cases ha : after < 0
  · have HM := Hid.mk' (show (after.toNat : Int) = 0 by omega)
    go_enter Tryd.func113, Tryd.ntmps113
    go_wp2_with (at_builtin; go_loud (refine sl_append rfl _ _ 165 rfl 198 (.agg #[.int .i64 0, .int .i64 0]) 2 16 Tryd.underlying165 info_Arm rfl (by decide) _ D.arms.length _ rfl (by exact hs1.swap.skip) _ 1 _ [.int .i64 0, .int .i64 keep] rfl rfl (by exact Rd.made _ _ _ _) (by intro u hu; simp at hu; rcases hu with rfl | rfl <;> rfl) (by simp only [maxLen]; omega) (by omega) ?_); intro v' w' hS; obtain ⟨so, cap', rfl, _, _, _⟩ := hS.vec_rd; have q4 := hS.swap.cell (i := 4) (v := .slice ao D.arms.length cap) rfl; have p4 := hS.swap.free 4)
    go_end0
    refine Ret.mk ⟨rfl, ?_⟩
    refine Sat.rk_shut (D := D.arm after keep) _ _ rfl rfl (sv := sv) (tv := tv) (av := .slice so (D.arms.length + 1) cap') ?_
    rw [hA.out, hL.out, HM.out]
    exact hS.swap.store 4 (.slice so (D.arms.length + 1) cap')
  · have HM := Hid.mk' (show (after.toNat : Int) = after by omega)
    have ha' : 0 ≤ after := by omega
    clear ha
    go_enter Tryd.func113, Tryd.ntmps113
    go_wp2_with (at_builtin; go_loud (refine sl_append rfl _ _ 165 rfl 198 (.agg #[.int .i64 0, .int .i64 0]) 2 16 Tryd.underlying165 info_Arm rfl (by decide) _ D.arms.length _ rfl (by exact hs1.swap.skip) _ 1 _ [.int .i64 after, .int .i64 keep] rfl rfl (by exact Rd.made _ _ _ _) (by intro u hu; simp at hu; rcases hu with rfl | rfl <;> rfl) (by simp only [maxLen]; omega) (by omega) ?_); intro v' w' hS; obtain ⟨so, cap', rfl, _, _, _⟩ := hS.vec_rd; have q4 := hS.swap.cell (i := 4) (v := .slice ao D.arms.length cap) rfl; have p4 := hS.swap.free 4)
    go_end0
    refine Ret.mk ⟨rfl, ?_⟩
    refine Sat.rk_shut (D := D.arm after keep) _ _ rfl rfl (sv := sv) (tv := tv) (av := .slice so (D.arms.length + 1) cap') ?_
    rw [hA.out, hL.out, HM.out]
    exact hS.swap.store 4 (.slice so (D.arms.length + 1) cap')

set_option maxHeartbeats 1600000 in
theorem ref12_crash {w0 w : World} {F : HP} {b : Nat} {D : Dk} (hs : Sat w0 w (F * rk b D)) (hD : D.Ok) (keep : Int) (h2 : keep ≤ 9223372036854775807) :
    Calls Tryd.prog 114 #[.pointer (some ⟨b, 0, none⟩), .int .i64 keep] w (Ret fun v w' => v = .tuple #[] ∧ Sat w0 w' (F * rk b (D.crash keep))) := by
  obtain ⟨sv, tv, av, hs1⟩ := hs.rk_open
  have k3 := hs1.cell (i := 3) (v := .bool D.dead) rfl
  have HF := Hid.mk' (ref12_fail hD hs keep h2)
  clear hs1
  cases hd : D.dead with
  | true =>
    have HR := Hid.mk' (show D.crash keep = D from if_pos hd)
    rw [hd] at k3
    clear hd
    go_enter Tryd.func114, Tryd.ntmps114
    go_wp2_with fail
    go_end0
    exact Ret.mk ⟨rfl, by rw [HR.out]; exact hs⟩
  | false =>
    have HR := Hid.mk' (show D.crash keep = D.fail keep from if_neg (by rw [hd]; simp))
    rw [hd] at k3
    clear hd
    go_enter Tryd.func114, Tryd.ntmps114
    go_wp2_with (go_at_call 106; refine HF.out.mono ?_; rintro e w2 ⟨v, rfl, rfl, hs2⟩)
    go_end0
    exact Ret.mk ⟨rfl, by rw [HR.out]; exact hs2⟩

theorem ref12_dead {w0 w : World} {F : HP} {b : Nat} {D : Dk} (hs : Sat w0 w (F * rk b D)) :
    Calls Tryd.prog 116 #[.pointer (some ⟨b, 0, none⟩)] w (Same (.bool D.dead) w) := by
  obtain ⟨sv, tv, av, hs1⟩ := hs.rk_open
  have k3 := hs1.cell (i := 3) (v := .bool D.dead) rfl
  clear hs1
  go_enter Tryd.func116, Tryd.ntmps116
  go_wp2_with fail
  go_ret
  exact ⟨rfl, rfl⟩

theorem ref12_revive {w0 w : World} {F : HP} {b : Nat} {D : Dk} (hs : Sat w0 w (F * rk b D)) :
    Calls Tryd.prog 115 #[.pointer (some ⟨b, 0, none⟩)] w (Ret fun v w' => v = .tuple #[] ∧ Sat w0 w' (F * rk b D.revive)) := by
  obtain ⟨sv, tv, av, hs1⟩ := hs.rk_open
  have k3 := hs1.cell (i := 3) (v := .bool D.dead) rfl
  have f3 := hs1.free 3
  go_enter Tryd.func115, Tryd.ntmps115
  go_wp2_with fail
  go_end0
  exact Ret.mk ⟨rfl, Sat.rk_shut (D := D.revive) _ _ rfl rfl (sv := sv) (tv := tv) (av := av) (hs1.store 3 (.bool false))⟩

set_option maxRecDepth 20000 in
set_option maxHeartbeats 3200000 in
theorem ref12_look {w0 w : World} {F : HP} {b : Nat} {D : Dk} (hD : D.Ok) (hs : Sat w0 w (F * rk b D)) :
    Calls Tryd.prog 117 #[.pointer (some ⟨b, 0, none⟩)] w (Ret fun v w' => ∃ u, v = .tuple #[u, .int .i64 D.synced] ∧ Sat w0 w' (F * rk b D * vec 5 1 u D.bytes.length (bvs D.bytes))) := by
  have HA := Hid.mk' (ref12_all hD hs)
  have HL := Hid.mk' (rk_len hD).1
  clear hs
  go_enter Tryd.func117, Tryd.ntmps117
  go_wp2_with (go_at_call 140; refine HA.out.mono ?_; rintro e w2 ⟨v, rfl, hs2⟩)
  obtain ⟨sv, tv, av, hs3⟩ := hs2.swap.rk_open
  obtain ⟨so, sc, rfl, _, _, _⟩ := hs3.rot4.vec_rd
  rw [HL.out] at hs3
  have q0 := hs3.cell (i := 0) (v := .slice so D.synced sc) rfl
  clear hs3
  go_quiet (fail)
  go_wp2
  go_ret2
  exact Ret.mk ⟨_, rfl, hs2.drewN _⟩

set_option maxHeartbeats 3200000 in
theorem ref12_open {w0 w : World} {F : HP} (hs : Sat w0 w F) (xs : List UInt8) (ao : Option Addr) (c : Nat) (hr : Rd w ao (bvs xs)) (hn : xs.length ≤ 140737488351232) (room : Int) :
    Calls Tryd.prog 43 #[.slice ao xs.length c, .int .i64 room] w (Ret fun v w' => ∃ b, v = .pointer (some ⟨b, 0, none⟩) ∧ Sat w0 w' (F * rk b (Dk.new xs room))) := by
  have HF := Hid.mk' (ref12_fresh xs ao c hr hn)
  have HR := Hid.mk' (show ((Dk.new xs room).room : Int) = min (max room 0) 1073741824 by show (((min (max room 0) 1073741824).toNat : Nat) : Int) = _; omega)
  clear hr
  go_enter Tryd.func43, Tryd.ntmps43
  go_wp2_with (go_at_call 100; refine HF.out.mono ?_; rintro e w3 ⟨v, rfl, hx⟩; have hs2 := hs.glue hx; clear hx; obtain ⟨uo, uc, rfl, _, _, _⟩ := hs2.vec_rd)
  all_goals
    go_ret
    refine Ret.mk ⟨_, rfl, Sat.rk_shut (D := Dk.new xs room) xs [] (List.take_length ..) (List.drop_length ..) (sv := .slice uo xs.length uc) (tv := .slice none 0 0) (av := .slice none 0 0) ?_⟩
    rw [HR.out]
    first
      | (rw [show min (max room 0) 1073741824 = 0 by omega]; exact ((hs2.vec_nil _ _).vec_nil _ _).new _ _)
      | (rw [show min (max room 0) 1073741824 = room by omega]; exact ((hs2.vec_nil _ _).vec_nil _ _).new _ _)
      | (rw [show min (max room 0) 1073741824 = 1073741824 by omega]; exact ((hs2.vec_nil _ _).vec_nil _ _).new _ _)
theorem ref12_new {w0 w : World} {F : HP} (hs : Sat w0 w F) (room : Int) :
    Calls Tryd.prog 57 #[.int .i64 room] w (Ret fun v w' => ∃ b, v = .pointer (some ⟨b, 0, none⟩) ∧ Sat w0 w' (F * rk b (Dk.new [] room))) := by
  have HO := Hid.mk' (ref12_open hs [] none 0 (Rd.nil _ _) (by simp) room)
  go_enter Tryd.func57, Tryd.ntmps57
  go_wp2_with (go_at_call 43; refine HO.out.mono ?_; rintro e w3 ⟨v, rfl, b, rfl, hx⟩)
  go_ret
  exact Ret.mk ⟨_, rfl, hx⟩
end Go.Proofs.YtjhlelcopofkkaaDoor
