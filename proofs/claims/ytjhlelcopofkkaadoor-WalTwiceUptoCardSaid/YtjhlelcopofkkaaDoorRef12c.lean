/- The document's disk: how it fails. -/
import Derived.Test.YtjhlelcopofkkaaDoorRef12b
namespace Go.Proofs.YtjhlelcopofkkaaDoor
open Go.RowKit

set_option maxRecDepth 20000 in
set_option maxHeartbeats 6400000 in
theorem ref12_fail {w0 w : World} {F : HP} {b : Nat} {D : Dk} (hD : D.Ok) (hs : Sat w0 w (F * rk b D)) (keep : Int) (hk2 : keep ≤ 9223372036854775807) :
    Calls Tryd.prog 106 #[.pointer (some ⟨b, 0, none⟩), .int .i64 keep] w (Ret fun v w' => v = .tuple #[] ∧ Sat w0 w' (F * rk b (D.fail keep))) := by
  obtain ⟨sv, tv, av, hs1⟩ := hs.rk_open
  have hsy := hD.synced
  have hby := hD.bytes
  have HL1 := Hid.mk' (show (D.bytes.take D.synced).length = D.synced by rw [List.length_take]; omega)
  have hl2 : (D.bytes.drop D.synced).length = D.bytes.length - D.synced := List.length_drop
  have HF := Hid.mk' (show ∀ k, k ≤ (D.bytes.drop D.synced).length → ¬ (k < (D.bytes.drop D.synced).length ∧ (k : Int) < keep) → k ≤ keep.toNat → (D.fail keep).bytes.take (D.fail keep).synced = D.bytes.take D.synced ++ (D.bytes.drop D.synced).take k ∧ (D.fail keep).bytes.drop (D.fail keep).synced = [] from fun k h1 h2 h3 => by
    have hkk : D.kept keep = D.synced + k := by unfold Dk.kept; omega
    show (D.bytes.take (D.kept keep)).take (D.kept keep) = _ ∧ (D.bytes.take (D.kept keep)).drop (D.kept keep) = []
    rw [hkk, List.take_take, Nat.min_self, List.take_add]
    exact ⟨rfl, List.drop_eq_nil_of_le (by rw [List.length_append, List.length_take, List.length_take]; omega)⟩)
  generalize D.bytes.take D.synced = sf at *
  generalize D.bytes.drop D.synced = tl at *
  have hsl : sf.length + tl.length ≤ 140737488351232 := by rw [HL1.out]; omega
  obtain ⟨to_, tc, rfl, htc, _, htn⟩ := hs1.rot3.vec_rd
  clear hs HL1 hl2
  go_enter Tryd.func106, Tryd.ntmps106
  go_wp2
  go_loopw [4] (fun i wr => ∃ (k : Nat) (sv' : Value), k ≤ tl.length ∧ k ≤ keep.toNat ∧ i = .int .i64 k ∧ Sat w0 wr (F * vec 5 1 (.slice to_ tl.length tc) tl.length (bvs tl) * vec 198 2 av D.arms.length (aks D.arms) * blk b [sv', .slice to_ tl.length tc, .int .i64 D.room, .bool D.dead, av] 167 * vec 5 1 sv' (sf.length + k) (bvs (sf ++ tl.take k)))) (fun i _ => tl.length + 1 - (intOf i).toNat)
  case atStart => exact ⟨0, sv, by omega, by omega, rfl, by rw [List.take_zero, List.append_nil]; exact hs1.rot4⟩
  case round =>
    clear hs1
    obtain ⟨k, sv', hk, hk3, rfl, hS⟩ := hrel
    obtain ⟨so, sc, rfl, _, _, _⟩ := hS.vec_rd
    have c0 := hS.swap.cell (i := 0) (v := .slice so (sf.length + k) sc) rfl
    have c1 := hS.swap.cell (i := 1) (v := .slice to_ tl.length tc) rfl
    have f0 := hS.swap.free 0
    by_cases hlt : k < tl.length
    · by_cases hlk : (k : Int) < keep
      · obtain ⟨bt, ot, rfl, hcl⟩ := hS.rot4.rd.addr (by intro e; have := bvs_length tl; rw [e] at this; simp at this; omega)
        have ct : wr.cell? ⟨bt, ot + k, none⟩ = some (.int .u8 (tl[k].toNat : Int)) := hcl k _ (bvs_get hlt)
        have HTK := Hid.mk' (show bvs (sf ++ tl.take k) ++ [bv tl[k]] = bvs (sf ++ tl.take (k + 1)) by rw [take_snoc tl k hlt, ← List.append_assoc, bvs_append (sf ++ tl.take k)]; rfl)
        have c0a : ∀ o, (wr.alloc o).cell? ⟨b, 0, none⟩ = some (.slice so (sf.length + k) sc) := fun o => hS.skip.swap.cell (i := 0) (v := .slice so (sf.length + k) sc) rfl
        have HS := Hid.mk' hS
        clear hcl hS
        go_wp2_with fail
        go_region_law ((refine step_append_vec rfl _ _ 22 rfl 5 (.int .u8 0) 1 1 Tryd.underlying22 info_u8 rfl (by decide) _ (sf.length + k) _ rfl (by exact HS.out.skip.drew) _ 1 _ [bv tl[k]] rfl rfl (by exact (Rd.made _ _ _ _).drew) (by intro u hu; simp at hu; subst hu; rfl) (by simp only [maxLen]; omega) (by omega) ?_; intro v' w' hS'; obtain ⟨so2, sc2, rfl, _, _, _⟩ := hS'.vec_rd; have d0 := hS'.swap.cell (i := 0) (v := .slice so (sf.length + k) sc) rfl; have e0 := hS'.swap.free 0))
        all_goals
          go_wp2
          refine ⟨⟨k + 1, .slice so2 (sf.length + k + 1) sc2, by omega, by omega, by first | rfl | go_num, ?_⟩, by simp [intOf]; omega⟩
          have h := (hS'.swap.store 0 (.slice so2 (sf.length + k + 1) sc2)).swap
          rw [HTK.out] at h
          exact h
      · have hfin := Hid.mk' (HF.out k hk (fun h => hlk h.2) hk3)
        have hd : Sat w0 ((wr.setCell ⟨b, 1, none⟩ (.slice none 0 0)).setCell ⟨b, 3, none⟩ (.bool true)) (F * rk b (D.fail keep)) := by
          refine Sat.rk_shut (D := D.fail keep) _ _ hfin.out.1 hfin.out.2 (sv := .slice so (sf.length + k) sc) (tv := .slice none 0 0) (av := av) ?_
          have h := (((hS.swap.store 1 (.slice none 0 0)).store 3 (.bool true)).rot4.drop).vec_nil 5 1
          rw [show (sf ++ tl.take k).length = sf.length + k by rw [List.length_append, List.length_take]; omega]
          exact h.perm (by simp only [List.set_cons_succ, List.set_cons_zero]; ac_rfl)
        have f1 := hS.swap.free 1
        have f3 := hS.swap.free 3
        have c3 := hS.swap.cell (i := 3) (v := .bool D.dead) rfl
        have HD := Hid.mk' hd
        clear hS hd
        go_wp2_with fail
        go_end0
        exact Ret.mk ⟨rfl, HD.out⟩
    · have hfin := Hid.mk' (HF.out k hk (fun h => hlt h.1) hk3)
      have hd : Sat w0 ((wr.setCell ⟨b, 1, none⟩ (.slice none 0 0)).setCell ⟨b, 3, none⟩ (.bool true)) (F * rk b (D.fail keep)) := by
        refine Sat.rk_shut (D := D.fail keep) _ _ hfin.out.1 hfin.out.2 (sv := .slice so (sf.length + k) sc) (tv := .slice none 0 0) (av := av) ?_
        have h := (((hS.swap.store 1 (.slice none 0 0)).store 3 (.bool true)).rot4.drop).vec_nil 5 1
        rw [show (sf ++ tl.take k).length = sf.length + k by rw [List.length_append, List.length_take]; omega]
        exact h.perm (by simp only [List.set_cons_succ, List.set_cons_zero]; ac_rfl)
      have f1 := hS.swap.free 1
      have f3 := hS.swap.free 3
      have c3 := hS.swap.cell (i := 3) (v := .bool D.dead) rfl
      have HD := Hid.mk' hd
      clear hS hd
      go_wp2_with fail
      go_end0
      exact Ret.mk ⟨rfl, HD.out⟩
end Go.Proofs.YtjhlelcopofkkaaDoor
