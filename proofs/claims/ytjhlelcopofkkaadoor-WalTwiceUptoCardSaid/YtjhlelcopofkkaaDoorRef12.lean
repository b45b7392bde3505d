/- The document's disk: its inner functions, by the same account of what a disk holds. -/
import Derived.Test.YtjhlelcopofkkaaDoorDisk4
namespace Go.Proofs.YtjhlelcopofkkaaDoor
open Go.RowKit

/-- The document's disk, at the head of a block: what is synced and what is not lie in two lists. -/
def rk (b : Nat) (D : Dk) : HP := fun h => ∃ sv tv av, (vec 5 1 sv (D.bytes.take D.synced).length (bvs (D.bytes.take D.synced)) * vec 5 1 tv (D.bytes.drop D.synced).length (bvs (D.bytes.drop D.synced)) * vec 198 2 av D.arms.length (aks D.arms) * blk b [sv, tv, .int .i64 D.room, .bool D.dead, av] 167) h
section
variable {w0 w : World} {F : HP} {b : Nat} {D : Dk}
theorem Sat.rk_open (hs : Sat w0 w (F * rk b D)) : ∃ sv tv av, Sat w0 w (F * vec 5 1 sv (D.bytes.take D.synced).length (bvs (D.bytes.take D.synced)) * vec 5 1 tv (D.bytes.drop D.synced).length (bvs (D.bytes.drop D.synced)) * vec 198 2 av D.arms.length (aks D.arms) * blk b [sv, tv, .int .i64 D.room, .bool D.dead, av] 167) := by
  obtain ⟨x, ⟨h1, h2, ha, ⟨sv, tv, av, hb⟩, hd, hu⟩, hx⟩ := hs.held
  refine ⟨sv, tv, av, ?_⟩
  rw [HP.assoc, HP.assoc, HP.assoc]
  rw [HP.assoc, HP.assoc] at hb
  exact ⟨hs.below, x, ⟨h1, h2, ha, hb, hd, hu⟩, hx⟩
theorem Sat.rk_shut (sf tl : List UInt8) (hsf : D.bytes.take D.synced = sf) (htl : D.bytes.drop D.synced = tl) {sv tv av : Value} (hs : Sat w0 w (F * vec 5 1 sv sf.length (bvs sf) * vec 5 1 tv tl.length (bvs tl) * vec 198 2 av D.arms.length (aks D.arms) * blk b [sv, tv, .int .i64 D.room, .bool D.dead, av] 167)) : Sat w0 w (F * rk b D) := by
  subst hsf; subst htl
  rw [HP.assoc, HP.assoc, HP.assoc] at hs
  exact hs.imp_last fun x hx => ⟨sv, tv, av, by rw [HP.assoc, HP.assoc]; exact hx⟩
end

set_option maxHeartbeats 1600000 in
theorem ref12_fresh {w : World} (xs : List UInt8) (ao : Option Addr) (c : Nat) (hr : Rd w ao (bvs xs)) (hn : xs.length ≤ 140737488351232) :
    Calls Tryd.prog 100 #[.slice ao xs.length c] w (Ret fun v w' => Sat w w' (vec 5 1 v xs.length (bvs xs))) := by
  go_enter Tryd.func100, Tryd.ntmps100
  go_wp2
  go_loopw [3, 4] (fun l i wr => ∃ k : Nat, k ≤ xs.length ∧ i = .int .i64 k ∧ Sat w wr (1 * vec 5 1 l k (bvs (xs.take k)))) (fun _ i _ => xs.length - (intOf i).toNat)
  case atStart => exact ⟨0, by omega, rfl, (Sat.refl w).vec_nil _ _⟩
  case round =>
    obtain ⟨k, hk, rfl, hS⟩ := hrel
    by_cases hlt : k < xs.length
    · obtain ⟨b, of, rfl, hcells⟩ := (hr.mono hS.below).addr (by intro e; have := bvs_length xs; rw [e] at this; simp at this; omega)
      have hcell : wr.cell? ⟨b, of + k, none⟩ = some (.int .u8 (xs[k].toNat : Int)) := hcells k _ (bvs_get hlt)
      go_wp2_with (at_builtin; refine sl_append rfl _ _ 22 rfl 5 (.int .u8 0) 1 1 Tryd.underlying22 info_u8 rfl (by decide) _ k _ rfl (by exact hS.skip) _ 1 _ [bv xs[k]] rfl rfl (by exact Rd.made _ _ _ _) (by intro u hu; simp at hu; subst hu; rfl) (by simp only [maxLen]; omega) (by omega) ?_; intro v' w' hS')
      refine ⟨⟨k + 1, by omega, rfl, ?_⟩, by simp [intOf]; omega⟩
      rw [take_snoc xs k hlt, bvs_append]
      exact hS'
    · obtain rfl : k = xs.length := by omega
      go_wp2
      go_ret
      rw [HP.one_mul, List.take_length] at hS
      exact Ret.mk hS

set_option maxRecDepth 20000 in
set_option maxHeartbeats 3200000 in
theorem ref12_all {w0 w : World} {F : HP} {b : Nat} {D : Dk} (hD : D.Ok) (hs : Sat w0 w (F * rk b D)) :
    Calls Tryd.prog 140 #[.pointer (some ⟨b, 0, none⟩)] w (Ret fun v w' => Sat w0 w' (F * rk b D * vec 5 1 v D.bytes.length (bvs D.bytes))) := by
  obtain ⟨sv, tv, av, hs1⟩ := hs.rk_open
  have hsy := hD.synced
  have hby := hD.bytes
  have hl1 : (D.bytes.take D.synced).length = D.synced := by rw [List.length_take]; omega
  have hl2 : (D.bytes.drop D.synced).length = D.bytes.length - D.synced := List.length_drop
  obtain ⟨so, sc, rfl, _, hsr, _⟩ := hs1.rot4.vec_rd
  obtain ⟨to_, tc, rfl, _, _, htn⟩ := hs1.rot3.vec_rd
  have HF := Hid.mk' (ref12_fresh (w := w) (D.bytes.take D.synced) so sc hsr (by omega))
  rw [hl1] at HF
  rw [hl2] at htn
  have HT := Hid.mk' htn
  have k0 := hs1.cell (i := 0) (v := .slice so D.synced sc) (by rw [hl1]; rfl)
  have k1 : ∀ w3 A, Sat w w3 A → w3.cell? ⟨b, 1, none⟩ = some (.slice to_ (D.bytes.length - D.synced) tc) := fun w3 A h => by
    have h1 := hs1.cell (i := 1) (v := .slice to_ (D.bytes.length - D.synced) tc) (by rw [hl2]; rfl)
    exact (h.below.cell (World.block_lt_of_cell? _ _ h1)).trans h1
  have K1 := Hid.mk' k1
  have HB := Hid.mk' (show bvs (D.bytes.take D.synced) ++ bvs (D.bytes.drop D.synced) = bvs D.bytes by rw [← bvs_append, List.take_append_drop])
  have HL2 := Hid.mk' (show (bvs (D.bytes.drop D.synced)).length = (D.bytes.length - D.synced) * 1 by rw [bvs_length, hl2, Nat.mul_one])
  have HR := Hid.mk' (fun w3 A (h : Sat w w3 A) => (hs1.rot3.rd).mono h.below)
  have HL := Hid.mk' (show D.synced + (D.bytes.length - D.synced) = D.bytes.length by omega)
  clear hs1 k1 hsr htn hl1 hl2
  go_enter Tryd.func140, Tryd.ntmps140
  go_wp2_with (first | (go_at_call 100; refine HF.out.mono ?_; rintro e w3 ⟨v, rfl, hx⟩; have c1 := K1.out _ _ hx; have hx' := hx.one') | (at_builtin; go_loud (refine sl_append_any rfl _ _ 22 rfl 5 (.int .u8 0) 1 1 Tryd.underlying22 info_u8 rfl (by decide) _ D.synced _ rfl (by exact hx') _ (D.bytes.length - D.synced) tc (bvs (D.bytes.drop D.synced)) rfl HT.out HL2.out (by exact HR.out _ _ hx) (bvs_one _) (by simp only [maxLen]; omega) (by omega) ?_); intro v' w' hS))
  go_ret
  rw [HB.out, HL.out] at hS
  exact Ret.mk (hs.glue hS.unone')
end Go.Proofs.YtjhlelcopofkkaaDoor
