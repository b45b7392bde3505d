/- The law WalNew: its iterator's walk, what is kept of it. -/
import Derived.Test.YtjhlelcopofkkaaDoorFate
import Derived.Test.YtjhlelcopofkkaaDoorGrow
import Derived.Test.YtjhlelcopofkkaaDoorWalFramesW
namespace Go.Proofs.YtjhlelcopofkkaaDoor
open Go.RowKit

set_option maxHeartbeats 3200000 in
theorem law13_newEach {w0 w : World} {F : HP} {bw : Nat} {z : Int} {v : Value} {ps : List (List UInt8)} {p : List UInt8} {g cap : Nat} (hz : 0 < z) (hl : ps.length ≤ 16777216)
    (hs : Sat w0 w (F * blk bw [v] 37 * vecs v ps * vec 5 1 (.slice (some ⟨g, 0, none⟩) p.length cap) p.length (bvs p))) :
    Calls Tryd.prog 72 #[.int .i64 z, .slice (some ⟨g, 0, none⟩) p.length cap, .pointer (some ⟨bw, 0, none⟩)] w
      (Ret fun r w2 => r = .bool true ∧ ∃ v', Sat w0 w2 (F * blk bw [v'] 37 * vecs v' (ps ++ [p]))) := by
  obtain ⟨vs, hvl, hs1⟩ := hs.swap.vecs_open
  obtain ⟨sa, sc, rfl, _, _, _⟩ := hs1.swap.vec_rd
  have hs2 := hs1.perm (B := F * blk bw [.slice sa ps.length sc] 37 * vec 5 1 (.slice (some ⟨g, 0, none⟩) p.length cap) p.length (bvs p) * bvl vs ps * vec 22 1 (.slice sa ps.length sc) ps.length vs) (by ac_rfl)
  have k0 := hs2.rot4.cell (i := 0) (v := .slice sa ps.length sc) rfl
  clear hs hs1
  go_enter Tryd.func72, Tryd.ntmps72
  go_wp2_with (at_builtin; go_loud (refine sl_append rfl _ _ 37 rfl 22 (.slice none 0 0) 1 24 Tryd.underlying37 info_lists rfl (by decide) _ ps.length _ rfl (by exact hs2.skip) _ 1 _ [.slice (some ⟨g, 0, none⟩) p.length cap] rfl rfl (by exact Rd.made _ _ _ _) (by intro u hu; rw [List.mem_singleton] at hu; subst hu; rfl) (by simp only [maxLen]; omega) (by omega) ?_); intro v' w5 hs6; obtain ⟨na, nc, rfl, _, _, _⟩ := hs6.vec_rd; have q0 := hs6.rot4.cell (i := 0) (v := .slice sa ps.length sc) rfl; have f0 := hs6.rot4.free 0)
  go_ret
  refine Ret.mk ⟨rfl, .slice na (ps.length + 1) nc, ?_⟩
  have h7 := (hs6.rot4.store 0 (.slice na (ps.length + 1) nc)).perm (B := F * blk bw [.slice na (ps.length + 1) nc] 37 * vec 22 1 (.slice na (ps.length + 1) nc) (ps.length + 1) (vs ++ [.slice (some ⟨g, 0, none⟩) p.length cap]) * bvl vs ps * vec 5 1 (.slice (some ⟨g, 0, none⟩) p.length cap) p.length (bvs p)) (by simp only [List.set_cons_zero]; ac_rfl)
  exact Sat.vecs_snoc hvl h7
theorem law13_newEach_enter : ∀ args w, (callFunc 72 args).run Tryd.prog w = .ok (.enter 72 args) w := by
  intro args w
  exact Tryd.call72 args w
/-- All frames gone through. -/
theorem law13_newRounds {w0 w : World} {F : HP} (hT : CrcTab w0) (xs : List UInt8) (ao : Option Addr) (c : Nat) (hr : Rd w0 ao (bvs xs)) (hc : xs.length ≤ c) (hn : xs.length ≤ 16777216) (bd bw : Nat)
    (hs : Sat w0 w (F * blk bd [.slice ao xs.length c] 22 * blk bw [.slice none 0 0] 37)) :
    Calls Tryd.prog 95 #[.func (.func 72) #[] #[.pointer (some ⟨bw, 0, none⟩)], .pointer (some ⟨bd, 0, none⟩)] w
      (Ret fun v w' => v = .tuple #[] ∧ ∃ u, Sat w0 w' (F * blk bd [.slice ao xs.length c] 22 * blk bw [u] 37 * vecs u (frames xs))) := by
  have hmem := @frames_mem xs
  have hsz := size_frames xs
  have hlz := len_le_size (frames xs)
  refine frames_yield (gf := 72) xs bd ao c hn hc law13_newEach_enter (fun pre w' => ∃ u, Sat w0 w' (F * blk bd [.slice ao xs.length c] 22 * blk bw [u] 37 * vecs u pre))
    (fun w' => ∃ u, Sat w0 w' (F * blk bd [.slice ao xs.length c] 22 * blk bw [u] 37 * vecs u (frames xs))) ?_ ?_ ?_ ?_ w ⟨_, hs.vecs_nil⟩
  · rintro pre w' ⟨u, h⟩
    exact ⟨hT.mono h.below, hr.of0 h, h.rot3.cell (i := 0) rfl⟩
  · rintro pre w' n ⟨u, h⟩
    exact ⟨u, h.drewN n⟩
  · rintro pre p rest w2 w3 a cap ⟨u, h⟩ hf hp
    have hpm := hmem p (by rw [hf]; simp)
    have h3 := h.glue hp
    have hx := h3.vec_cases
    obtain ⟨hla, ⟨ea, ena, _⟩ | ⟨g, cap', sp, ea, _, _, _, _⟩⟩ := hx
    · omega
    cases ea
    refine (law13_newEach (by omega) (by have : pre.length ≤ (frames xs).length := (by rw [hf]; simp); omega) h3).mono ?_
    rintro e w4 ⟨v, rfl, rfl, u', h4⟩
    exact Ret.mk (Or.inl ⟨rfl, u', h4⟩)
  · rintro w' ⟨u, h⟩
    exact ⟨u, h⟩

/-- The marks. -/
def mk1 (i : Nat) : UInt8 := UInt8.ofNat (i % 250 + 1)
def mk2 (i : Nat) : UInt8 := UInt8.ofNat (255 - i % 2)
theorem mk1_val (i : Nat) : ((mk1 i).toNat : Int) = (i % 250 + 1 : Nat) := by
  unfold mk1
  rw [UInt8.toNat_ofNat', Nat.mod_eq_of_lt (by omega)]
theorem mk2_val (i : Nat) : ((mk2 i).toNat : Int) = 255 - ((i % 2 : Nat) : Int) := by
  unfold mk2
  rw [UInt8.toNat_ofNat', Nat.mod_eq_of_lt (by omega)]
  omega
/-- All lists written full, up to one. -/
def marked : Nat → List (List UInt8) → List (List UInt8)
  | _, [] => []
  | i, p :: ps => List.replicate p.length (mk1 i) :: marked (i + 1) ps
theorem marked_length : ∀ (i : Nat) (ps : List (List UInt8)), (marked i ps).length = ps.length
  | _, [] => rfl
  | i, p :: ps => by simp [marked, marked_length]
theorem marked_get : ∀ (i : Nat) (ps : List (List UInt8)) (k : Nat) (h : k < ps.length), (marked i ps)[k]? = some (List.replicate ps[k].length (mk1 (i + k)))
  | _, [], k, h => absurd h (Nat.not_lt_zero k)
  | i, p :: ps, 0, _ => rfl
  | i, p :: ps, k + 1, h => by
    simp only [marked, List.getElem?_cons_succ]
    rw [marked_get (i + 1) ps k (by simpa using h)]
    simp [Nat.add_assoc, Nat.add_comm 1 k]
end Go.Proofs.YtjhlelcopofkkaaDoor
