/- The program's log on a disk: its opening. -/
import Derived.Test.YtjhlelcopofkkaaDoorActs
import Derived.Test.YtjhlelcopofkkaaDoorBegun
namespace Go.Proofs.YtjhlelcopofkkaaDoor
open Go.RowKit

/-- What an opened log holds. -/
structure Lg where
  count : Nat
  size : Nat
  dead : Bool
def lg (bl b : Nat) (L : Lg) : HP := blk bl [.pointer (some ⟨b, 0, none⟩), .int .i64 L.count, .int .i64 L.size, .bool L.dead] 188

namespace Dk
/-- What an opening does to the disk, and what it answers. -/
def wopen (D : Dk) : Dk × Nat :=
  if (D.gate id).2 = 0 then
    if size (frames D.bytes) < D.bytes.length then
      if ((D.gate id).1.trunc (size (frames D.bytes))).2 = 0 then ((D.gate id).1.trunc (size (frames D.bytes))).1.sync else (D.gate id).1.trunc (size (frames D.bytes))
    else (D.gate id).1.sync
  else D.gate id
theorem gate_ok {D : Dk} (h : (D.gate id).2 = 0) : (D.gate id).1 = D.ticked ∧ D.dead = false := by
  cases hd : D.dead with
  | true => rw [gate_dead hd] at h; exact absurd h (show ¬ (10 : Nat) = 0 by decide)
  | false =>
    cases hk : D.diesB with
    | true => rw [gate_dies hd hk] at h; exact absurd h (show ¬ (10 : Nat) = 0 by decide)
    | false => rw [gate_lives hd hk]; exact ⟨rfl, rfl⟩
theorem sync_cases (D : Dk) : D.sync.2 = 0 ∨ D.sync.2 = 10 := by
  unfold sync
  rcases D.gate_cases id with h | h
  · rw [if_pos h]; exact Or.inl rfl
  · rw [if_neg (by omega)]; exact Or.inr h
theorem trunc_cases {D : Dk} {n : Nat} (hn : n ≤ D.bytes.length) : (D.trunc n).2 = 0 ∨ (D.trunc n).2 = 10 := by
  unfold trunc
  rw [if_neg (by omega)]
  rcases D.gate_cases id with h | h
  · rw [if_pos h]; exact Or.inl rfl
  · rw [if_neg (by omega)]; exact Or.inr h
theorem wopen_cases (D : Dk) : D.wopen.2 = 0 ∨ D.wopen.2 = 10 := by
  unfold wopen
  rcases D.gate_cases id with h | h
  · rw [if_pos h]
    have hg := (gate_ok h).1
    split
    · rename_i hlt
      have ht := trunc_cases (D := (D.gate id).1) (n := size (frames D.bytes)) (by rw [hg]; show _ ≤ D.bytes.length; omega)
      rcases ht with h2 | h2
      · rw [if_pos h2]; exact sync_cases _
      · rw [if_neg (by omega)]; exact Or.inr h2
    · exact sync_cases _
  · rw [if_neg (by omega)]; exact Or.inr h
end Dk

set_option maxRecDepth 20000 in
set_option maxHeartbeats 6400000 in
theorem wal_open {w0 w : World} {F : HP} {b : Nat} {D : Dk} {E : Nat → Addr} (hE1 : ErrAt w0 E 1) (hE : ErrAt w0 E 10) (hT : CrcTab w0) (hD : D.Ok) (hl : D.bytes.length ≤ 16777216) (hs : Sat w0 w (F * dk b D)) :
    Calls Tryd.prog 71 #[.pointer (some ⟨b, 0, none⟩)] w (Ret fun v w' =>
      (D.wopen.2 = 0 ∧ ∃ bl u, v = .tuple #[.pointer (some ⟨bl, 0, none⟩), u, .nilIface] ∧ Sat w0 w' (F * dk b D.wopen.1 * lg bl b ⟨(frames D.bytes).length, size (frames D.bytes), false⟩ * vecs u (frames D.bytes)))
      ∨ (D.wopen.2 = 10 ∧ v = .tuple #[.pointer none, .slice none 0 0, errv E 10] ∧ Sat w0 w' (F * dk b D.wopen.1))) := by
  have HE1 := Hid.mk' hE1
  have HE := Hid.mk' hE
  have HT := Hid.mk' hT
  have HRA := Hid.mk' (disk_readAll' hE hD hs)
  have hgo : (D.gate id).1.Ok := hD.gate (fun _ h => h)
  rcases D.gate_cases id with hg | hg
  · have hgk := (Dk.gate_ok hg).1
    have HW := Hid.mk' (show D.wopen = if size (frames D.bytes) < D.bytes.length then (if (D.ticked.trunc (size (frames D.bytes))).2 = 0 then (D.ticked.trunc (size (frames D.bytes))).1.sync else D.ticked.trunc (size (frames D.bytes))) else D.ticked.sync by unfold Dk.wopen; rw [if_pos hg, hgk])
    rw [hgk] at hgo
    rw [hg, if_pos rfl, hgk] at HRA
    have HF := Hid.mk' (size_frames D.bytes)
    clear hE hE1 hT hs hg hgk
    go_enter Tryd.func71, Tryd.ntmps71
    go_wp2_with (go_at_call 108; refine HRA.out.mono ?_; clear HRA; rintro e w1 ⟨v, rfl, u, rfl, hs1⟩; have hs1 : Sat w0 w1 (F * dk b D.ticked * vec 5 1 u D.bytes.length (bvs D.bytes)) := hs1; obtain ⟨ua, uc, rfl, huc, hru, _⟩ := hs1.vec_rd; simp only [errv])
    refine (wal_scan (HT.out.mono hs1.below) D.bytes ua uc hru huc hl).mono ?_
    rintro e w2 ⟨v, rfl, fu, rfl, hx⟩
    have hs2 := hs1.glue hx
    clear hx hs1 hru
    obtain ⟨lo, lc, rfl, _, _, _⟩ := hs2.vecs_rd
    obtain ⟨z, hz⟩ : ∃ z, size (frames D.bytes) = z := ⟨_, rfl⟩
    have hzl : z ≤ D.bytes.length := hz ▸ HF.out
    have HZ := Hid.mk' hz
    rw [hz] at HW ⊢
    clear hz
    have hs2' := hs2.perm (B := F * vec 5 1 (.slice ua D.bytes.length uc) D.bytes.length (bvs D.bytes) * vecs (.slice lo (frames D.bytes).length lc) (frames D.bytes) * dk b D.ticked) (by ac_rfl)
    clear hs2
    by_cases hlt : z < D.bytes.length
    · rw [if_pos hlt] at HW
      have hto : (D.ticked.trunc z).1.Ok := hgo.trunc z
      have htc := Dk.trunc_cases (D := D.ticked) (n := z) hzl
      go_wp2_with fail
      refine (disk_truncate' HE1.out HE.out hgo hs2' (z : Int)).mono ?_
      rintro e w3 ⟨v, rfl, rfl, hs3⟩
      obtain ⟨T, hT⟩ : ∃ T, D.ticked.trunc z = T := ⟨_, rfl⟩
      rw [hT] at hs3 hto htc HW ⊢
      obtain ⟨T1, T2⟩ := T
      simp only at hs3 hto htc HW ⊢
      clear hT hs2'
      rcases htc with rfl | rfl
      · rw [if_pos rfl] at HW
        simp only [errv]
        go_wp2_with fail
        refine (disk_sync' HE.out hto hs3).mono ?_
        rintro e w4 ⟨v, rfl, rfl, hs4⟩
        have hsc := Dk.sync_cases (T1)
        obtain ⟨S, hS⟩ : ∃ S, (T1).sync = S := ⟨_, rfl⟩
        rw [hS] at hs4 hsc ⊢
        have HW2 := Hid.mk' (show D.wopen = S by rw [HW.out, hS])
        obtain ⟨S1, S2⟩ := S
        simp only at hsc hs4 ⊢
        clear hS hs3
        rcases hsc with rfl | rfl
        · have hs5 := hs4.new #[.pointer (some ⟨b, 0, none⟩), .int .i64 (frames D.bytes).length, .int .i64 z, .bool false] 188
          generalize hbl : w4.heap.size = bl at hs5
          simp only [errv]
          go_wp2_with fail
          go_ret3
          refine Ret.mk (Or.inl ⟨by rw [HW2.out], bl, _, rfl, ?_⟩)
          rw [HW2.out, HZ.out]
          exact (hs5.perm (B := F * dk b S1 * lg bl b ⟨(frames D.bytes).length, z, false⟩ * vecs (.slice lo (frames D.bytes).length lc) (frames D.bytes) * vec 5 1 (.slice ua D.bytes.length uc) D.bytes.length (bvs D.bytes)) (by unfold lg; ac_rfl)).drop
        · simp only [errv]
          go_wp2_with fail
          go_ret3
          refine Ret.mk (Or.inr ⟨by rw [HW2.out], rfl, ?_⟩)
          rw [HW2.out]
          exact hs4.swap.drop.swap.drop
      · have HW2 := Hid.mk' (show D.wopen = (T1, 10) from HW.out.trans (if_neg (show ¬ (10 : Nat) = 0 by decide)))
        simp only [errv]
        go_wp2_with fail
        go_ret3
        refine Ret.mk (Or.inr ⟨by rw [HW2.out], rfl, ?_⟩)
        rw [HW2.out]
        exact hs3.swap.drop.swap.drop
    · rw [if_neg hlt] at HW
      have hs3 := hs2'
      clear hs2'
      go_wp2_with fail
      refine (disk_sync' HE.out hgo hs3).mono ?_
      rintro e w4 ⟨v, rfl, rfl, hs4⟩
      have hsc := Dk.sync_cases (D.ticked)
      obtain ⟨S, hS⟩ : ∃ S, (D.ticked).sync = S := ⟨_, rfl⟩
      rw [hS] at hs4 hsc ⊢
      have HW2 := Hid.mk' (show D.wopen = S by rw [HW.out, hS])
      obtain ⟨S1, S2⟩ := S
      simp only at hsc hs4 ⊢
      clear hS hs3
      rcases hsc with rfl | rfl
      · have hs5 := hs4.new #[.pointer (some ⟨b, 0, none⟩), .int .i64 (frames D.bytes).length, .int .i64 z, .bool false] 188
        generalize hbl : w4.heap.size = bl at hs5
        simp only [errv]
        go_wp2_with fail
        go_ret3
        refine Ret.mk (Or.inl ⟨by rw [HW2.out], bl, _, rfl, ?_⟩)
        rw [HW2.out, HZ.out]
        exact (hs5.perm (B := F * dk b S1 * lg bl b ⟨(frames D.bytes).length, z, false⟩ * vecs (.slice lo (frames D.bytes).length lc) (frames D.bytes) * vec 5 1 (.slice ua D.bytes.length uc) D.bytes.length (bvs D.bytes)) (by unfold lg; ac_rfl)).drop
      · simp only [errv]
        go_wp2_with fail
        go_ret3
        refine Ret.mk (Or.inr ⟨by rw [HW2.out], rfl, ?_⟩)
        rw [HW2.out]
        exact hs4.swap.drop.swap.drop
  · have HW := Hid.mk' (show D.wopen = D.gate id by unfold Dk.wopen; rw [if_neg (by omega)])
    obtain ⟨g, hgg⟩ : ∃ g, D.gate id = g := ⟨_, rfl⟩
    rw [hgg] at HRA HW hg
    obtain ⟨g1, g2⟩ := g
    obtain rfl : g2 = 10 := hg
    rw [if_neg (show ¬ (10 : Nat) = 0 by decide)] at HRA
    clear hE hE1 hT hs hgo hgg
    go_enter Tryd.func71, Tryd.ntmps71
    go_wp2_with (go_at_call 108; refine HRA.out.mono ?_; clear HRA; rintro e w1 ⟨v, rfl, u, rfl, hs1⟩; simp only [errv])
    go_ret3
    refine Ret.mk (Or.inr ⟨by rw [HW.out], rfl, ?_⟩)
    rw [HW.out]
    exact hs1.drop
end Go.Proofs.YtjhlelcopofkkaaDoor
