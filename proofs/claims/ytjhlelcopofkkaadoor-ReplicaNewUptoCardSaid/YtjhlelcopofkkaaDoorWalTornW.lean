/- The walk of the law WalTorn. -/
import Derived.Test.YtjhlelcopofkkaaDoorScan
namespace Go.Proofs.YtjhlelcopofkkaaDoor
open Go.RowKit

theorem RdL.take {w : World} {ao : Option Addr} {ps : List (List UInt8)} (h : RdL w ao ps) (n : Nat) : RdL w ao (ps.take n) := by
  obtain ⟨vs, h1, h2, h3⟩ := h
  refine ⟨vs.take n, h1.take n, by rw [List.length_take, List.length_take, h2], fun k p hp => ?_⟩
  have hk : k < n := by
    have := (List.getElem?_eq_some_iff.1 hp).1
    rw [List.length_take] at this
    omega
  rw [List.getElem?_take_of_lt hk] at hp ⊢
  exact h3 k p hp
theorem law13_same_true {w : World} (ps : List (List UInt8)) (ao bo : Option Addr) (n m c d : Nat) (hn : n = ps.length) (hm : m = ps.length) (hr : RdL w ao ps) (hq : RdL w bo ps) (hl : ps.length ≤ 16777216) (hp : ∀ p ∈ ps, p.length ≤ 16777216) :
    Calls Tryd.prog 40 #[.slice ao n c, .slice bo m d] w (Drew (.bool true) w) := by
  subst hn; subst hm
  exact (law13_same ps ps ao bo c d hr hq hl hl hp).mono fun e w' h => by rw [decide_eq_true rfl] at h; exact h
theorem pick_nat (k : Int) (n : Nat) : ∃ c : Nat, pick k ((n : Int) + 1) = (c : Int) ∧ c ≤ n := by
  unfold pick
  rw [if_neg (by omega)]
  have h1 := Int.emod_nonneg k (show (n : Int) + 1 ≠ 0 by omega)
  have h2 := Int.emod_lt_of_pos k (show 0 < (n : Int) + 1 by omega)
  exact ⟨(k % ((n : Int) + 1)).toNat, by omega, by omega⟩

set_option maxRecDepth 20000 in
set_option maxHeartbeats 6400000 in
theorem walk_walTorn {w : World} {E : Nat → Addr} (hT : CrcTab w) (hE : w.cell? ⟨gErr 1, 0, none⟩ = some (errv E 1)) (ps : List (List UInt8)) (ao : Option Addr) (c : Nat) (hr : RdL w ao ps) (hn : size ps ≤ 16777216) (z : Int) :
    Calls Tryd.prog 6 #[.agg #[.slice ao ps.length c, .int .i64 z]] w (Ret fun v w' => v = .bool true ∧ Sat w w' 1) := by
  have HT := Hid.mk' hT
  have HR := Hid.mk' hr
  have HE := Hid.mk' (show ∀ w' A, Sat w w' A → w'.cell? ⟨gErr 1, 0, none⟩ = some (errv E 1) from fun w' A h => (h.below.cell (World.block_lt_of_cell? _ _ hE)).trans hE)
  have hs0 := (Sat.refl w).new #[.slice ao ps.length c, .int .i64 z] 60
  clear hT hr hE
  go_enter Tryd.func6, Tryd.ntmps6
  go_wp2_with fail
  refine (law13_begun (HT.out.mono hs0.below)).mono ?_
  rintro e w1 ⟨v, rfl, rfl, hx⟩
  have hs1 := hs0.then1 hx
  clear hx hs0
  have k0 := hs1.cell (i := 0) (v := .slice ao ps.length c) rfl
  go_wp2_with fail
  refine (law13_joined (HT.out.mono hs1.below) (HE.out _ _ hs1) ps ao c (HR.out.mono hs1.below) hn).mono ?_
  rintro e w2 ⟨v, rfl, va, vg, ve, rfl, hx⟩
  have hgm := @goodOnes_mem ps
  have hgs : size (goodOnes ps) ≤ 16777216 := by have := size_good_le ps; omega
  generalize goodOnes ps = gs at *
  have hs2 := (hs1.glue hx).perm (B := 1 * blk w.heap.size [.slice ao ps.length c, .int .i64 z] 60 * vec 5 1 va (size gs) (bvs (enc gs)) * vecs vg gs * vec 3 1 ve gs.length (ints (ends 0 gs))) (by rw [HP.one_mul (vec _ _ _ _ _)]; ac_rfl)
  have k1 := hs2.rot4.cell (i := 1) (v := .int .i64 z) rfl
  obtain ⟨a1, ca, rfl, hla, hra, hna⟩ := hs2.rot3.vec_rd
  obtain ⟨g1, cg, rfl, hlg, hrg, hng⟩ := hs2.swap.vecs_rd
  obtain ⟨e1, ce, rfl, hle, hre, hne⟩ := hs2.vec_rd
  have hlz := len_le_size gs
  clear hx hs1 k0
  obtain ⟨ct, hct, hctl⟩ := pick_nat z (size gs)
  go_wp2_with (go_at_call 29; refine (kit_pick _ _ (by omega) (by omega)).mono ?_; rintro e w' ⟨rfl, rfl⟩; rw [hct])
  have hwl := whole_le ct gs
  have HWI := Hid.mk' (fun k h => whole_iff ct gs k h)
  have HEG := Hid.mk' (fun k h => ends_get 0 gs k h)
  have HCUT := Hid.mk' (frames_cut hgm ct)
  have HALL := Hid.mk' (frames_enc hgm)
  have HGM := Hid.mk' hgm
  have HEL := Hid.mk' (ends_length 0 gs)
  have HLEN := Hid.mk' (enc_length gs)
  clear hgm hct
  generalize whole ct gs = W at *
  go_loopw [8, 9, 10] (fun n s i wr => ∃ k m : Nat, k ≤ gs.length ∧ m = min k W ∧ n = .int .i64 m ∧ s = .int .i64 (size (gs.take m)) ∧ i = .int .i64 k ∧ wr = w2) (fun _ _ i _ => gs.length - (intOf i).toNat)
  case atStart => exact ⟨0, 0, by omega, by simp, rfl, rfl, rfl, rfl⟩
  case round =>
    obtain ⟨k, m, hk, hm, rfl, rfl, rfl, rfl⟩ := hrel
    by_cases hlt : k < gs.length
    · obtain ⟨be, oe, rfl, hcells⟩ := hre.addr (by intro e; have := ints_length (ends 0 gs); rw [e, HEL.out] at this; simp at this; omega)
      have hc : wr.cell? ⟨be, oe + k, none⟩ = some (.int .i64 (size (gs.take (k + 1)))) := by
        have := hcells k _ (ints_get (HEG.out k hlt))
        rw [Nat.zero_add] at this
        exact this
      have hw := HWI.out k hlt
      by_cases hq : k < W
      · have hle2 : size (gs.take (k + 1)) ≤ ct := hw.2 hq
        have hm' : m = k := by omega
        subst hm'
        have HSZ := Hid.mk' (show (size (gs.take (m + 1)) : Nat) = size (gs.take (m + 1)) from rfl)
        clear hw hcells hm
        obtain ⟨sz, hsz⟩ : ∃ sz, size (gs.take (m + 1)) = sz := ⟨_, rfl⟩
        rw [hsz] at hc hle2
        have HQ := Hid.mk' hsz
        clear hsz HSZ
        go_wp2_with fail
        refine ⟨⟨m + 1, m + 1, by omega, by omega, rfl, by rw [HQ.out], rfl, by first | rfl | trivial⟩, by simp [intOf]; omega⟩
      · have hgt : ¬ (size (gs.take (k + 1)) : Int) ≤ (ct : Int) := fun h => hq (hw.1 (by omega))
        have hm' : m = W := by omega
        clear hw hcells
        generalize size (gs.take (k + 1)) = sz at hc hgt
        go_wp2_with fail
        refine ⟨⟨k + 1, m, by omega, by omega, rfl, rfl, rfl, by first | rfl | trivial⟩, by simp [intOf]; omega⟩
    · have hm' : m = W := by omega
      subst hm'
      go_wp2_with fail
      clear hm
      have htl : ((enc gs).take ct).length = ct := by rw [List.length_take, HLEN.out]; omega
      have hsc := wal_scan (w := wr) (HT.out.mono hs2.below) ((enc gs).take ct) a1 ca (by rw [← bvs_take]; exact hra.take ct) (by rw [htl]; omega) (by rw [htl]; omega)
      rw [htl, HCUT.out] at hsc
      refine hsc.mono ?_
      rintro e w3 ⟨v, rfl, l1, rfl, hx⟩
      have hs3 := hs2.glue hx
      obtain ⟨p1, cp1, rfl, hlp1, hrp1, _⟩ := hs3.vecs_rd
      have hb3 := hx.below
      clear hx hsc
      go_wp2_with fail
      have hsc := wal_scan (w := w3) (HT.out.mono hs3.below) (enc gs) a1 ca (hra.mono hb3) (by rw [HLEN.out]; exact hla) (by rw [HLEN.out]; omega)
      rw [HLEN.out, HALL.out] at hsc
      refine hsc.mono ?_
      rintro e w4 ⟨v, rfl, l2, rfl, hx⟩
      have hs4 := hs3.glue hx
      obtain ⟨p2, cp2, rfl, hlp2, hrp2, _⟩ := hs4.vecs_rd
      have hb4 := hx.below
      clear hx hsc
      have htk : (gs.take m).length = m := by rw [List.length_take]; omega
      have hrg4 := (hrg.mono hb3).mono hb4
      have hrp14 := hrp1.mono hb4
      have H1 := Hid.mk' (law13_same_true (w := w4) (gs.take m) p1 g1 m m cp1 cg htk.symm htk.symm hrp14 (hrg4.take m) (by omega) (fun p hp => by have := (HGM.out p (List.mem_of_mem_take hp)).2; omega))
      go_wp2_with fail
      refine H1.out.mono ?_
      rintro e w5 ⟨rfl, m5, rfl⟩
      have hs5 := hs4.drewN m5
      have H2 := Hid.mk' (law13_same_true (w := w4.drewN m5) gs p2 g1 gs.length gs.length cp2 cg rfl rfl hrp2.drewN hrg4.drewN (by omega) (fun p hp => by have := (HGM.out p hp).2; omega))
      go_wp2_with fail
      refine H2.out.mono ?_
      rintro e w6 ⟨rfl, m6, rfl⟩
      have hs6 := hs5.drewN m6
      rw [World.drewN_drewN] at hs6
      clear hs5 hs4 hs3
      generalize size (gs.take m) = sz at *
      go_wp2_with fail
      go_ret
      refine Ret.mk ⟨rfl, ?_⟩
      exact (Sat.start w).ext hs6.below
end Go.Proofs.YtjhlelcopofkkaaDoor
