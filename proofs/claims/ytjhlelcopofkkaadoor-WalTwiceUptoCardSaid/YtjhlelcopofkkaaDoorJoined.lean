/- The laws' own 'joined': frames one behind the other. -/
import Derived.Test.YtjhlelcopofkkaaDoorTorn
namespace Go.Proofs.YtjhlelcopofkkaaDoor
open Go.RowKit

theorem size_good_le (ps : List (List UInt8)) : size (goodOnes ps) ≤ size ps := by
  induction ps with
  | nil => exact Nat.le_refl _
  | cons p ps ih =>
    by_cases h : 1 ≤ p.length ∧ p.length ≤ 8192
    · have : goodOnes (p :: ps) = p :: goodOnes ps := by simp [goodOnes, h]
      rw [this]
      simp only [size]
      omega
    · have hd : decide (1 ≤ p.length ∧ p.length ≤ 8192) = false := decide_eq_false h
      have : goodOnes (p :: ps) = goodOnes ps := by simp only [goodOnes, List.filter_cons, hd]; simp
      rw [this]
      simp only [size]
      omega
theorem size_take_le (ps : List (List UInt8)) (k : Nat) : size (ps.take k) ≤ size ps := by
  have := size_append (ps.take k) (ps.drop k)
  rw [List.take_append_drop] at this
  omega

set_option maxRecDepth 20000 in
set_option maxHeartbeats 6400000 in
theorem law13_joined {w : World} {E : Nat → Addr} (hT : CrcTab w) (hE : w.cell? ⟨gErr 1, 0, none⟩ = some (errv E 1)) (ps : List (List UInt8)) (ao : Option Addr) (c : Nat) (hr : RdL w ao ps) (hn : size ps ≤ 16777216) :
    Calls Tryd.prog 38 #[.slice ao ps.length c] w (Ret fun v w' => ∃ va vg ve, v = .tuple #[va, vg, ve] ∧
      Sat w w' (1 * vec 5 1 va (size (goodOnes ps)) (bvs (enc (goodOnes ps))) * vecs vg (goodOnes ps) * vec 3 1 ve (goodOnes ps).length (ints (ends 0 (goodOnes ps))))) := by
  have HT := Hid.mk' hT
  have HE := Hid.mk' hE
  have HR := Hid.mk' hr
  have hlz := len_le_size ps
  clear hT hE hr
  go_enter Tryd.func38, Tryd.ntmps38
  go_wp2
  go_loopw [5, 6, 7, 8] (fun a g e i wr => ∃ (k : Nat) (gk : List (List UInt8)) (gvs : List Value) (av gv ev : Value), k ≤ ps.length ∧ gk = goodOnes (ps.take k) ∧ gvs.length = gk.length ∧ i = .int .i64 k ∧ av = a ∧ gv = g ∧ ev = e ∧
    Sat w wr (1 * vec 5 1 av (size gk) (bvs (enc gk)) * vec 22 1 gv gk.length gvs * bvl gvs gk * vec 3 1 ev gk.length (ints (ends 0 gk)))) (fun _ _ _ i _ => ps.length - (intOf i).toNat)
  case atStart =>
    refine ⟨0, [], [], _, _, _, by omega, rfl, rfl, rfl, rfl, rfl, rfl, ?_⟩
    show Sat w w (1 * vec 5 1 (.slice none 0 0) 0 [] * vec 22 1 (.slice none 0 0) 0 [] * 1 * vec 3 1 (.slice none 0 0) 0 [])
    simp only [vec_nil, HP.mul_one]
    exact Sat.refl w
  case round =>
    obtain ⟨k, gk, gvs, a, g, e, hk, hgk, hgl, rfl, rfl, rfl, rfl, hs⟩ := hrel
    have hsz : size gk ≤ 16777216 := by rw [hgk]; have := size_good_le (ps.take k); have := size_take_le ps k; omega
    have hgz := len_le_size gk
    by_cases hlt : k < ps.length
    · obtain ⟨b, o, bo, cp, rfl, hcell, hpc, hrp, hno⟩ := HR.out.cell hlt
      have HC := Hid.mk' (show ∀ (w' : World) (A : HP), Sat w w' A → w'.cell? ⟨b, o + k, none⟩ = some (.slice bo ps[k].length cp) from fun w' A h => (h.below.cell (World.block_lt_of_cell? _ _ hcell)).trans hcell)
      have hc0 := HC.out _ _ hs
      have hps : size (ps.take k) + 8 + ps[k].length ≤ 16777216 := by rw [← size_take_succ ps k hlt]; have := size_take_le ps (k + 1); omega
      have HTK := Hid.mk' (take_snoc ps k hlt)
      have hgs : size gk + 8 + ps[k].length ≤ 16777216 := by rw [hgk]; have := size_good_le (ps.take k); omega
      clear hcell
      generalize ps[k] = p at *
      by_cases hg : 1 ≤ p.length ∧ p.length ≤ 8192
      · have HG := Hid.mk' (show goodOnes (ps.take (k + 1)) = gk ++ [p] by rw [HTK.out, goodOnes_snoc_ok hg, hgk])
        clear hgk
        go_wp2_with fail
        refine (kit_copy p bo cp (hrp.mono hs.below) (by omega)).mono ?_
        rintro e1 w1 ⟨v1, rfl, hx⟩
        have hs1 := hs.glue hx
        have hc1 := HC.out _ _ hs1
        clear hx hs
        obtain ⟨a1, cp1, rfl, _, _, _⟩ := hs1.vec_rd
        go_wp2_with fail
        refine (wal_frame (HT.out.mono hs1.below) p bo cp (hrp.mono hs1.below) hg.1 hg.2).mono ?_
        rintro e2 w2 ⟨v, rfl, u, rfl, hx⟩
        have hs2 := hs1.glue hx
        obtain ⟨uo, uc, rfl, _, hru, hnu⟩ := hs2.vec_rd
        have HWL := Hid.mk' (show (bvs (wframe p)).length = (8 + p.length) * 1 by rw [bvs_length, wframe_length, Nat.mul_one])
        clear hx hs1 hc1
        go_wp2_with (first | (at_builtin; refine sl_append_any rfl _ _ 22 rfl 5 (.int .u8 0) 1 1 Tryd.underlying22 info_u8 rfl (by decide) _ (size gk) _ rfl (by exact hs2.rot6) _ (8 + p.length) uc (bvs (wframe p)) rfl hnu HWL.out hru (bvs_one _) (by simp only [maxLen]; omega) (by omega) ?_; intro av' w3 hs3; obtain ⟨a3, cp3, rfl, _, _, _⟩ := hs3.vec_rd) | (at_builtin; refine sl_append rfl _ _ 37 rfl 22 (.slice none 0 0) 1 24 Tryd.underlying37 info_bytes rfl (by decide) _ gk.length _ rfl (by exact hs3.rot6.skip) _ 1 _ [.slice a1 p.length cp1] rfl rfl (by exact Rd.made _ _ _ _) (by intro u hu; simp at hu; subst hu; rfl) (by simp only [maxLen]; omega) (by omega) ?_; intro gv' w4 hs4) | (at_builtin; refine sl_append rfl _ _ 35 rfl 3 (.int .i64 0) 1 8 Tryd.underlying35 info_int rfl (by decide) _ gk.length _ rfl (by exact hs4.rot5.skip) _ 1 _ [.int .i64 ((size gk : Int) + (8 + (p.length : Int)))] rfl rfl (by exact Rd.made _ _ _ _) (by intro u hu; simp at hu; subst hu; rfl) (by simp only [maxLen]; omega) (by omega) ?_; intro ev' w5 hs5))
        refine ⟨⟨k + 1, gk ++ [p], gvs ++ [.slice a1 p.length cp1], _, gv', ev', by omega, HG.out.symm, by simp [hgl], by first | rfl | trivial, by first | rfl | trivial, by first | rfl | trivial, by first | rfl | trivial, ?_⟩, by simp [intOf]; omega⟩
        have e1 : ints (ends 0 (gk ++ [p])) = ints (ends 0 gk) ++ [.int .i64 ((size gk : Int) + (8 + (p.length : Int)))] := by
          rw [ends_snoc, ints_snoc, show 0 + size gk + 8 + p.length = size gk + (8 + p.length) by omega, Int.natCast_add, Int.natCast_add]
          rfl
        rw [bvl_snoc hgl, e1, size_snoc, enc_append, List.length_append, List.length_singleton, show enc [p] = wframe p by simp [enc], bvs_append]
        exact (hs5.perm (B := _ * vec 5 1 (.slice uo (8 + p.length) uc) (8 + p.length) (bvs (wframe p))) (by ac_rfl)).drop
      · have HG := Hid.mk' (show goodOnes (ps.take (k + 1)) = gk by rw [HTK.out, goodOnes_snoc_no hg, hgk])
        have HGN := Hid.mk' hg
        clear hgk hg
        have hEv : ∀ w' A, Sat w w' A → w'.cell? ⟨gErr 1, 0, none⟩ = some (errv E 1) := fun w' A h => (h.below.cell (World.block_lt_of_cell? _ _ HE.out)).trans HE.out
        have HEV := Hid.mk' hEv
        clear hEv
        go_wp2_with fail
        refine (kit_copy p bo cp (hrp.mono hs.below) (by omega)).mono ?_
        rintro e1 w1 ⟨v1, rfl, hx⟩
        have hs1 := hs.glue hx
        have hc1 := HC.out _ _ hs1
        clear hx hs
        go_wp2_with fail
        refine (wal_frame_no (HEV.out _ _ hs1) p bo cp HGN.out).mono ?_
        rintro e2 w2 ⟨rfl, m, rfl⟩
        have hs2 := (hs1.drewN m).drop
        clear hs1 hc1
        unfold errv
        go_wp2_with fail
        refine ⟨⟨k + 1, gk, gvs, _, _, _, by omega, HG.out.symm, hgl, by first | rfl | trivial, by first | rfl | trivial, by first | rfl | trivial, by first | rfl | trivial, hs2⟩, by simp [intOf]; omega⟩
    · have hkk : k = ps.length := by omega
      subst hkk
      have HF := Hid.mk' (show gk = goodOnes ps by rw [hgk, List.take_length])
      clear hgk
      go_wp2
      go_ret3
      refine Ret.mk ⟨_, _, _, rfl, ?_⟩
      rw [← HF.out]
      refine Sat.perm (A := 1 * vec 5 1 a (size gk) (bvs (enc gk)) * vec 3 1 e gk.length (ints (ends 0 gk)) * vecs g gk) ?_ (by ac_rfl)
      exact Sat.vecs_shut (hs.perm (by ac_rfl))
end Go.Proofs.YtjhlelcopofkkaaDoor
