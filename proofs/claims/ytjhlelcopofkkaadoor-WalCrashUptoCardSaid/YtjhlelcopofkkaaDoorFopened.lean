/- The law of crashes: an Open that answered. -/
import Derived.Test.YtjhlelcopofkkaaDoorFput
namespace Go.Proofs.YtjhlelcopofkkaaDoor
open Go.RowKit

theorem vecs_of_parts {w0 w : World} {F : HP} {v : Value} {vs : List Value} {ps : List (List UInt8)} (hs : Sat w0 w (F * bvl vs ps * vec 22 1 v ps.length vs)) : Sat w0 w (F * vecs v ps) := Sat.vecs_shut (hs.swap)

set_option maxRecDepth 20000 in
set_option maxHeartbeats 25600000 in
theorem fate_opened {w0 w : World} {F : HP} {bf gc : Nat} {z : Int} {ga : Option Addr} {G T S W : List (List UInt8)} {A X : Bool} (hG : G = T ++ S ∨ G = (T ++ S) ++ W) (hl : T.length + S.length + W.length ≤ 1048576) (hg : G.length ≤ 1048576) (hz : size G ≤ 16777216)
    (hm : ∀ p ∈ G, p.length ≤ 16777216) (hs : Sat w0 w (F * vecs (.slice ga G.length gc) G * fate bf T S W A z X)) :
    Calls Tryd.prog 78 #[.pointer (some ⟨bf, 0, none⟩), .slice ga G.length gc] w (Ret fun v w' => v = .bool true ∧ Sat w0 w' (F * fate bf G [] [] A (size G : Nat) false)) := by
  obtain ⟨tv, sv, wv, hs1⟩ := hs.fate_open
  obtain ⟨vt, hvt, hs2⟩ := (hs1.perm (B := F * vecs (.slice ga G.length gc) G * vecs sv S * vecs wv W * blk bf [tv, sv, wv, .bool A, .int .i64 z, .bool X] 137 * vecs tv T) (by ac_rfl)).vecs_open
  obtain ⟨vs, hvs, hs3⟩ := (hs2.perm (B := F * vecs (.slice ga G.length gc) G * vecs wv W * blk bf [tv, sv, wv, .bool A, .int .i64 z, .bool X] 137 * vec 22 1 tv T.length vt * bvl vt T * vecs sv S) (by ac_rfl)).vecs_open
  obtain ⟨vw, hvw, hs4⟩ := (hs3.perm (B := F * vecs (.slice ga G.length gc) G * blk bf [tv, sv, wv, .bool A, .int .i64 z, .bool X] 137 * vec 22 1 tv T.length vt * bvl vt T * vec 22 1 sv S.length vs * bvl vs S * vecs wv W) (by ac_rfl)).vecs_open
  obtain ⟨vg, hvg, hs5⟩ := (hs4.perm (B := F * blk bf [tv, sv, wv, .bool A, .int .i64 z, .bool X] 137 * vec 22 1 tv T.length vt * bvl vt T * vec 22 1 sv S.length vs * bvl vs S * vec 22 1 wv W.length vw * bvl vw W * vecs (.slice ga G.length gc) G) (by ac_rfl)).vecs_open
  have hs6 := hs5.perm (B := F * bvl vt T * bvl vs S * bvl vw W * bvl vg G * vec 22 1 tv T.length vt * vec 22 1 sv S.length vs * vec 22 1 wv W.length vw * vec 22 1 (.slice ga G.length gc) G.length vg * blk bf [tv, sv, wv, .bool A, .int .i64 z, .bool X] 137) (by ac_rfl)
  clear hs hs1 hs2 hs3 hs4 hs5
  obtain ⟨ta, tc, rfl, _, hrt, _⟩ := hs6.rot5.vec_rd
  obtain ⟨sa, sc, rfl, _, hrs, _⟩ := hs6.rot4.vec_rd
  obtain ⟨wa, wc, rfl, _, hrw, _⟩ := hs6.rot3.vec_rd
  have hrg := hs6.swap.rd
  have lt : Slices vt := (hs6.perm (B := F * bvl vs S * bvl vw W * bvl vg G * vec 22 1 (.slice ta T.length tc) T.length vt * vec 22 1 (.slice sa S.length sc) S.length vs * vec 22 1 (.slice wa W.length wc) W.length vw * vec 22 1 (.slice ga G.length gc) G.length vg * blk bf [.slice ta T.length tc, .slice sa S.length sc, .slice wa W.length wc, .bool A, .int .i64 z, .bool X] 137 * bvl vt T) (by ac_rfl)).bvl_slices
  have ls : Slices vs := (hs6.perm (B := F * bvl vt T * bvl vw W * bvl vg G * vec 22 1 (.slice ta T.length tc) T.length vt * vec 22 1 (.slice sa S.length sc) S.length vs * vec 22 1 (.slice wa W.length wc) W.length vw * vec 22 1 (.slice ga G.length gc) G.length vg * blk bf [.slice ta T.length tc, .slice sa S.length sc, .slice wa W.length wc, .bool A, .int .i64 z, .bool X] 137 * bvl vs S) (by ac_rfl)).bvl_slices
  have lw : Slices vw := (hs6.perm (B := F * bvl vt T * bvl vs S * bvl vg G * vec 22 1 (.slice ta T.length tc) T.length vt * vec 22 1 (.slice sa S.length sc) S.length vs * vec 22 1 (.slice wa W.length wc) W.length vw * vec 22 1 (.slice ga G.length gc) G.length vg * blk bf [.slice ta T.length tc, .slice sa S.length sc, .slice wa W.length wc, .bool A, .int .i64 z, .bool X] 137 * bvl vw W) (by ac_rfl)).bvl_slices
  have lg' : Slices vg := (hs6.perm (B := F * bvl vt T * bvl vs S * bvl vw W * vec 22 1 (.slice ta T.length tc) T.length vt * vec 22 1 (.slice sa S.length sc) S.length vs * vec 22 1 (.slice wa W.length wc) W.length vw * vec 22 1 (.slice ga G.length gc) G.length vg * blk bf [.slice ta T.length tc, .slice sa S.length sc, .slice wa W.length wc, .bool A, .int .i64 z, .bool X] 137 * bvl vg G) (by ac_rfl)).bvl_slices
  have HG := Hid.mk' hG
  have HT := Hid.mk' hvt
  have HS := Hid.mk' hvs
  have HW := Hid.mk' hvw
  have HV := Hid.mk' hvg
  have HLT := Hid.mk' lt
  have HLS := Hid.mk' ls
  have HLW := Hid.mk' lw
  have HLG := Hid.mk' lg'
  have HRT := Hid.mk' hrt
  have HRS := Hid.mk' hrs
  have HRG := Hid.mk' hrg
  have HM := Hid.mk' hm
  have HB1 := Hid.mk' (show ∀ k, Calls Tryd.prog 73 #[.slice ta T.length tc, .slice sa S.length sc] (w.drewN k) (Ret fun v w' => Sat (w.drewN k) w' (vec 22 1 v (T.length + S.length) (vt ++ vs))) from fun k => by
    have := law13_behind vt vs ta sa tc sc (hrt.drewN (k := k)) (hrs.drewN (k := k)) lt ls (by omega)
    rw [hvt, hvs] at this
    exact this)
  have k0 := hs6.cell (i := 0) (v := .slice ta T.length tc) rfl
  have k1 := hs6.cell (i := 1) (v := .slice sa S.length sc) rfl
  have k2 := hs6.cell (i := 2) (v := .slice wa W.length wc) rfl
  clear hG hvt hvs hvw hvg lt ls lw lg' hrt hrs hrw hrg hm
  go_enter Tryd.func78, Tryd.ntmps78
  go_wp2_with fail
  go_region_held3 (fun wr => wr.cell? ⟨bf, 0, none⟩ = some (.slice ta T.length tc) ∧ wr.cell? ⟨bf, 1, none⟩ = some (.slice sa S.length sc)) (first | exact ⟨k0, k1⟩ | exact ⟨hs7.swap.cell rfl, hs7.swap.cell rfl⟩)
    ((go_at_call 73; go_loud (refine (HB1.out _).mono ?_); rintro e w1 ⟨v, rfl, hx⟩; have hs7 := (hs6.drewN _).glue hx; obtain ⟨ua, uc, rfl, _, hru, _⟩ := hs7.vec_rd))
  clear hx hs6 k0 k1 k2 HB1
  have hru2 : RdL w1 ua (T ++ S) := by
    have h := (hs7.perm (B := F * bvl vw W * bvl vg G * vec 22 1 (.slice ta T.length tc) T.length vt * vec 22 1 (.slice sa S.length sc) S.length vs * vec 22 1 (.slice wa W.length wc) W.length vw * vec 22 1 (.slice ga G.length gc) G.length vg * blk bf [.slice ta T.length tc, .slice sa S.length sc, .slice wa W.length wc, .bool A, .int .i64 z, .bool X] 137 * bvl (vt ++ vs) (T ++ S) * vec 22 1 (.slice ua (T.length + S.length) uc) (T ++ S).length (vt ++ vs)) (by rw [bvl_append HT.out, List.length_append]; ac_rfl))
    exact (vecs_of_parts h).rdl
  have hrg2 : RdL w1 ga G := by
    have h := (hs7.perm (B := F * bvl vt T * bvl vs S * bvl vw W * vec 22 1 (.slice ta T.length tc) T.length vt * vec 22 1 (.slice sa S.length sc) S.length vs * vec 22 1 (.slice wa W.length wc) W.length vw * blk bf [.slice ta T.length tc, .slice sa S.length sc, .slice wa W.length wc, .bool A, .int .i64 z, .bool X] 137 * vec 22 1 (.slice ua (T.length + S.length) uc) (T.length + S.length) (vt ++ vs) * bvl vg G * vec 22 1 (.slice ga G.length gc) G.length vg) (by ac_rfl))
    exact (vecs_of_parts h).rdl
  obtain ⟨q1, hq1⟩ : ∃ q1, decide (G = T ++ S) = q1 := ⟨_, rfl⟩
  obtain ⟨q2, hq2⟩ : ∃ q2, decide (G = (T ++ S) ++ W) = q2 := ⟨_, rfl⟩
  have hor : (q1 || q2) = true := by rcases HG.out with h | h
                                     · rw [← hq1, decide_eq_true h]; rfl
                                     · rw [← hq2, decide_eq_true h]; simp
  have HQ1 := Hid.mk' hq1
  have HQ2 := Hid.mk' hq2
  have HOR := Hid.mk' hor
  clear hq1 hq2 hor
  have HTS := Hid.mk' (show (T ++ S).length = T.length + S.length from List.length_append)
  have HM1 := Hid.mk' (show Calls Tryd.prog 40 #[.slice ga G.length gc, .slice ua (T.length + S.length) uc] w1 (Drew (.bool q1) w1) from by
    have := law13_same G (T ++ S) ga ua gc uc hrg2 hru2 (by omega) (by rw [HTS.out]; omega) HM.out
    rw [HTS.out, HQ1.out] at this
    exact this)
  clear hru hru2 hrg2
  go_wp2_with fail
  refine HM1.out.mono ?_
  rintro e w2 ⟨rfl, m2, rfl⟩
  clear HM1
  have hs8 := hs7.drewN m2
  generalize w1.drewN m2 = w2 at hs8 ⊢
  clear hs7
  have k2 := hs8.swap.cell (i := 2) (v := .slice wa W.length wc) rfl
  have hruu := hs8.rd
  have hrw := hs8.rot3.swap
  have HB2 := Hid.mk' (show Calls Tryd.prog 73 #[.slice ua (T.length + S.length) uc, .slice wa W.length wc] w2 (Ret fun v w' => Sat w2 w' (vec 22 1 v (T.length + S.length + W.length) (vt ++ vs ++ vw))) from by
    have hw2 := (hs8.perm (B := F * bvl vt T * bvl vs S * bvl vw W * bvl vg G * vec 22 1 (.slice ta T.length tc) T.length vt * vec 22 1 (.slice sa S.length sc) S.length vs * vec 22 1 (.slice ga G.length gc) G.length vg * blk bf [.slice ta T.length tc, .slice sa S.length sc, .slice wa W.length wc, .bool A, .int .i64 z, .bool X] 137 * vec 22 1 (.slice ua (T.length + S.length) uc) (T.length + S.length) (vt ++ vs) * vec 22 1 (.slice wa W.length wc) W.length vw) (by ac_rfl)).rd
    have := law13_behind (vt ++ vs) vw ua wa uc wc hruu hw2 (HLT.out.append HLS.out) HLW.out (by rw [List.length_append, HT.out, HS.out, HW.out]; omega)
    rw [List.length_append, HT.out, HS.out, HW.out] at this
    exact this)
  clear hruu hrw
  go_wp2_with fail
  refine HB2.out.mono ?_
  rintro e w3 ⟨v, rfl, hx⟩
  clear HB2
  have hs9 := hs8.glue hx
  obtain ⟨va, vc, rfl, _, _, _⟩ := hs9.vec_rd
  clear hx hs8
  have HTSW := Hid.mk' (show ((T ++ S) ++ W).length = T.length + S.length + W.length by rw [List.length_append, List.length_append])
  have HM2 := Hid.mk' (show Calls Tryd.prog 40 #[.slice ga G.length gc, .slice va (T.length + S.length + W.length) vc] w3 (Drew (.bool q2) w3) from by
    have h1 := (hs9.perm (B := F * bvl vg G * vec 22 1 (.slice ta T.length tc) T.length vt * vec 22 1 (.slice sa S.length sc) S.length vs * vec 22 1 (.slice wa W.length wc) W.length vw * vec 22 1 (.slice ga G.length gc) G.length vg * blk bf [.slice ta T.length tc, .slice sa S.length sc, .slice wa W.length wc, .bool A, .int .i64 z, .bool X] 137 * vec 22 1 (.slice ua (T.length + S.length) uc) (T.length + S.length) (vt ++ vs) * bvl ((vt ++ vs) ++ vw) ((T ++ S) ++ W) * vec 22 1 (.slice va (T.length + S.length + W.length) vc) ((T ++ S) ++ W).length (vt ++ vs ++ vw)) (by rw [bvl_append (by rw [List.length_append, List.length_append, HT.out, HS.out]), bvl_append HT.out, HTSW.out]; ac_rfl))
    have h2 := (hs9.perm (B := F * bvl vt T * bvl vs S * bvl vw W * vec 22 1 (.slice ta T.length tc) T.length vt * vec 22 1 (.slice sa S.length sc) S.length vs * vec 22 1 (.slice wa W.length wc) W.length vw * blk bf [.slice ta T.length tc, .slice sa S.length sc, .slice wa W.length wc, .bool A, .int .i64 z, .bool X] 137 * vec 22 1 (.slice ua (T.length + S.length) uc) (T.length + S.length) (vt ++ vs) * vec 22 1 (.slice va (T.length + S.length + W.length) vc) (T.length + S.length + W.length) (vt ++ vs ++ vw) * bvl vg G * vec 22 1 (.slice ga G.length gc) G.length vg) (by ac_rfl))
    have := law13_same G ((T ++ S) ++ W) ga va gc vc (vecs_of_parts h2).rdl (vecs_of_parts h1).rdl (by omega) (by rw [HTSW.out]; omega) HM.out
    rw [HTSW.out, HQ2.out] at this
    exact this)
  go_wp2_with fail
  refine HM2.out.mono ?_
  rintro e w4 ⟨rfl, m4, rfl⟩
  clear HM2
  have hs10 := (hs9.drewN m4).perm (B := F * bvl vg G * vec 22 1 (.slice ga G.length gc) G.length vg * blk bf [.slice ta T.length tc, .slice sa S.length sc, .slice wa W.length wc, .bool A, .int .i64 z, .bool X] 137 * (bvl vt T * bvl vs S * bvl vw W * vec 22 1 (.slice ta T.length tc) T.length vt * vec 22 1 (.slice sa S.length sc) S.length vs * vec 22 1 (.slice wa W.length wc) W.length vw * vec 22 1 (.slice ua (T.length + S.length) uc) (T.length + S.length) (vt ++ vs) * vec 22 1 (.slice va (T.length + S.length + W.length) vc) (T.length + S.length + W.length) (vt ++ vs ++ vw))) (by ac_rfl) |>.drop
  generalize w3.drewN m4 = w4 at hs10 ⊢
  clear hs9
  have HB3 := Hid.mk' (show Calls Tryd.prog 73 #[.slice ga G.length gc, .slice none 0 0] w4 (Ret fun v w' => Sat w4 w' (vec 22 1 v G.length vg)) from by
    have := law13_behind vg [] ga none gc 0 hs10.swap.rd (Rd.nil _ _) HLG.out Slices.nil (by rw [HV.out]; simp; omega)
    rw [List.append_nil, HV.out] at this
    exact this)
  go_wp2_with fail
  refine HB3.out.mono ?_
  rintro e w5 ⟨v, rfl, hx⟩
  clear HB3
  have hs11 := hs10.glue hx
  obtain ⟨xa, xc, rfl, _, _, _⟩ := hs11.vec_rd
  clear hx hs10
  have q0 := hs11.swap.cell (i := 0) (v := .slice ta T.length tc) rfl
  have q1 := hs11.swap.cell (i := 1) (v := .slice sa S.length sc) rfl
  have q2 := hs11.swap.cell (i := 2) (v := .slice wa W.length wc) rfl
  have f0 := hs11.swap.free 0
  have f1 := hs11.swap.free 1
  have f2 := hs11.swap.free 2
  have hs12 := ((hs11.swap.store 0 (.slice xa G.length xc)).store 1 (.slice none 0 0)).store 2 (.slice none 0 0)
  simp only [List.set_cons_succ, List.set_cons_zero] at hs12
  have HRG2 := Hid.mk' (vecs_of_parts (hs12.perm (B := F * vec 22 1 (.slice xa G.length xc) G.length vg * blk bf [.slice xa G.length xc, .slice none 0 0, .slice none 0 0, .bool A, .int .i64 z, .bool X] 137 * bvl vg G * vec 22 1 (.slice ga G.length gc) G.length vg) (by ac_rfl))).rdl
  have HS12 := Hid.mk' hs12
  clear hs11 hs12
  go_wp2_with fail
  refine (law13_takes G ga gc HRG2.out hz).mono ?_
  rintro e w6 ⟨rfl, m6, rfl⟩
  have hs13 := HS12.out.drewN m6
  clear HS12 HRG2 q0 q1 q2 f0 f1 f2
  generalize (((w5.setCell ⟨bf, 0, none⟩ (.slice xa G.length xc)).setCell ⟨bf, 1, none⟩ (.slice none 0 0)).setCell ⟨bf, 2, none⟩ (.slice none 0 0)).drewN m6 = w7 at hs13 ⊢
  have q4 := hs13.cell (i := 4) (v := .int .i64 z) rfl
  have q5 := hs13.cell (i := 5) (v := .bool X) rfl
  have f4 := hs13.free 4
  have f5 := hs13.free 5
  go_wp2_with fail
  all_goals
    go_ret
    refine Ret.mk ⟨?_, ?_⟩
    · have := HOR.out
      first
        | rfl
        | (simp_all)
    · have h14 := (hs13.store 4 (.int .i64 (size G : Nat))).store 5 (.bool false)
      simp only [List.set_cons_succ, List.set_cons_zero] at h14
      have h15 := vecs_of_parts (h14.perm (B := F * blk bf [.slice xa G.length xc, .slice none 0 0, .slice none 0 0, .bool A, .int .i64 (size G : Nat), .bool false] 137 * vec 22 1 (.slice ga G.length gc) G.length vg * bvl vg G * vec 22 1 (.slice xa G.length xc) G.length vg) (by ac_rfl))
      refine Sat.fate_shut (tv := .slice xa G.length xc) (sv := .slice none 0 0) (wv := .slice none 0 0) ?_
      exact ((h15.vecs_nil.vecs_nil).perm (B := F * vecs (.slice xa G.length xc) G * vecs (.slice none 0 0) [] * vecs (.slice none 0 0) [] * blk bf [.slice xa G.length xc, .slice none 0 0, .slice none 0 0, .bool A, .int .i64 (size G : Nat), .bool false] 137 * vec 22 1 (.slice ga G.length gc) G.length vg) (by ac_rfl)).drop
end Go.Proofs.YtjhlelcopofkkaaDoor
