/- The walk of the law ReplicaNew. -/
import Derived.Test.YtjhlelcopofkkaaDoorRepD
namespace Go.Proofs.YtjhlelcopofkkaaDoor
open Go.RowKit

theorem parcels_at {w : World} (hT : CrcTab w) (data : List UInt8) (ao : Option Addr) (c : Nat) (hr : Rd w ao (bvs data)) (hdc : data.length ≤ c) (hl : data.length ≤ 1048576) (k0 most : Nat) (hk : k0 ≤ data.length) (h1 : 1 ≤ most) (h2 : most ≤ 8192) {PL : List Pc} (hP : parcels data most k0 = PL) :
    Calls Tryd.prog 32 #[.slice ao data.length c, .int .i64 k0, .int .i64 most] w (Ret fun v w' => ∃ (la : Option Addr) (lc : Nat) (vs : List Value), v = .tuple #[.slice la PL.length lc, .nilIface] ∧ PL.length ≤ lc ∧ vs.length = PL.length ∧ Sat w w' (bvl vs (PL.map Pc.data) * vec 57 3 (.slice la PL.length lc) PL.length (pcs vs PL))) := by
  subst hP
  refine (replica_parcels hT data ao c hr hdc hl k0 most hk h1 h2).mono ?_
  rintro e w' ⟨v, rfl, u, vs, rfl, hvl, hx⟩
  obtain ⟨la, lc, rfl, h3, _, _⟩ := hx.vec_rd
  exact Ret.mk ⟨la, lc, vs, rfl, h3, hvl, hx⟩

theorem pcs_one : ∀ {vs : List Value} {ps : List Pc}, Slices vs → ∀ u ∈ pcs vs ps, u.oneCell' = true
  | [], _, _, u, hu => by cases hu
  | v :: vs, [], _, u, hu => by cases hu
  | v :: vs, p :: ps, h, u, hu => by
    rcases List.mem_append.1 hu with hu | hu
    · obtain ⟨a, n, c, rfl⟩ := h v (List.mem_cons_self ..)
      simp only [pcells, List.mem_cons, List.not_mem_nil, or_false] at hu
      rcases hu with rfl | rfl | rfl <;> rfl
    · exact pcs_one (fun x hx => h x (List.mem_cons_of_mem _ hx)) u hu
set_option maxRecDepth 20000 in
set_option maxHeartbeats 51200000 in
theorem walk_replicaNew {w : World} (hT : CrcTab w) (data : List UInt8) (da : Option Addr) (dc : Nat) (hr : Rd w da (bvs data)) (hl : data.length ≤ 1048576) (zf zm : Int) :
    Calls Tryd.prog 5 #[.agg #[.slice da data.length dc, .int .i64 zf, .int .i64 zm]] w (Ret fun v w' => v = .bool true ∧ Sat w w' 1) := by
  have HT := Hid.mk' hT
  have HR := Hid.mk' hr
  have hs0 := (Sat.refl w).new #[.slice da data.length dc, .int .i64 zf, .int .i64 zm] 47
  generalize hbx : w.heap.size = bx at hs0
  obtain ⟨k0, hk0, hk1⟩ : ∃ k0 : Nat, pick zf ((data.length : Int) + 1) = (k0 : Int) ∧ k0 ≤ data.length := by
    have h1 := pick_nonneg zf ((data.length : Int) + 1)
    have h2 := pick_lt zf ((data.length : Int) + 1) (by omega)
    exact ⟨(pick zf ((data.length : Int) + 1)).toNat, by omega, by omega⟩
  obtain ⟨m0, hm0, hm1⟩ : ∃ m0 : Nat, pick zm 8192 = (m0 : Int) ∧ m0 < 8192 := by
    have h1 := pick_nonneg zm 8192
    have h2 := pick_lt zm 8192 (by decide)
    exact ⟨(pick zm 8192).toNat, by omega, by omega⟩
  have HK0 := Hid.mk' hk0
  have HM0 := Hid.mk' hm0
  clear hT hr hk0 hm0
  go_enter Tryd.func5, Tryd.ntmps5
  go_wp2_with fail
  refine (kit_pick zf ((data.length : Int) + 1) (by omega) (by omega)).mono ?_
  rintro e w1 ⟨rfl, rfl⟩
  rw [HK0.out]
  go_wp2_with fail
  refine (kit_pick zm 8192 (by decide) (by decide)).mono ?_
  rintro e w1 ⟨rfl, rfl⟩
  rw [HM0.out]
  go_wp2_with fail
  refine (kit_copy data da dc (HR.out.of0 hs0) (by omega)).mono ?_
  rintro e w1 ⟨v, rfl, hx⟩
  have hs1 := (hs0.unone').glue hx
  obtain ⟨ga, gc, rfl, hgc, _, _⟩ := hs1.vec_rd
  clear hx hs0
  obtain ⟨most, hmo⟩ : ∃ most : Nat, 1 + m0 = most := ⟨_, rfl⟩
  have hmo1 : 1 ≤ most := by omega
  have hmo2 : most ≤ 8192 := by omega
  have hmoz : (1 : Int) + (m0 : Int) = (most : Int) := by omega
  obtain ⟨PL, hPL⟩ : ∃ PL, parcels data most k0 = PL := ⟨_, rfl⟩
  obtain ⟨PO, hPO⟩ : ∃ PO, parcels data most 0 = PO := ⟨_, rfl⟩
  have hPLn := parcels_len (data := data) hmo1 hk1
  rw [hPL] at hPLn
  have hPOn := parcels_len (data := data) (k := 0) hmo1 (by omega)
  rw [hPO] at hPOn
  have hPLl := hPLn.1
  have hPOl := hPOn.1
  have HPL := Hid.mk' hPL
  have HPO := Hid.mk' hPO
  have HPE := Hid.mk' hPLn.2
  have HML := Hid.mk' (fun p (hp : p ∈ PL) => parcels_mem hmo1 hmo2 k0 p (by rw [hPL]; exact hp))
  have HMO := Hid.mk' (fun p (hp : p ∈ PO) => parcels_mem hmo1 hmo2 0 p (by rw [hPO]; exact hp))
  clear hPL hPO hPLn hPOn
  obtain ⟨bq, hq1, hq2⟩ : ∃ bq, ((PL.length : Int) == 0) = bq ∧ ((k0 : Int) == (data.length : Int)) = bq := by
    by_cases h : k0 = data.length
    · have h2 := HPE.out.2 h
      exact ⟨true, by rw [h2]; rfl, by rw [h]; simp⟩
    · have h2 : PL.length ≠ 0 := fun e => h (HPE.out.1 e)
      exact ⟨false, beq_eq_false_iff_ne.2 (by omega), beq_eq_false_iff_ne.2 (by omega)⟩
  have hbb : (bq != bq) = false := by cases bq <;> rfl
  go_wp2_with fail
  refine (parcels_at (HT.out.mono hs1.below) data ga gc hs1.rd hgc hl k0 most hk1 hmo1 hmo2 HPL.out).mono ?_
  rintro e w2 ⟨v, rfl, la, lc, vl, rfl, hlc, hvl, hx⟩
  have hs2 := (hs1.glue hx).perm (B := blk bx [.slice da data.length dc, .int .i64 zf, .int .i64 zm] 47 * vec 5 1 (.slice ga data.length gc) data.length (bvs data) * bvl vl (PL.map Pc.data) * vec 57 3 (.slice la PL.length lc) PL.length (pcs vl PL)) (by ac_rfl)
  have HVL := Hid.mk' hvl
  clear hx hs1 hvl
  go_wp2_with fail
  refine (law27_twins PL la lc hs2.rdp (by omega) (fun p hp => by have := (HML.out p hp).2; omega)).mono ?_
  rintro e w3 ⟨v, rfl, vw, hvw, hx⟩
  obtain ⟨wa, wc, rfl, _, _, _⟩ := hx.vec_rd
  have hs3 := (hs2.glue hx).perm (B := blk bx [.slice da data.length dc, .int .i64 zf, .int .i64 zm] 47 * vec 5 1 (.slice ga data.length gc) data.length (bvs data) * bvl vl (PL.map Pc.data) * vec 57 3 (.slice la PL.length lc) PL.length (pcs vl PL) * bvl vw (PL.map Pc.data) * vec 57 3 (.slice wa PL.length wc) PL.length (pcs vw PL)) (by ac_rfl)
  clear hx hs2
  go_wp2_with fail
  refine (parcels_at (HT.out.mono hs3.below) data ga gc (hs3.perm (B := blk bx [.slice da data.length dc, .int .i64 zf, .int .i64 zm] 47 * bvl vl (PL.map Pc.data) * vec 57 3 (.slice la PL.length lc) PL.length (pcs vl PL) * bvl vw (PL.map Pc.data) * vec 57 3 (.slice wa PL.length wc) PL.length (pcs vw PL) * vec 5 1 (.slice ga data.length gc) data.length (bvs data)) (by ac_rfl)).rd hgc hl 0 most (by omega) hmo1 hmo2 HPO.out).mono ?_
  rintro e w4 ⟨v, rfl, oa, oc, vo, rfl, hoc, hvo, hx⟩
  have hs4 := (hs3.glue hx).perm (B := blk bx [.slice da data.length dc, .int .i64 zf, .int .i64 zm] 47 * vec 5 1 (.slice ga data.length gc) data.length (bvs data) * bvl vl (PL.map Pc.data) * vec 57 3 (.slice la PL.length lc) PL.length (pcs vl PL) * bvl vw (PL.map Pc.data) * vec 57 3 (.slice wa PL.length wc) PL.length (pcs vw PL) * bvl vo (PO.map Pc.data) * vec 57 3 (.slice oa PO.length oc) PO.length (pcs vo PO)) (by ac_rfl)
  have HVO := Hid.mk' hvo
  clear hx hs3 hvo
  go_wp2_with fail
  refine (parcels_at (HT.out.mono hs4.below) data ga gc (hs4.perm (B := blk bx [.slice da data.length dc, .int .i64 zf, .int .i64 zm] 47 * bvl vl (PL.map Pc.data) * vec 57 3 (.slice la PL.length lc) PL.length (pcs vl PL) * bvl vw (PL.map Pc.data) * vec 57 3 (.slice wa PL.length wc) PL.length (pcs vw PL) * bvl vo (PO.map Pc.data) * vec 57 3 (.slice oa PO.length oc) PO.length (pcs vo PO) * vec 5 1 (.slice ga data.length gc) data.length (bvs data)) (by ac_rfl)).rd hgc hl k0 most hk1 hmo1 hmo2 HPL.out).mono ?_
  rintro e w5 ⟨v, rfl, aa, ac, va, rfl, hac, hva, hx⟩
  have hs5 := (hs4.glue hx).perm (B := blk bx [.slice da data.length dc, .int .i64 zf, .int .i64 zm] 47 * vec 5 1 (.slice ga data.length gc) data.length (bvs data) * bvl vl (PL.map Pc.data) * vec 57 3 (.slice la PL.length lc) PL.length (pcs vl PL) * bvl vw (PL.map Pc.data) * vec 57 3 (.slice wa PL.length wc) PL.length (pcs vw PL) * bvl vo (PO.map Pc.data) * vec 57 3 (.slice oa PO.length oc) PO.length (pcs vo PO) * bvl va (PL.map Pc.data) * vec 57 3 (.slice aa PL.length ac) PL.length (pcs va PL)) (by ac_rfl)
  have HVA := Hid.mk' hva
  clear hx hs4 hva
  have rw5 : RdP w5 wa PL := (hs5.perm (B := blk bx [.slice da data.length dc, .int .i64 zf, .int .i64 zm] 47 * vec 5 1 (.slice ga data.length gc) data.length (bvs data) * bvl vl (PL.map Pc.data) * vec 57 3 (.slice la PL.length lc) PL.length (pcs vl PL) * bvl vo (PO.map Pc.data) * vec 57 3 (.slice oa PO.length oc) PO.length (pcs vo PO) * bvl va (PL.map Pc.data) * vec 57 3 (.slice aa PL.length ac) PL.length (pcs va PL) * bvl vw (PL.map Pc.data) * vec 57 3 (.slice wa PL.length wc) PL.length (pcs vw PL)) (by ac_rfl)).rdp
  have rl5 : RdP w5 la PL := (hs5.perm (B := blk bx [.slice da data.length dc, .int .i64 zf, .int .i64 zm] 47 * vec 5 1 (.slice ga data.length gc) data.length (bvs data) * bvl vw (PL.map Pc.data) * vec 57 3 (.slice wa PL.length wc) PL.length (pcs vw PL) * bvl vo (PO.map Pc.data) * vec 57 3 (.slice oa PO.length oc) PO.length (pcs vo PO) * bvl va (PL.map Pc.data) * vec 57 3 (.slice aa PL.length ac) PL.length (pcs va PL) * bvl vl (PL.map Pc.data) * vec 57 3 (.slice la PL.length lc) PL.length (pcs vl PL)) (by ac_rfl)).rdp
  have ra5 : RdP w5 aa PL := hs5.rdp
  have HMM := Hid.mk' (fun p (hp : p ∈ PL) => show p.data.length ≤ 16777216 from by have := (HML.out p hp).2; omega)
  have HRW5 := Hid.mk' rw5
  have HRA5 := Hid.mk' ra5
  go_wp2_with fail
  refine (ref0_sameParcels PL la wa lc wc rl5 rw5 (by omega) HMM.out).mono ?_
  rintro e w6 ⟨v, rfl, rfl, hx⟩
  have hs6 := hs5.then1 hx
  clear rw5 rl5 ra5
  go_wp2_with fail
  refine (ref0_sameParcels PL aa wa ac wc (HRA5.out.mono hx.below) (HRW5.out.mono hx.below) (by omega) HMM.out).mono ?_
  rintro e w7 ⟨v, rfl, rfl, hy⟩
  have hs7 := hs6.then1 hy
  clear hs5 hs6 hx hy HRW5 HRA5
  have hs8 := hs7.vec_nil 57 3
  have sl := (hs7.perm (B := blk bx [.slice da data.length dc, .int .i64 zf, .int .i64 zm] 47 * vec 5 1 (.slice ga data.length gc) data.length (bvs data) * vec 57 3 (.slice la PL.length lc) PL.length (pcs vl PL) * bvl vw (PL.map Pc.data) * vec 57 3 (.slice wa PL.length wc) PL.length (pcs vw PL) * bvl vo (PO.map Pc.data) * vec 57 3 (.slice oa PO.length oc) PO.length (pcs vo PO) * bvl va (PL.map Pc.data) * vec 57 3 (.slice aa PL.length ac) PL.length (pcs va PL) * bvl vl (PL.map Pc.data)) (by ac_rfl)).bvl_slices
  have so := (hs7.perm (B := blk bx [.slice da data.length dc, .int .i64 zf, .int .i64 zm] 47 * vec 5 1 (.slice ga data.length gc) data.length (bvs data) * vec 57 3 (.slice la PL.length lc) PL.length (pcs vl PL) * bvl vw (PL.map Pc.data) * vec 57 3 (.slice wa PL.length wc) PL.length (pcs vw PL) * bvl vl (PL.map Pc.data) * vec 57 3 (.slice oa PO.length oc) PO.length (pcs vo PO) * bvl va (PL.map Pc.data) * vec 57 3 (.slice aa PL.length ac) PL.length (pcs va PL) * bvl vo (PO.map Pc.data)) (by ac_rfl)).bvl_slices
  have sa := (hs7.perm (B := blk bx [.slice da data.length dc, .int .i64 zf, .int .i64 zm] 47 * vec 5 1 (.slice ga data.length gc) data.length (bvs data) * vec 57 3 (.slice la PL.length lc) PL.length (pcs vl PL) * bvl vw (PL.map Pc.data) * vec 57 3 (.slice wa PL.length wc) PL.length (pcs vw PL) * bvl vl (PL.map Pc.data) * vec 57 3 (.slice oa PO.length oc) PO.length (pcs vo PO) * bvl vo (PO.map Pc.data) * vec 57 3 (.slice aa PL.length ac) PL.length (pcs va PL) * bvl va (PL.map Pc.data)) (by ac_rfl)).bvl_slices
  obtain ⟨_, _, e1, _, _, nl⟩ := (hs7.perm (B := blk bx [.slice da data.length dc, .int .i64 zf, .int .i64 zm] 47 * vec 5 1 (.slice ga data.length gc) data.length (bvs data) * bvl vl (PL.map Pc.data) * bvl vw (PL.map Pc.data) * vec 57 3 (.slice wa PL.length wc) PL.length (pcs vw PL) * bvl vo (PO.map Pc.data) * vec 57 3 (.slice oa PO.length oc) PO.length (pcs vo PO) * bvl va (PL.map Pc.data) * vec 57 3 (.slice aa PL.length ac) PL.length (pcs va PL) * vec 57 3 (.slice la PL.length lc) PL.length (pcs vl PL)) (by ac_rfl)).vec_rd
  cases e1
  obtain ⟨_, _, e1, _, _, no⟩ := (hs7.perm (B := blk bx [.slice da data.length dc, .int .i64 zf, .int .i64 zm] 47 * vec 5 1 (.slice ga data.length gc) data.length (bvs data) * bvl vl (PL.map Pc.data) * bvl vw (PL.map Pc.data) * vec 57 3 (.slice wa PL.length wc) PL.length (pcs vw PL) * bvl vo (PO.map Pc.data) * vec 57 3 (.slice la PL.length lc) PL.length (pcs vl PL) * bvl va (PL.map Pc.data) * vec 57 3 (.slice aa PL.length ac) PL.length (pcs va PL) * vec 57 3 (.slice oa PO.length oc) PO.length (pcs vo PO)) (by ac_rfl)).vec_rd
  cases e1
  obtain ⟨_, _, e1, _, _, na⟩ := hs7.vec_rd
  cases e1
  have HSL := Hid.mk' sl
  have HSO := Hid.mk' so
  have HSA := Hid.mk' sa
  have tok1 : True := trivial
  clear hs7 sl so sa
  go_wp2_with (first
    | (at_builtin; have _t := tok1; go_loud (refine sl_append_any rfl _ _ 48 rfl 57 (.agg #[.int .i64 0, .slice none 0 0, .int .u32 0]) 3 40 Tryd.underlying48 info_pc rfl (by decide) _ 0 [] rfl hs8 la PL.length lc (pcs vl PL) rfl nl (pcs_length HVL.out) (hs8.perm (B := blk bx [.slice da data.length dc, .int .i64 zf, .int .i64 zm] 47 * vec 5 1 (.slice ga data.length gc) data.length (bvs data) * bvl vl (PL.map Pc.data) * bvl vw (PL.map Pc.data) * vec 57 3 (.slice wa PL.length wc) PL.length (pcs vw PL) * bvl vo (PO.map Pc.data) * vec 57 3 (.slice oa PO.length oc) PO.length (pcs vo PO) * bvl va (PL.map Pc.data) * vec 57 3 (.slice aa PL.length ac) PL.length (pcs va PL) * vec 57 3 (.slice none 0 0) 0 [] * vec 57 3 (.slice la PL.length lc) PL.length (pcs vl PL)) (by ac_rfl)).rd (pcs_one HSL.out) (by simp only [maxLen]; omega) (by omega) ?_); intro v1 w8 hs9; clear tok1 _t hs8; have tok2 : True := trivial)
    | (at_builtin; have _t := tok2; go_loud (refine sl_append_any rfl _ _ 48 rfl 57 (.agg #[.int .i64 0, .slice none 0 0, .int .u32 0]) 3 40 Tryd.underlying48 info_pc rfl (by decide) _ (0 + PL.length) _ rfl hs9 oa PO.length oc (pcs vo PO) rfl no (pcs_length HVO.out) (hs9.perm (B := blk bx [.slice da data.length dc, .int .i64 zf, .int .i64 zm] 47 * vec 5 1 (.slice ga data.length gc) data.length (bvs data) * bvl vl (PL.map Pc.data) * bvl vw (PL.map Pc.data) * vec 57 3 (.slice wa PL.length wc) PL.length (pcs vw PL) * bvl vo (PO.map Pc.data) * vec 57 3 (.slice la PL.length lc) PL.length (pcs vl PL) * bvl va (PL.map Pc.data) * vec 57 3 (.slice aa PL.length ac) PL.length (pcs va PL) * vec 57 3 v1 (0 + PL.length) ([] ++ pcs vl PL) * vec 57 3 (.slice oa PO.length oc) PO.length (pcs vo PO)) (by ac_rfl)).rd (pcs_one HSO.out) (by simp only [maxLen]; omega) (by omega) ?_); intro v2 w9 hs10; clear tok2 _t hs9; have tok3 : True := trivial)
    | (at_builtin; have _t := tok3; go_loud (refine sl_append_any rfl _ _ 48 rfl 57 (.agg #[.int .i64 0, .slice none 0 0, .int .u32 0]) 3 40 Tryd.underlying48 info_pc rfl (by decide) _ (0 + PL.length + PO.length) _ rfl hs10 aa PL.length ac (pcs va PL) rfl na (pcs_length HVA.out) (hs10.perm (B := blk bx [.slice da data.length dc, .int .i64 zf, .int .i64 zm] 47 * vec 5 1 (.slice ga data.length gc) data.length (bvs data) * bvl vl (PL.map Pc.data) * bvl vw (PL.map Pc.data) * vec 57 3 (.slice wa PL.length wc) PL.length (pcs vw PL) * bvl vo (PO.map Pc.data) * vec 57 3 (.slice la PL.length lc) PL.length (pcs vl PL) * bvl va (PL.map Pc.data) * vec 57 3 (.slice oa PO.length oc) PO.length (pcs vo PO) * vec 57 3 v2 (0 + PL.length + PO.length) ([] ++ pcs vl PL ++ pcs vo PO) * vec 57 3 (.slice aa PL.length ac) PL.length (pcs va PL)) (by ac_rfl)).rd (pcs_one HSA.out) (by simp only [maxLen]; omega) (by omega) ?_); intro v3 w10 hs11; clear tok3 _t hs10; obtain ⟨ta, tc, rfl, _, _, _⟩ := hs11.vec_rd))
  have hs12 : Sat w w10 ((blk bx [.slice da data.length dc, .int .i64 zf, .int .i64 zm] 47 * vec 5 1 (.slice ga data.length gc) data.length (bvs data) * vec 57 3 (.slice la PL.length lc) PL.length (pcs vl PL) * bvl vw (PL.map Pc.data) * vec 57 3 (.slice wa PL.length wc) PL.length (pcs vw PL)) * vec 57 3 (.slice ta (0 + PL.length + PO.length + PL.length) tc) (0 + PL.length + PO.length + PL.length) (pcs ((vl ++ vo) ++ va) ((PL ++ PO) ++ PL)) * bvl ((vl ++ vo) ++ va) (((PL ++ PO) ++ PL).map Pc.data)) := by
    rw [pcs_append (by rw [List.length_append, List.length_append, HVL.out, HVO.out]), pcs_append HVL.out, List.map_append, List.map_append, bvl_append (by rw [List.length_append, List.length_append, List.length_map, List.length_map, HVL.out, HVO.out]), bvl_append (by rw [List.length_map, HVL.out])]
    exact (hs11.perm (B := ((blk bx [.slice da data.length dc, .int .i64 zf, .int .i64 zm] 47 * vec 5 1 (.slice ga data.length gc) data.length (bvs data) * vec 57 3 (.slice la PL.length lc) PL.length (pcs vl PL) * bvl vw (PL.map Pc.data) * vec 57 3 (.slice wa PL.length wc) PL.length (pcs vw PL)) * vec 57 3 (.slice ta (0 + PL.length + PO.length + PL.length) tc) (0 + PL.length + PO.length + PL.length) ((pcs vl PL ++ pcs vo PO) ++ pcs va PL) * (bvl vl (PL.map Pc.data) * bvl vo (PO.map Pc.data) * bvl va (PL.map Pc.data))) * (vec 57 3 (.slice oa PO.length oc) PO.length (pcs vo PO) * vec 57 3 (.slice aa PL.length ac) PL.length (pcs va PL))) (by rw [List.nil_append]; ac_rfl)).drop
  rw [Nat.zero_add] at hs12
  obtain ⟨N, hN⟩ : ∃ N, PL.length + PO.length + PL.length = N := ⟨_, rfl⟩
  have hPN : ((PL ++ PO) ++ PL).length = N := by rw [← hN]; simp only [List.length_append]
  have hDN : (((PL ++ PO) ++ PL).map Pc.data).length = N := by rw [List.length_map, hPN]
  have hNb : N ≤ 16777216 := by omega
  have hDM : ∀ p ∈ ((PL ++ PO) ++ PL).map Pc.data, 1 ≤ p.length ∧ p.length ≤ 8192 := by
    intro p hp
    obtain ⟨q, hq, rfl⟩ := List.mem_map.1 hp
    simp only [List.mem_append] at hq
    rcases hq with (h | h) | h
    · exact HML.out q h
    · exact HMO.out q h
    · exact HML.out q h
  rw [hN] at hs12 ⊢
  generalize (PL ++ PO) ++ PL = PS at hs12 hPN hDN hDM
  generalize (vl ++ vo) ++ va = V at hs12
  have HPN := Hid.mk' hPN
  have HDN := Hid.mk' hDN
  have HDM := Hid.mk' hDM
  clear hs11 hPN hDN hDM hN nl no na
  go_wp2_with fail
  refine (law27_full HPN.out HDN.out hNb HDM.out hs12).mono ?_
  rintro e w11 ⟨v, rfl, xo, xd, us, rfl, hs13⟩
  clear hs12
  go_wp2_with fail
  refine (law27_stands HPN.out HDN.out hNb HDM.out hs13).mono ?_
  rintro e w12 ⟨rfl, rfl⟩
  have hs14 := hs13.drop.drop.drop
  clear hs13
  have k0 := (hs14.perm (B := vec 5 1 (.slice ga data.length gc) data.length (bvs data) * vec 57 3 (.slice la PL.length lc) PL.length (pcs vl PL) * bvl vw (PL.map Pc.data) * vec 57 3 (.slice wa PL.length wc) PL.length (pcs vw PL) * blk bx [.slice da data.length dc, .int .i64 zf, .int .i64 zm] 47) (by ac_rfl)).cell (i := 0) (v := .slice da data.length dc) rfl
  have HSB := Hid.mk' (same_eq data ga da gc dc (hs14.perm (B := blk bx [.slice da data.length dc, .int .i64 zf, .int .i64 zm] 47 * vec 57 3 (.slice la PL.length lc) PL.length (pcs vl PL) * bvl vw (PL.map Pc.data) * vec 57 3 (.slice wa PL.length wc) PL.length (pcs vw PL) * vec 5 1 (.slice ga data.length gc) data.length (bvs data)) (by ac_rfl)).rd (HR.out.of0 hs14) (by omega))
  go_wp2_with (go_at_call 25; refine HSB.out.mono ?_; rintro e w13 ⟨rfl, m1, rfl⟩)
  have hs15 : Sat w (w11.drewN m1) (blk bx [.slice da data.length dc, .int .i64 zf, .int .i64 zm] 47 * vec 5 1 (.slice ga data.length gc) data.length (bvs data) * bvl vw (PL.map Pc.data) * vec 57 3 (.slice wa PL.length wc) PL.length (pcs vw PL) * vec 57 3 (.slice la PL.length lc) PL.length (pcs vl PL)) := (hs14.drewN m1).perm (by ac_rfl)
  generalize w11.drewN m1 = w14 at hs15 ⊢
  clear hs14 k0 HSB
  have hs16 : Sat w w14 (blk bx [.slice da data.length dc, .int .i64 zf, .int .i64 zm] 47 * vec 5 1 (.slice ga data.length gc) data.length (bvs data) * bvl vw (PL.map Pc.data) * vec 57 3 (.slice wa PL.length wc) PL.length (pcs vw PL) * vec 57 3 (.slice la PL.length lc) PL.length (pcs vl PL)) := hs15
  have HCL := Hid.mk' (show (pcs vl PL).length = PL.length * 3 from pcs_length HVL.out)
  clear hs15
  go_wp2_with fail
  go_loopw [18] (fun i wr => ∃ (k : Nat) (cs : List Value), k ≤ PL.length ∧ i = .int .i64 k ∧ Hid (cs.length = PL.length * 3) ∧ Sat w wr (blk bx [.slice da data.length dc, .int .i64 zf, .int .i64 zm] 47 * vec 5 1 (.slice ga data.length gc) data.length (bvs data) * bvl vw (PL.map Pc.data) * vec 57 3 (.slice wa PL.length wc) PL.length (pcs vw PL) * vec 57 3 (.slice la PL.length lc) PL.length cs)) (fun i _ => PL.length - (intOf i).toNat)
  case atStart => exact ⟨0, _, by omega, rfl, HCL, hs16⟩
  case round =>
    clear hs16 HCL
    obtain ⟨k, cs, hk, rfl, hcl, hS⟩ := hrel
    by_cases hlt : k < PL.length
    · obtain ⟨_, ⟨_, h, _⟩ | ⟨g, cap, sp, e1, c1, c2, c3, hS1⟩⟩ := hS.vec_cases
      · omega
      cases e1
      have hck := hcl.out
      have q0 := hS1.cell (i := k * 3) (v := cs[k * 3]'(by omega)) (by rw [List.getElem?_append_left (by omega)]; exact List.getElem?_eq_getElem _)
      have q1 := hS1.cell (i := k * 3 + 1) (v := cs[k * 3 + 1]'(by omega)) (by rw [List.getElem?_append_left (by omega)]; exact List.getElem?_eq_getElem _)
      have q2 := hS1.cell (i := k * 3 + 2) (v := cs[k * 3 + 2]'(by omega)) (by rw [List.getElem?_append_left (by omega)]; exact List.getElem?_eq_getElem _)
      generalize cs[k * 3]'_ = y0 at q0
      generalize cs[k * 3 + 1]'_ = y1 at q1
      generalize cs[k * 3 + 2]'_ = y2 at q2
      have f0 := hS1.free (k * 3)
      have f1 := hS1.free (k * 3 + 1)
      have f2 := hS1.free (k * 3 + 2)
      have h4 := ((hS1.store (k * 3) (.int .i64 (-1))).store (k * 3 + 1) (.slice none 0 0)).store (k * 3 + 2) (.int .u32 0)
      rw [List.set_append_left _ _ (by omega), List.set_append_left _ _ (by rw [List.length_set]; omega), List.set_append_left _ _ (by rw [List.length_set, List.length_set]; omega)] at h4
      have HS4 := Hid.mk' (Sat.vec_mk h4 (by rw [List.length_set, List.length_set, List.length_set]; exact hck) c1 c2 (by rw [List.length_append, List.length_set, List.length_set, List.length_set, ← List.length_append]; exact c3))
      have HCK := Hid.mk' (show (((cs.set (k * 3) (.int .i64 (-1))).set (k * 3 + 1) (.slice none 0 0)).set (k * 3 + 2) (.int .u32 0)).length = PL.length * 3 by rw [List.length_set, List.length_set, List.length_set]; exact hck)
      clear hck h4 hS hS1 c3
      go_wp2_with fail
      exact ⟨⟨k + 1, _, by omega, rfl, HCK, HS4.out⟩, by simp [intOf]; omega⟩
    · obtain rfl : k = PL.length := by omega
      have hs17 := hS.drop
      clear hS
      go_wp2_with fail
      refine (parcels_at (HT.out.mono hs17.below) data ga gc (hs17.perm (B := blk bx [.slice da data.length dc, .int .i64 zf, .int .i64 zm] 47 * bvl vw (PL.map Pc.data) * vec 57 3 (.slice wa PL.length wc) PL.length (pcs vw PL) * vec 5 1 (.slice ga data.length gc) data.length (bvs data)) (by ac_rfl)).rd hgc hl k0 most hk1 hmo1 hmo2 HPL.out).mono ?_
      rintro e w15 ⟨v, rfl, za, zc, vz, rfl, hzc, hvz, hx⟩
      have hs18 := hs17.glue hx
      have rz : RdP w15 za PL := (hs18.perm (B := blk bx [.slice da data.length dc, .int .i64 zf, .int .i64 zm] 47 * vec 5 1 (.slice ga data.length gc) data.length (bvs data) * bvl vw (PL.map Pc.data) * vec 57 3 (.slice wa PL.length wc) PL.length (pcs vw PL) * bvl vz (PL.map Pc.data) * vec 57 3 (.slice za PL.length zc) PL.length (pcs vz PL)) (by ac_rfl)).rdp
      have rw' : RdP w15 wa PL := (hs18.perm (B := blk bx [.slice da data.length dc, .int .i64 zf, .int .i64 zm] 47 * vec 5 1 (.slice ga data.length gc) data.length (bvs data) * bvl vz (PL.map Pc.data) * vec 57 3 (.slice za PL.length zc) PL.length (pcs vz PL) * bvl vw (PL.map Pc.data) * vec 57 3 (.slice wa PL.length wc) PL.length (pcs vw PL)) (by ac_rfl)).rdp
      clear hx hs17
      have HQ := Hid.mk' (ref0_sameParcels PL za wa zc wc rz rw' (by omega) HMM.out)
      clear rz rw'
      go_wp2_with (go_at_call 34; refine HQ.out.mono ?_; rintro e w16 ⟨v, rfl, rfl, hy⟩)
      go_ret
      exact Ret.mk ⟨rfl, (Sat.start w).ext (hs18.then1 hy).below⟩
end Go.Proofs.YtjhlelcopofkkaaDoor

