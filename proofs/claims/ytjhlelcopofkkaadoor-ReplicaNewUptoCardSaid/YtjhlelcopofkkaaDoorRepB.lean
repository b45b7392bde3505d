/- Lists of parcels: read, compared, copied. -/
import Derived.Test.YtjhlelcopofkkaaDoorRep
namespace Go.Proofs.YtjhlelcopofkkaaDoor
open Go.RowKit

theorem cell_skip {w : World} {o : Obj} {b i : Nat} {v : Value} (h : w.cell? ⟨b, i, none⟩ = some v) : (w.alloc o).cell? ⟨b, i, none⟩ = some v := (((Below.refl w.heap.size w).alloc (Nat.le_refl _) o).cell (World.block_lt_of_cell? _ _ h)).trans h
theorem cell_sat {w0 w : World} {A : HP} {b i : Nat} {v : Value} (h : w0.cell? ⟨b, i, none⟩ = some v) (hs : Sat w0 w A) : w.cell? ⟨b, i, none⟩ = some v := (hs.below.cell (World.block_lt_of_cell? _ _ h)).trans h
/-- A list of parcels, only read. -/
def RdP (w : World) (ao : Option Addr) (ps : List Pc) : Prop :=
  ∃ vs : List Value, Rd w ao (pcs vs ps) ∧ vs.length = ps.length ∧ ∀ (k : Nat) (p : Pc), ps[k]? = some p → ∃ (bo : Option Addr) (c : Nat), vs[k]? = some (Value.slice bo p.data.length c) ∧ p.data.length ≤ c ∧ Rd w bo (bvs p.data)
theorem RdP.mono {w w' : World} {ao : Option Addr} {ps : List Pc} (h : RdP w ao ps) (hb : Below w.heap.size w w') : RdP w' ao ps := by
  obtain ⟨vs, h1, h2, h3⟩ := h
  exact ⟨vs, h1.mono hb, h2, fun k p hp => let ⟨bo, c, a1, a2, a3⟩ := h3 k p hp; ⟨bo, c, a1, a2, a3.mono hb⟩⟩
theorem RdP.of0 {w0 w : World} {A : HP} {ao : Option Addr} {ps : List Pc} (h : RdP w0 ao ps) (hs : Sat w0 w A) : RdP w ao ps := h.mono hs.below
theorem RdP.drewN {w : World} {ao : Option Addr} {ps : List Pc} (h : RdP w ao ps) {n : Nat} : RdP (w.drewN n) ao ps := h.mono (below_drewN (Below.refl _ _) n)
/-- The cells of one. -/
theorem RdP.cell {w : World} {ao : Option Addr} {ps : List Pc} (h : RdP w ao ps) {k : Nat} (hk : k < ps.length) :
    ∃ b o bo c, ao = some ⟨b, o, none⟩ ∧ w.cell? ⟨b, o + k * 3, none⟩ = some (.int .i64 ps[k].frm) ∧ w.cell? ⟨b, o + k * 3 + 1, none⟩ = some (.slice bo ps[k].data.length c) ∧ w.cell? ⟨b, o + k * 3 + 2, none⟩ = some (.int .u32 (ru32 ps[k].sum)) ∧ ps[k].data.length ≤ c ∧ Rd w bo (bvs ps[k].data) := by
  obtain ⟨vs, h1, h2, h3⟩ := h
  obtain ⟨bo, c, a1, a2, a3⟩ := h3 k _ (List.getElem?_eq_getElem hk)
  obtain ⟨g0, g1, g2⟩ := pcs_get a1 (List.getElem?_eq_getElem hk)
  obtain ⟨b, o, e, hc⟩ := h1.addr (by intro e; rw [e] at g0; simp at g0)
  exact ⟨b, o, bo, c, e, hc _ _ g0, by have := hc _ _ g1; rwa [← Nat.add_assoc] at this, by have := hc _ _ g2; rwa [← Nat.add_assoc] at this, a2, a3⟩
theorem Sat.rdp {w0 w : World} {F : HP} {vs : List Value} {ps : List Pc} {ao : Option Addr} {n c : Nat} (hs : Sat w0 w (F * bvl vs (ps.map Pc.data) * vec 57 3 (.slice ao n c) n (pcs vs ps))) : RdP w ao ps := by
  have hl := hs.swap.bvl_len
  rw [List.length_map] at hl
  refine ⟨vs, hs.rd, hl, fun k p hp => ?_⟩
  obtain ⟨bo, c', h1, h2, h3, _⟩ := hs.swap.bvl_rd (k := k) (p := p.data) (by rw [List.getElem?_map, hp]; rfl)
  exact ⟨bo, c', h1, h2, h3⟩

theorem same_eq {w : World} (xs : List UInt8) (ao bo : Option Addr) (c d : Nat) (hr : Rd w ao (bvs xs)) (hq : Rd w bo (bvs xs)) (hn : xs.length ≤ 140737488351232) :
    Calls Tryd.prog 25 #[.slice ao xs.length c, .slice bo xs.length d] w (Drew (.bool true) w) := by
  have := ref0_sameBytes xs xs ao bo c d hr hq hn
  rwa [decide_eq_true rfl] at this
set_option maxHeartbeats 3200000 in
theorem ref0_sameParcel {w : World} (n : Nat) (p : List UInt8) (s : BitVec 32) (ao bo : Option Addr) (c d : Nat) (hr : Rd w ao (bvs p)) (hq : Rd w bo (bvs p)) (hl : p.length ≤ 140737488351232) :
    Calls Tryd.prog 98 #[.agg #[.int .i64 n, .slice ao p.length c, .int .u32 (ru32 s)], .agg #[.int .i64 n, .slice bo p.length d, .int .u32 (ru32 s)]] w (Ret fun v w' => v = .bool true ∧ Sat w w' 1) := by
  have HR := Hid.mk' hr
  have HQ := Hid.mk' hq
  have hs0 := ((Sat.refl w).new #[.int .i64 n, .slice ao p.length c, .int .u32 (ru32 s)] 57).new #[.int .i64 n, .slice bo p.length d, .int .u32 (ru32 s)] 57
  rw [World.size_alloc] at hs0
  have HS0 := Hid.mk' hs0
  have hn0 : ((n : Int) == (n : Int)) = true := beq_self_eq_true _
  have hn1 : (ru32 s == ru32 s) = true := beq_self_eq_true _
  have HC := Hid.mk' (fun (m : Nat) => show Calls Tryd.prog 25 #[.slice ao p.length c, .slice bo p.length d] _ _ from same_eq p ao bo c d (HR.out.of0 (hs0.drewN m)) (HQ.out.of0 (hs0.drewN m)) hl)
  clear hr hq hs0
  go_enter Tryd.func98, Tryd.ntmps98
  go_wp2_with (go_at_call 25; refine (HC.out 0).mono ?_; rintro e w1 ⟨rfl, m, rfl⟩)
  go_ret
  exact Ret.mk ⟨rfl, (((Sat.refl w).ext HS0.out.below)).drewN _⟩
set_option maxRecDepth 20000 in
set_option maxHeartbeats 6400000 in
theorem ref0_sameParcels {w : World} (ps : List Pc) (ao bo : Option Addr) (c d : Nat) (hr : RdP w ao ps) (hq : RdP w bo ps) (hn : ps.length ≤ 16777216) (hm : ∀ p ∈ ps, p.data.length ≤ 16777216) :
    Calls Tryd.prog 34 #[.slice ao ps.length c, .slice bo ps.length d] w (Ret fun v w' => v = .bool true ∧ Sat w w' 1) := by
  have HR := Hid.mk' hr
  have HQ := Hid.mk' hq
  have HM := Hid.mk' hm
  clear hr hq hm
  go_enter Tryd.func34, Tryd.ntmps34
  go_wp2_with fail
  go_loopw [5] (fun i wr => ∃ k : Nat, k ≤ ps.length ∧ i = .int .i64 k ∧ Sat w wr 1) (fun i _ => ps.length - (intOf i).toNat)
  case atStart => exact ⟨0, by omega, rfl, Sat.refl w⟩
  case round =>
    obtain ⟨k, hk, rfl, hS⟩ := hrel
    by_cases hlt : k < ps.length
    · obtain ⟨b1, o1, x1, y1, rfl, c0, c1, c2, hy1, r1⟩ := (HR.out.of0 hS).cell hlt
      obtain ⟨b2, o2, x2, y2, rfl, d0, d1, d2, hy2, r2⟩ := (HQ.out.of0 hS).cell hlt
      have hml := HM.out ps[k] (List.getElem_mem hlt)
      have HC := Hid.mk' (fun m => ref0_sameParcel ps[k].frm ps[k].data ps[k].sum x1 x2 y1 y2 (r1.drewN (k := m)) (r2.drewN (k := m)) (by omega))
      generalize ps[k] = q at *
      obtain ⟨qf, qd, qs⟩ := q
      simp only at c0 c1 c2 d0 d1 d2 HC hml
      clear r1 r2
      go_wp2_with fail
      go_region_held3 (fun wx => wx.cell? ⟨b1, o1 + k * 3, none⟩ = some (.int .i64 qf) ∧ wx.cell? ⟨b1, o1 + k * 3 + 1, none⟩ = some (.slice x1 qd.length y1) ∧ wx.cell? ⟨b1, o1 + k * 3 + 2, none⟩ = some (.int .u32 (ru32 qs)) ∧ wx.cell? ⟨b2, o2 + k * 3, none⟩ = some (.int .i64 qf) ∧ wx.cell? ⟨b2, o2 + k * 3 + 1, none⟩ = some (.slice x2 qd.length y2) ∧ wx.cell? ⟨b2, o2 + k * 3 + 2, none⟩ = some (.int .u32 (ru32 qs))) (first | exact ⟨c0, c1, c2, d0, d1, d2⟩ | exact ⟨(hx.below.cell (World.block_lt_of_cell? _ _ c0)).trans c0, (hx.below.cell (World.block_lt_of_cell? _ _ c1)).trans c1, (hx.below.cell (World.block_lt_of_cell? _ _ c2)).trans c2, (hx.below.cell (World.block_lt_of_cell? _ _ d0)).trans d0, (hx.below.cell (World.block_lt_of_cell? _ _ d1)).trans d1, (hx.below.cell (World.block_lt_of_cell? _ _ d2)).trans d2⟩)
        ((go_at_call 98; go_loud (refine (HC.out 1).mono ?_); rintro e w3 ⟨v, rfl, rfl, hx⟩))
      go_wp2_with fail
      exact ⟨⟨k + 1, by omega, rfl, (hS.drewN 1).then1 hx⟩, by simp [intOf]; omega⟩
    · obtain rfl : k = ps.length := by omega
      go_wp2_with fail
      go_ret
      exact Ret.mk ⟨rfl, hS⟩

set_option maxRecDepth 20000 in
set_option maxHeartbeats 6400000 in
/-- The same parcels, in memory of their own. -/
theorem law27_twins {w : World} (ps : List Pc) (ao : Option Addr) (c : Nat) (hr : RdP w ao ps) (hn : ps.length ≤ 16777216) (hm : ∀ p ∈ ps, p.data.length ≤ 16777216) :
    Calls Tryd.prog 33 #[.slice ao ps.length c] w (Ret fun v w' => ∃ vs, vs.length = ps.length ∧ Sat w w' (bvl vs (ps.map Pc.data) * vec 57 3 v ps.length (pcs vs ps))) := by
  have HR := Hid.mk' hr
  have HM := Hid.mk' hm
  clear hr hm
  go_enter Tryd.func33, Tryd.ntmps33
  go_wp2_with fail
  go_loopw [3, 4] (fun lv i wr => ∃ (k : Nat) (vs : List Value), k ≤ ps.length ∧ i = .int .i64 k ∧ Hid (vs.length = k) ∧ Sat w wr (bvl vs ((ps.take k).map Pc.data) * vec 57 3 lv k (pcs vs (ps.take k)))) (fun _ i _ => ps.length - (intOf i).toNat)
  case atStart => exact ⟨0, [], by omega, rfl, rfl, (Sat.refl w).vec_nil 57 3⟩
  case round =>
    obtain ⟨k, vs, hk, rfl, hvl, hS⟩ := hrel
    by_cases hlt : k < ps.length
    · obtain ⟨b1, o1, x1, y1, rfl, g0, g1, g2, hy1, r1⟩ := HR.out.cell hlt
      have c0 := cell_sat g0 hS
      have c1 := cell_sat g1 hS
      have c2 := cell_sat g2 hS
      obtain ⟨la, lc, rfl, _, _, _⟩ := hS.vec_rd
      have hml := HM.out ps[k] (List.getElem_mem hlt)
      have HTK := Hid.mk' (take_snoc ps k hlt)
      have HC := Hid.mk' (fun m => kit_copy ps[k].data x1 y1 ((r1.of0 hS).drewN (k := m)) (by omega))
      generalize ps[k] = q at *
      obtain ⟨qf, qd, qs⟩ := q
      simp only at g0 g1 g2 c0 c1 c2 HC hml
      have G0 := Hid.mk' g0
      have G1 := Hid.mk' g1
      have G2 := Hid.mk' g2
      clear g0 g1 g2
      clear r1
      go_wp2_with fail
      go_region_held3 (fun wx => wx.cell? ⟨b1, o1 + k * 3, none⟩ = some (.int .i64 qf) ∧ wx.cell? ⟨b1, o1 + k * 3 + 1, none⟩ = some (.slice x1 qd.length y1) ∧ wx.cell? ⟨b1, o1 + k * 3 + 2, none⟩ = some (.int .u32 (ru32 qs))) (first | exact ⟨c0, c1, c2⟩ | exact ⟨e0, e1, e2⟩ | exact ⟨cell_skip e0, cell_skip e1, cell_skip e2⟩ | exact ⟨cell_sat G0.out hs6, cell_sat G1.out hs6, cell_sat G2.out hs6⟩)
        (first | (go_at_call 22; go_loud (refine (HC.out 1).mono ?_); rintro e w3 ⟨v, rfl, hx⟩; have hs1 := (hS.drewN 1).glue hx; have e0 := (hx.below.cell (World.block_lt_of_cell? _ _ c0)).trans c0; have e1 := (hx.below.cell (World.block_lt_of_cell? _ _ c1)).trans c1; have e2 := (hx.below.cell (World.block_lt_of_cell? _ _ c2)).trans c2; obtain ⟨ua, uc, rfl, _, _, _⟩ := hs1.vec_rd; have hs2 := hs1.swap) | ((refine step_append_vec rfl _ _ 48 rfl 57 (.agg #[.int .i64 0, .slice none 0 0, .int .u32 0]) 3 40 Tryd.underlying48 info_pc rfl (by decide) _ k _ rfl (by first | exact hs2.skip | exact hs2.skip.drew) _ 1 _ [.int .i64 qf, .slice ua qd.length uc, .int .u32 (ru32 qs)] rfl rfl (by first | exact Rd.made _ _ _ _ | exact (Rd.made _ _ _ _).drew) (by intro u hu; simp only [List.mem_cons, List.not_mem_nil, or_false] at hu; rcases hu with rfl | rfl | rfl <;> rfl) (by simp only [maxLen]; omega) (by omega) ?_); intro v' w5 hs6))
      go_wp2_with fail
      refine ⟨⟨k + 1, vs ++ [.slice ua qd.length uc], by omega, rfl, Hid.mk' (by rw [List.length_append, hvl.out]; rfl), ?_⟩, by simp [intOf]; omega⟩
      have hkl : ((ps.take k).map Pc.data).length = k := by rw [List.length_map, List.length_take]; omega
      have hkl2 : (ps.take k).length = k := by rw [List.length_take]; omega
      rw [HTK.out, List.map_append, List.map_cons, List.map_nil, bvl_append (by rw [hkl]; exact hvl.out), pcs_append (by rw [hkl2]; exact hvl.out), bvl_one]
      exact hs6
    · obtain rfl : k = ps.length := by omega
      rw [List.take_length] at hS
      go_wp2_with fail
      go_ret
      exact Ret.mk ⟨vs, hvl.out, hS⟩
end Go.Proofs.YtjhlelcopofkkaaDoor
