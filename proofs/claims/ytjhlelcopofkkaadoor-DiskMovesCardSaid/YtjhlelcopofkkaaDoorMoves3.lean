/- What the law DiskMoves calls went. -/
import Derived.Test.YtjhlelcopofkkaaDoorMoves
namespace Go.Proofs.YtjhlelcopofkkaaDoor
open Go.RowKit

set_option maxRecDepth 20000 in
set_option maxHeartbeats 6400000 in
theorem went1_full {w : World} {N : Int} {O M : Int} {DT : ByteArray} {P : List UInt8} {sp : Nat} (room : Nat) (hro : room ≤ 1073741824) (hdz : DT.size ≤ 140737488351232) (hb : P.length ≤ 140737488351232) (hf : ¬ P.length + DT.size ≤ room) (wa ga na : Option Addr) (wc gc nc : Nat) (h1 : Rd w wa (bvs P)) (h2 : Rd w na (bvs P)) :
    Calls Tryd.prog 120 #[.agg #[.int .i64 1, .int .i64 O, .int .i64 N, .int .i64 M, .string DT], .int .i64 room, .agg #[.slice wa P.length wc, .int .i64 sp, .int .i64 0], .agg #[.slice ga 0 gc, .int .i64 0, .int .i64 9], .agg #[.slice na P.length nc, .int .i64 sp, .int .i64 0]] w (Ret fun v w' => v = .bool true ∧ Sat w w' 1) := by
  have hs4 := ((((Sat.refl w).new #[.int .i64 1, .int .i64 O, .int .i64 N, .int .i64 M, .string DT] 83).new #[.slice wa P.length wc, .int .i64 sp, .int .i64 0] 87).new #[.slice ga 0 gc, .int .i64 0, .int .i64 9] 87).new #[.slice na P.length nc, .int .i64 sp, .int .i64 0] 87
  simp only [World.size_alloc] at hs4
  generalize hh : w.heap.size = h at hs4
  have H1 := Hid.mk' h1
  have H2 := Hid.mk' h2
  have hw : IntKind.i64.wrap ((P.length : Int) + (DT.size : Int)) = (P.length : Int) + (DT.size : Int) := by rw [IntKind.wrap_i64]; omega
  have bq1 : decide ((room : Int) < (P.length : Int) + (DT.size : Int)) = true := decide_eq_true (by omega)
  clear hf
  clear h1 h2
  go_enter Tryd.func120, Tryd.ntmps120
  go_wp2_with fail
  refine (kit_copy P wa wc (H1.out.of0 hs4) hb).mono ?_
  rintro e w1 ⟨v, rfl, hx⟩
  have hL := hs4.glue hx
  have q0 := hL.rot5.cell (i := 0) (v := .int .i64 1) rfl
  have q2 := hL.rot5.cell (i := 2) (v := .int .i64 N) rfl
  have q4 := hL.rot5.cell (i := 4) (v := .string DT) rfl
  have p0 := hL.rot4.cell (i := 0) (v := .slice wa P.length wc) rfl
  have p1 := hL.rot4.cell (i := 1) (v := .int .i64 sp) rfl
  have p2 := hL.rot4.cell (i := 2) (v := .int .i64 0) rfl
  have g2 := hL.rot3.cell (i := 2) (v := .int .i64 9) rfl
  have n0 := hL.swap.cell (i := 0) (v := .slice na P.length nc) rfl
  have n1 := hL.swap.cell (i := 1) (v := .int .i64 sp) rfl
  have n2 := hL.swap.cell (i := 2) (v := .int .i64 0) rfl
  clear hx
  go_wp2_with (go_at_call 48; refine (law12_sameLook P sp wa na wc nc (H1.out.of0 hL) (H2.out.of0 hL) hb).mono ?_; rintro e v8 ⟨v, rfl, rfl, hz⟩)
  go_ret
  exact Ret.mk ⟨rfl, (Sat.start w).ext (hL.then1 hz).below⟩

set_option maxRecDepth 20000 in
set_option maxHeartbeats 6400000 in
theorem went1_fits {w : World} {N : Int} {Q : List UInt8} {O M : Int} {DT : ByteArray} {P : List UInt8} {sp : Nat} (room : Nat) (hro : room ≤ 1073741824) (hdz : DT.size ≤ 140737488351232) (hb : P.length ≤ 140737488351232) (hf : P.length + DT.size ≤ room) (hQ : Q = P ++ DT.data.toList) (wa ga na : Option Addr) (wc gc nc : Nat) (h1 : Rd w wa (bvs P)) (h2 : Rd w na (bvs Q)) :
    Calls Tryd.prog 120 #[.agg #[.int .i64 1, .int .i64 O, .int .i64 N, .int .i64 M, .string DT], .int .i64 room, .agg #[.slice wa P.length wc, .int .i64 sp, .int .i64 0], .agg #[.slice ga 0 gc, .int .i64 0, .int .i64 0], .agg #[.slice na Q.length nc, .int .i64 sp, .int .i64 0]] w (Ret fun v w' => v = .bool true ∧ Sat w w' 1) := by
  have hs4 := ((((Sat.refl w).new #[.int .i64 1, .int .i64 O, .int .i64 N, .int .i64 M, .string DT] 83).new #[.slice wa P.length wc, .int .i64 sp, .int .i64 0] 87).new #[.slice ga 0 gc, .int .i64 0, .int .i64 0] 87).new #[.slice na Q.length nc, .int .i64 sp, .int .i64 0] 87
  simp only [World.size_alloc] at hs4
  generalize hh : w.heap.size = h at hs4
  have H1 := Hid.mk' h1
  have H2 := Hid.mk' h2
  have hw : IntKind.i64.wrap ((P.length : Int) + (DT.size : Int)) = (P.length : Int) + (DT.size : Int) := by rw [IntKind.wrap_i64]; omega
  have bq1 : decide ((room : Int) < (P.length : Int) + (DT.size : Int)) = false := decide_eq_false (by omega)
  have heq : ((sp : Int) == (sp : Int)) = true := beq_self_eq_true _
  have hqn : Q.length = P.length + DT.size := by rw [hQ, List.length_append]; rfl
  have hql : Q.length ≤ 140737488351232 := by omega
  have HSZ := Hid.mk' (show P.length + DT.size ≤ 142936511610880 by omega)
  have HSM := Hid.mk' (show ∀ (w' : World) (ma : Option Addr) (mc : Nat), Rd w' na (bvs Q) → Rd w' ma (bvs P ++ bvs DT.data.toList) → Calls Tryd.prog 25 #[.slice na Q.length nc, .slice ma (P.length + DT.size) mc] w' (Drew (.bool true) w') from fun w' ma mc h h' => by
    rw [← bvs_append, ← hQ] at h'
    rw [← hqn]
    exact ref0_same_true Q na ma nc mc h h' hql)
  clear hf hQ hqn
  clear h1 h2
  go_enter Tryd.func120, Tryd.ntmps120
  go_wp2_with fail
  refine (kit_copy P wa wc (H1.out.of0 hs4) hb).mono ?_
  rintro e w1 ⟨v, rfl, hx⟩
  have hL := hs4.glue hx
  have q0 := hL.rot5.cell (i := 0) (v := .int .i64 1) rfl
  have q2 := hL.rot5.cell (i := 2) (v := .int .i64 N) rfl
  have q4 := hL.rot5.cell (i := 4) (v := .string DT) rfl
  have p0 := hL.rot4.cell (i := 0) (v := .slice wa P.length wc) rfl
  have p1 := hL.rot4.cell (i := 1) (v := .int .i64 sp) rfl
  have p2 := hL.rot4.cell (i := 2) (v := .int .i64 0) rfl
  have g2 := hL.rot3.cell (i := 2) (v := .int .i64 0) rfl
  have n0 := hL.swap.cell (i := 0) (v := .slice na Q.length nc) rfl
  have n1 := hL.swap.cell (i := 1) (v := .int .i64 sp) rfl
  have n2 := hL.swap.cell (i := 2) (v := .int .i64 0) rfl
  clear hx
  go_wp2_with (first | (at_builtin; refine sl_append_string rfl _ _ 22 9 rfl 5 Tryd.underlying22 Tryd.underlying9 info_u8 _ P.length _ rfl (by exact hL) DT rfl (by have := HSZ.out; simp only [maxLen]; omega) HSZ.out ?_; intro lv w2 hM; obtain ⟨ma, mc, rfl, hmc, hrm, hnm⟩ := hM.vec_rd; have q0x := hM.rot5.cell (i := 0) (v := .int .i64 1) rfl; have q2x := hM.rot5.cell (i := 2) (v := .int .i64 N) rfl; have q4x := hM.rot5.cell (i := 4) (v := .string DT) rfl; have p0x := hM.rot4.cell (i := 0) (v := .slice wa P.length wc) rfl; have p1x := hM.rot4.cell (i := 1) (v := .int .i64 sp) rfl; have p2x := hM.rot4.cell (i := 2) (v := .int .i64 0) rfl; have g2x := hM.rot3.cell (i := 2) (v := .int .i64 0) rfl; have n0x := hM.swap.cell (i := 0) (v := .slice na Q.length nc) rfl; have n1x := hM.swap.cell (i := 1) (v := .int .i64 sp) rfl; have n2x := hM.swap.cell (i := 2) (v := .int .i64 0) rfl) | (go_at_call 25; refine (HSM.out _ ma mc (H2.out.of0 hM) hrm).mono ?_; rintro e v8 ⟨rfl, m, rfl⟩))
  go_ret
  exact Ret.mk ⟨rfl, (Sat.start w).ext (hM.drewN m).below⟩

set_option maxRecDepth 20000 in
set_option maxHeartbeats 6400000 in
theorem went2 {w : World} {N : Int} {sq : Nat} {O M : Int} {DT : ByteArray} {P : List UInt8} {sp : Nat} (room : Nat) (hb : P.length ≤ 140737488351232) (hsq : sq = P.length) (wa ga na : Option Addr) (wc gc nc : Nat) (h1 : Rd w wa (bvs P)) (h2 : Rd w na (bvs P)) :
    Calls Tryd.prog 120 #[.agg #[.int .i64 2, .int .i64 O, .int .i64 N, .int .i64 M, .string DT], .int .i64 room, .agg #[.slice wa P.length wc, .int .i64 sp, .int .i64 0], .agg #[.slice ga 0 gc, .int .i64 0, .int .i64 0], .agg #[.slice na P.length nc, .int .i64 sq, .int .i64 0]] w (Ret fun v w' => v = .bool true ∧ Sat w w' 1) := by
  have hs4 := ((((Sat.refl w).new #[.int .i64 2, .int .i64 O, .int .i64 N, .int .i64 M, .string DT] 83).new #[.slice wa P.length wc, .int .i64 sp, .int .i64 0] 87).new #[.slice ga 0 gc, .int .i64 0, .int .i64 0] 87).new #[.slice na P.length nc, .int .i64 sq, .int .i64 0] 87
  simp only [World.size_alloc] at hs4
  generalize hh : w.heap.size = h at hs4
  have H1 := Hid.mk' h1
  have H2 := Hid.mk' h2
  have heq : ((sq : Int) == (P.length : Int)) = true := by rw [hsq]; exact beq_self_eq_true _
  have HS := Hid.mk' (ref0_same_true P na wa nc wc (h2.of0 hs4) (h1.of0 hs4) hb)
  have HF := Hid.mk' hs4.below
  clear hsq hs4
  clear h1 h2
  go_enter Tryd.func120, Tryd.ntmps120
  go_wp2_with (go_at_call 25; refine HS.out.mono ?_; rintro e v8 ⟨rfl, m, rfl⟩)
  go_ret
  exact Ret.mk ⟨rfl, ((Sat.start w).ext HF.out).drewN m⟩

set_option maxRecDepth 20000 in
set_option maxHeartbeats 6400000 in
theorem went3 {w : World} {N : Int} {O M : Int} {DT : ByteArray} {P : List UInt8} {sp : Nat} (room : Nat) (hb : P.length ≤ 140737488351232) (wa ga na : Option Addr) (wc gc nc : Nat) (h1 : Rd w wa (bvs P)) (h2 : Rd w na (bvs P)) (hg3 : Rd w ga (bvs P)) :
    Calls Tryd.prog 120 #[.agg #[.int .i64 3, .int .i64 O, .int .i64 N, .int .i64 M, .string DT], .int .i64 room, .agg #[.slice wa P.length wc, .int .i64 sp, .int .i64 0], .agg #[.slice ga P.length gc, .int .i64 0, .int .i64 0], .agg #[.slice na P.length nc, .int .i64 sp, .int .i64 0]] w (Ret fun v w' => v = .bool true ∧ Sat w w' 1) := by
  have hs4 := ((((Sat.refl w).new #[.int .i64 3, .int .i64 O, .int .i64 N, .int .i64 M, .string DT] 83).new #[.slice wa P.length wc, .int .i64 sp, .int .i64 0] 87).new #[.slice ga P.length gc, .int .i64 0, .int .i64 0] 87).new #[.slice na P.length nc, .int .i64 sp, .int .i64 0] 87
  simp only [World.size_alloc] at hs4
  generalize hh : w.heap.size = h at hs4
  have H1 := Hid.mk' h1
  have H2 := Hid.mk' h2
  have h3 : Rd w ga (bvs P) := hg3
  have HS := Hid.mk' (ref0_same_true P ga wa gc wc (h3.of0 hs4) (h1.of0 hs4) hb)
  have HF := Hid.mk' hs4
  clear h3 hs4 hg3
  clear h1 h2
  go_enter Tryd.func120, Tryd.ntmps120
  go_wp2_with (first | (go_at_call 25; refine HS.out.mono ?_; rintro e v7 ⟨rfl, m, rfl⟩) | (go_at_call 48; refine (law12_sameLook P sp wa na wc nc (H1.out.of0 (HF.out.drewN m)) (H2.out.of0 (HF.out.drewN m)) hb).mono ?_; rintro e v8 ⟨v, rfl, rfl, hz⟩))
  go_ret
  exact Ret.mk ⟨rfl, (Sat.start w).ext ((HF.out.drewN m).then1 hz).below⟩

set_option maxRecDepth 20000 in
set_option maxHeartbeats 6400000 in
theorem went4_neg {w : World} {N : Int} {O M : Int} {DT : ByteArray} {P : List UInt8} {sp : Nat} (room : Nat) (hb : P.length ≤ 140737488351232) (hn : N < 0) (wa ga na : Option Addr) (wc gc nc : Nat) (h1 : Rd w wa (bvs P)) (h2 : Rd w na (bvs P)) :
    Calls Tryd.prog 120 #[.agg #[.int .i64 4, .int .i64 O, .int .i64 N, .int .i64 M, .string DT], .int .i64 room, .agg #[.slice wa P.length wc, .int .i64 sp, .int .i64 0], .agg #[.slice ga 0 gc, .int .i64 0, .int .i64 1], .agg #[.slice na P.length nc, .int .i64 sp, .int .i64 0]] w (Ret fun v w' => v = .bool true ∧ Sat w w' 1) := by
  have hs4 := ((((Sat.refl w).new #[.int .i64 4, .int .i64 O, .int .i64 N, .int .i64 M, .string DT] 83).new #[.slice wa P.length wc, .int .i64 sp, .int .i64 0] 87).new #[.slice ga 0 gc, .int .i64 0, .int .i64 1] 87).new #[.slice na P.length nc, .int .i64 sp, .int .i64 0] 87
  simp only [World.size_alloc] at hs4
  generalize hh : w.heap.size = h at hs4
  have H1 := Hid.mk' h1
  have H2 := Hid.mk' h2
  have HF := Hid.mk' hs4
  clear hs4
  clear h1 h2
  go_enter Tryd.func120, Tryd.ntmps120
  go_wp2_with (go_at_call 48; refine (law12_sameLook P sp wa na wc nc (H1.out.of0 HF.out) (H2.out.of0 HF.out) hb).mono ?_; rintro e v8 ⟨v, rfl, rfl, hz⟩)
  go_ret
  exact Ret.mk ⟨rfl, (Sat.start w).ext (HF.out.then1 hz).below⟩

set_option maxRecDepth 20000 in
set_option maxHeartbeats 6400000 in
theorem went4_far {w : World} {N : Int} {O M : Int} {DT : ByteArray} {P : List UInt8} {sp : Nat} (room : Nat) (hb : P.length ≤ 140737488351232) (hn0 : 0 ≤ N) (hn : (P.length : Int) < N) (wa ga na : Option Addr) (wc gc nc : Nat) (h1 : Rd w wa (bvs P)) (h2 : Rd w na (bvs P)) :
    Calls Tryd.prog 120 #[.agg #[.int .i64 4, .int .i64 O, .int .i64 N, .int .i64 M, .string DT], .int .i64 room, .agg #[.slice wa P.length wc, .int .i64 sp, .int .i64 0], .agg #[.slice ga 0 gc, .int .i64 0, .int .i64 1], .agg #[.slice na P.length nc, .int .i64 sp, .int .i64 0]] w (Ret fun v w' => v = .bool true ∧ Sat w w' 1) := by
  have hs4 := ((((Sat.refl w).new #[.int .i64 4, .int .i64 O, .int .i64 N, .int .i64 M, .string DT] 83).new #[.slice wa P.length wc, .int .i64 sp, .int .i64 0] 87).new #[.slice ga 0 gc, .int .i64 0, .int .i64 1] 87).new #[.slice na P.length nc, .int .i64 sp, .int .i64 0] 87
  simp only [World.size_alloc] at hs4
  generalize hh : w.heap.size = h at hs4
  have H1 := Hid.mk' h1
  have H2 := Hid.mk' h2
  have HF := Hid.mk' hs4
  clear hs4
  clear h1 h2
  go_enter Tryd.func120, Tryd.ntmps120
  go_wp2_with (go_at_call 48; refine (law12_sameLook P sp wa na wc nc (H1.out.of0 HF.out) (H2.out.of0 HF.out) hb).mono ?_; rintro e v8 ⟨v, rfl, rfl, hz⟩)
  go_ret
  exact Ret.mk ⟨rfl, (Sat.start w).ext (HF.out.then1 hz).below⟩

set_option maxRecDepth 20000 in
set_option maxHeartbeats 6400000 in
theorem went4_ok {w : World} {j sq : Nat} {Q : List UInt8} {O M : Int} {DT : ByteArray} {P : List UInt8} {sp : Nat} (room : Nat) (hb : P.length ≤ 140737488351232) (hj : j ≤ P.length) (hQ : Q = P.take j) (hsq : sq = min sp j) (wa ga na : Option Addr) (wc gc nc : Nat) (hc : P.length ≤ wc) (hno : wa = none → P.length = 0 ∧ wc = 0) (h1 : Rd w wa (bvs P)) (h2 : Rd w na (bvs Q)) :
    Calls Tryd.prog 120 #[.agg #[.int .i64 4, .int .i64 O, .int .i64 (j : Nat), .int .i64 M, .string DT], .int .i64 room, .agg #[.slice wa P.length wc, .int .i64 sp, .int .i64 0], .agg #[.slice ga 0 gc, .int .i64 0, .int .i64 0], .agg #[.slice na Q.length nc, .int .i64 sq, .int .i64 0]] w (Ret fun v w' => v = .bool true ∧ Sat w w' 1) := by
  have hs4 := ((((Sat.refl w).new #[.int .i64 4, .int .i64 O, .int .i64 (j : Nat), .int .i64 M, .string DT] 83).new #[.slice wa P.length wc, .int .i64 sp, .int .i64 0] 87).new #[.slice ga 0 gc, .int .i64 0, .int .i64 0] 87).new #[.slice na Q.length nc, .int .i64 sq, .int .i64 0] 87
  simp only [World.size_alloc] at hs4
  generalize hh : w.heap.size = h at hs4
  have H1 := Hid.mk' h1
  have H2 := Hid.mk' h2
  obtain ⟨m, hm⟩ : ∃ m : Int, min (sp : Int) (j : Int) = m := ⟨_, rfl⟩
  have heq : ((sq : Int) == m) = true := by rw [hsq, ← hm]; exact beq_iff_eq.2 (by omega)
  have hqn : Q.length = j := by rw [hQ, List.length_take]; omega
  have hql : Q.length ≤ 140737488351232 := by omega
  have h0j : (0 : Int) ≤ (j : Int) := by omega
  have hjc : (j : Int) ≤ (wc : Int) := by omega
  have hjp : (j : Int) ≤ (P.length : Int) := by omega
  have HLE := Hid.mk' (fun (w' : World) => law12_least (w := w') (sp : Int) (j : Int) m hm.symm)
  have HSM := Hid.mk' (show ∀ (w' : World), Rd w' na (bvs Q) → Rd w' wa (bvs P) → Calls Tryd.prog 25 #[.slice na Q.length nc, .slice wa j wc] w' (Drew (.bool true) w') from fun w' h h' => by
    have h'' := h'.take j
    rw [bvs_take, ← hQ] at h''
    have := ref0_same_true Q na wa nc wc h h'' hql
    rw [hqn] at this ⊢
    exact this)
  clear hj hQ hsq hm hqn h1 h2
  cases wa with
  | none =>
    obtain ⟨e1, rfl⟩ := hno rfl
    obtain rfl : j = 0 := by omega
    obtain rfl : P = [] := List.eq_nil_of_length_eq_zero e1
    clear hno hc h0j hjc hjp
    go_enter Tryd.func120, Tryd.ntmps120
    go_wp2_with fail
    go_region_held3 (fun wr => wr.cell? ⟨h, 2, none⟩ = some (.int .i64 (0 : Nat)) ∧ wr.cell? ⟨h + 1, 0, none⟩ = some (.slice none 0 0) ∧ wr.cell? ⟨h + 1, 1, none⟩ = some (.int .i64 sp) ∧ wr.cell? ⟨h + 1 + 1, 2, none⟩ = some (.int .i64 0) ∧ wr.cell? ⟨h + 1 + 1 + 1, 0, none⟩ = some (.slice na Q.length nc) ∧ wr.cell? ⟨h + 1 + 1 + 1, 1, none⟩ = some (.int .i64 sq))
      (first | exact ⟨hs4.rot4.cell rfl, hs4.rot3.cell rfl, hs4.rot3.cell rfl, hs4.swap.cell rfl, hs4.cell rfl, hs4.cell rfl⟩ | exact ⟨(hs4.drewN _).rot4.cell rfl, (hs4.drewN _).rot3.cell rfl, (hs4.drewN _).rot3.cell rfl, (hs4.drewN _).swap.cell rfl, (hs4.drewN _).cell rfl, (hs4.drewN _).cell rfl⟩)
      (first | (go_at_call 25; refine (HSM.out _ ((H2.out.of0 hs4).drewN) ((H1.out.of0 hs4).drewN)).mono ?_; rintro e v7 ⟨rfl, m2, rfl⟩) | (go_at_call 142; refine (HLE.out _).mono ?_; rintro e v6 ⟨rfl, rfl⟩))
    all_goals
      go_wp2_with fail
      go_ret
      exact Ret.mk ⟨rfl, (Sat.start w).ext (hs4.drewN _).below⟩
  | some a =>
    clear hno hc
    go_enter Tryd.func120, Tryd.ntmps120
    go_wp2_with fail
    go_region_held3 (fun wr => wr.cell? ⟨h, 2, none⟩ = some (.int .i64 (j : Nat)) ∧ wr.cell? ⟨h + 1, 0, none⟩ = some (.slice (some a) P.length wc) ∧ wr.cell? ⟨h + 1, 1, none⟩ = some (.int .i64 sp) ∧ wr.cell? ⟨h + 1 + 1, 2, none⟩ = some (.int .i64 0) ∧ wr.cell? ⟨h + 1 + 1 + 1, 0, none⟩ = some (.slice na Q.length nc) ∧ wr.cell? ⟨h + 1 + 1 + 1, 1, none⟩ = some (.int .i64 sq))
      (first | exact ⟨hs4.rot4.cell rfl, hs4.rot3.cell rfl, hs4.rot3.cell rfl, hs4.swap.cell rfl, hs4.cell rfl, hs4.cell rfl⟩ | exact ⟨(hs4.drewN _).rot4.cell rfl, (hs4.drewN _).rot3.cell rfl, (hs4.drewN _).rot3.cell rfl, (hs4.drewN _).swap.cell rfl, (hs4.drewN _).cell rfl, (hs4.drewN _).cell rfl⟩)
      (first | (go_at_call 25; refine (HSM.out _ ((H2.out.of0 hs4).drewN) ((H1.out.of0 hs4).drewN)).mono ?_; rintro e v7 ⟨rfl, m2, rfl⟩) | (go_at_call 142; refine (HLE.out _).mono ?_; rintro e v6 ⟨rfl, rfl⟩))
    all_goals
      go_wp2_with fail
      go_ret
      exact Ret.mk ⟨rfl, (Sat.start w).ext (hs4.drewN _).below⟩

end Go.Proofs.YtjhlelcopofkkaaDoor
