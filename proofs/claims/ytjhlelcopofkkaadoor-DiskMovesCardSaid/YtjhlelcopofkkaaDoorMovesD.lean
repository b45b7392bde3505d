/- What the law DiskMoves demands of one call: part d. -/
import Derived.Test.YtjhlelcopofkkaaDoorMovesA
namespace Go.Proofs.YtjhlelcopofkkaaDoor
open Go.RowKit

set_option maxRecDepth 20000 in
set_option maxHeartbeats 12800000 in
theorem moves_dying1fits {w0 w : World} {F : HP} {b : Nat} {D D2 : Dk} {E : Nat → Addr} (hE : Errs w0 E) (hD : D.Ok) (hD2 : D2.Ok) (hm : D.arms.length < 8796093022207) (hm2 : D2.arms.length < 8796093022207) {O N M : Int} {DT : ByteArray} (hS : (⟨1, O, N, M, DT⟩ : Stp).Ok) (n : Int) (hd : D.dead = false) (hd2 : D2.dead = true) (hn0 : 0 < n) (hn2 : n ≤ 8796093022207) (hf : D.bytes.length + DT.size ≤ D.room) (hc2 : (D.laid ⟨1, O, N, M, DT⟩).fail D.diesK = D2) 
    (hACT : D.act (⟨1, O, N, M, DT⟩ : Stp) = (⟨[], 0, 10⟩, D2)) (hs : Sat w0 w (F * dk b D)) :
    Calls Tryd.prog 54 #[.pointer (some ⟨b, 0, none⟩), .agg #[.int .i64 1, .int .i64 O, .int .i64 N, .int .i64 M, .string DT], .int .i64 D.room, .int .i64 n] w (Ret fun v w' => v = .tuple #[.bool true, .int .i64 (n - 1)] ∧ Sat w0 w' (F * dk b D2)) := by
  have hT0 := hs.new #[.int .i64 1, .int .i64 O, .int .i64 N, .int .i64 M, .string DT] 83
  generalize hbt : w.heap.size = bt at hT0
  have hT := hT0.swap
  have HDD := Hid.mk' (disk_dead_is hd hT)
  have HD2 := Hid.mk' hd2
  have HACT := Hid.mk' hACT
  have HE := Hid.mk' hE
  have hb := hD.bytes
  have HOP := Hid.mk' (fun w => by have := law12_operation (w := w) (⟨1, O, N, M, DT⟩ : Stp); rw [show decide (1 ≤ (⟨1, O, N, M, DT⟩ : Stp).kind ∧ (⟨1, O, N, M, DT⟩ : Stp).kind ≤ 4) = true from rfl] at this; exact this)
  have hwn : IntKind.i64.wrap (n - 1) = n - 1 := by rw [IntKind.wrap_i64]; omega
  clear hn2
  clear hs hT0 hd hd2 hACT hE
  go_enter Tryd.func54, Tryd.ntmps54
  go_wp2_with (go_at_call 53; refine HDD.out.mono ?_; rintro e v0 ⟨rfl, rfl⟩)
  refine law12_look.mono ?_
  rintro e v1 ⟨v, rfl, rfl, hx⟩
  have hT1 := hT.then1 hx
  clear hx hT
  go_wp2_with fail
  refine (law12_actLook (D := D) (b := b) HE.out hD hm (F := F * blk bt [.int .i64 1, .int .i64 O, .int .i64 N, .int .i64 M, .string DT] 83) hT1).mono ?_
  rintro e v2 ⟨v, rfl, wa, wc, hwc, rfl, hx⟩
  have HWC := Hid.mk' hwc
  have hA0 := hx.new #[.slice wa D.bytes.length wc, .int .i64 D.synced, .int .i64 0] 87
  generalize hb11 : v2.heap.size = b11 at hA0
  have hA := hA0.perm (B := F * vec 5 1 (.slice wa D.bytes.length wc) D.bytes.length (bvs D.bytes) * blk b11 [.slice wa D.bytes.length wc, .int .i64 D.synced, .int .i64 0] 87 * blk bt [.int .i64 1, .int .i64 O, .int .i64 N, .int .i64 M, .string DT] 83 * dk b D) (by ac_rfl)
  have q0 := hA.swap.cell (i := 0) (v := .int .i64 1) rfl
  have q1 := hA.swap.cell (i := 1) (v := .int .i64 O) rfl
  have q2 := hA.swap.cell (i := 2) (v := .int .i64 N) rfl
  have q3 := hA.swap.cell (i := 3) (v := .int .i64 M) rfl
  have q4 := hA.swap.cell (i := 4) (v := .string DT) rfl
  clear hx hA0 hT1 hwc
  go_wp2_with fail
  refine (law12_act' HE.out hD (⟨1, O, N, M, DT⟩ : Stp) hS hm (b := b) (D := D) (F := F * vec 5 1 (.slice wa D.bytes.length wc) D.bytes.length (bvs D.bytes) * blk b11 [.slice wa D.bytes.length wc, .int .i64 D.synced, .int .i64 0] 87 * blk bt [.int .i64 1, .int .i64 O, .int .i64 N, .int .i64 M, .string DT] 83) hA).mono ?_
  rintro e v3 ⟨v, rfl, ga, gc, hgc, rfl, hx⟩
  rw [HACT.out] at hx ⊢
  have hB0 := hx.new #[.slice ga 0 gc, .int .i64 0, .int .i64 10] 87
  generalize hb12 : v3.heap.size = b12 at hB0
  have hB := hB0.perm (B := F * vec 5 1 (.slice wa D.bytes.length wc) D.bytes.length (bvs D.bytes) * vec 5 1 (.slice ga 0 gc) 0 [] * blk bt [.int .i64 1, .int .i64 O, .int .i64 N, .int .i64 M, .string DT] 83 * blk b11 [.slice wa D.bytes.length wc, .int .i64 D.synced, .int .i64 0] 87 * blk b12 [.slice ga 0 gc, .int .i64 0, .int .i64 10] 87 * dk b D2) (by ac_rfl)
  clear hx hB0 hA hgc q0 q1 q2 q3 q4
  go_wp2_with fail
  refine law12_look.mono ?_
  rintro e v4 ⟨v, rfl, rfl, hx⟩
  have hB1 := hB.then1 hx
  clear hx hB
  go_wp2_with fail
  refine (law12_actLook (D := D2) (b := b) HE.out hD2 hm2 (F := F * vec 5 1 (.slice wa D.bytes.length wc) D.bytes.length (bvs D.bytes) * vec 5 1 (.slice ga 0 gc) 0 [] * blk bt [.int .i64 1, .int .i64 O, .int .i64 N, .int .i64 M, .string DT] 83 * blk b11 [.slice wa D.bytes.length wc, .int .i64 D.synced, .int .i64 0] 87 * blk b12 [.slice ga 0 gc, .int .i64 0, .int .i64 10] 87) hB1).mono ?_
  rintro e v5 ⟨v, rfl, na, nc, hnc, rfl, hx⟩
  have hC0 := hx.new #[.slice na D2.bytes.length nc, .int .i64 D2.synced, .int .i64 0] 87
  generalize hb13 : v5.heap.size = b13 at hC0
  have hC := hC0.perm (B := F * dk b D2 * vec 5 1 (.slice wa D.bytes.length wc) D.bytes.length (bvs D.bytes) * vec 5 1 (.slice ga 0 gc) 0 [] * vec 5 1 (.slice na D2.bytes.length nc) D2.bytes.length (bvs D2.bytes) * blk bt [.int .i64 1, .int .i64 O, .int .i64 N, .int .i64 M, .string DT] 83 * blk b11 [.slice wa D.bytes.length wc, .int .i64 D.synced, .int .i64 0] 87 * blk b12 [.slice ga 0 gc, .int .i64 0, .int .i64 10] 87 * blk b13 [.slice na D2.bytes.length nc, .int .i64 D2.synced, .int .i64 0] 87) (by ac_rfl)
  have q0 := hC.rot4.cell (i := 0) (v := .int .i64 1) rfl
  have q1 := hC.rot4.cell (i := 1) (v := .int .i64 O) rfl
  have q2 := hC.rot4.cell (i := 2) (v := .int .i64 N) rfl
  have q3 := hC.rot4.cell (i := 3) (v := .int .i64 M) rfl
  have q4 := hC.rot4.cell (i := 4) (v := .string DT) rfl
  clear hx hC0 hB1 hnc
  go_wp2_with (first | (go_at_call 119; refine (died_fits D.diesK hS.data hD hc2 hf wa na ga wc nc gc hG.rot7.rd (fun w' A h => Sat.rd (h.perm (B := F * A * (vec 5 1 (.slice wa D.bytes.length wc) D.bytes.length (bvs D.bytes) * vec 5 1 (.slice ga 0 gc) 0 [] * blk bt [.int .i64 1, .int .i64 O, .int .i64 N, .int .i64 M, .string DT] 83 * blk b11 [.slice wa D.bytes.length wc, .int .i64 D.synced, .int .i64 0] 87 * blk b12 [.slice ga 0 gc, .int .i64 0, .int .i64 10] 87 * blk b13 [.slice na D2.bytes.length nc, .int .i64 D2.synced, .int .i64 0] 87) * vec 5 1 (.slice na D2.bytes.length nc) D2.bytes.length (bvs D2.bytes)) (by ac_rfl))) (hG.perm (B := F * (vec 5 1 (.slice wa D.bytes.length wc) D.bytes.length (bvs D.bytes) * vec 5 1 (.slice ga 0 gc) 0 [] * blk bt [.int .i64 1, .int .i64 O, .int .i64 N, .int .i64 M, .string DT] 83 * blk b11 [.slice wa D.bytes.length wc, .int .i64 D.synced, .int .i64 0] 87 * blk b12 [.slice ga 0 gc, .int .i64 0, .int .i64 10] 87 * blk b13 [.slice na D2.bytes.length nc, .int .i64 D2.synced, .int .i64 0] 87 * vec 5 1 (.slice na D2.bytes.length nc) D2.bytes.length (bvs D2.bytes)) * dk b D2) (by ac_rfl))).mono ?_; rintro e v8 ⟨v, rfl, rfl, hy⟩) | (go_at_call 118; refine (HOP.out _).mono ?_; rintro e v6 ⟨v, rfl, rfl, ho⟩; have hG := hC.then1 ho; have q0a := hG.rot4.cell (i := 0) (v := .int .i64 1) rfl; have q1a := hG.rot4.cell (i := 1) (v := .int .i64 O) rfl; have q2a := hG.rot4.cell (i := 2) (v := .int .i64 N) rfl; have q3a := hG.rot4.cell (i := 3) (v := .int .i64 M) rfl; have q4a := hG.rot4.cell (i := 4) (v := .string DT) rfl; have p0a := hG.rot3.cell (i := 0) (v := .slice wa D.bytes.length wc) rfl; have p1a := hG.rot3.cell (i := 1) (v := .int .i64 D.synced) rfl; have p2a := hG.rot3.cell (i := 2) (v := .int .i64 0) rfl; have g0a := hG.swap.cell (i := 0) (v := .slice ga 0 gc) rfl; have g1a := hG.swap.cell (i := 1) (v := .int .i64 0) rfl; have g2a := hG.swap.cell (i := 2) (v := .int .i64 10) rfl; have n0a := hG.cell (i := 0) (v := .slice na D2.bytes.length nc) rfl; have n1a := hG.cell (i := 1) (v := .int .i64 D2.synced) rfl; have n2a := hG.cell (i := 2) (v := .int .i64 0) rfl))
  go_ret2
  exact Ret.mk ⟨rfl, hy.swap.drop⟩

set_option maxRecDepth 20000 in
set_option maxHeartbeats 12800000 in
theorem moves_dying1full {w0 w : World} {F : HP} {b : Nat} {D D2 : Dk} {E : Nat → Addr} (hE : Errs w0 E) (hD : D.Ok) (hD2 : D2.Ok) (hm : D.arms.length < 8796093022207) (hm2 : D2.arms.length < 8796093022207) {O N M : Int} {DT : ByteArray} (hS : (⟨1, O, N, M, DT⟩ : Stp).Ok) (n : Int) (hd : D.dead = false) (hd2 : D2.dead = true) (hn0 : 0 < n) (hn2 : n ≤ 8796093022207) (hf : ¬ D.bytes.length + DT.size ≤ D.room) (hc2 : (D.laid ⟨1, O, N, M, DT⟩).fail D.diesK = D2) 
    (hACT : D.act (⟨1, O, N, M, DT⟩ : Stp) = (⟨[], 0, 10⟩, D2)) (hs : Sat w0 w (F * dk b D)) :
    Calls Tryd.prog 54 #[.pointer (some ⟨b, 0, none⟩), .agg #[.int .i64 1, .int .i64 O, .int .i64 N, .int .i64 M, .string DT], .int .i64 D.room, .int .i64 n] w (Ret fun v w' => v = .tuple #[.bool true, .int .i64 (n - 1)] ∧ Sat w0 w' (F * dk b D2)) := by
  have hT0 := hs.new #[.int .i64 1, .int .i64 O, .int .i64 N, .int .i64 M, .string DT] 83
  generalize hbt : w.heap.size = bt at hT0
  have hT := hT0.swap
  have HDD := Hid.mk' (disk_dead_is hd hT)
  have HD2 := Hid.mk' hd2
  have HACT := Hid.mk' hACT
  have HE := Hid.mk' hE
  have hb := hD.bytes
  have HOP := Hid.mk' (fun w => by have := law12_operation (w := w) (⟨1, O, N, M, DT⟩ : Stp); rw [show decide (1 ≤ (⟨1, O, N, M, DT⟩ : Stp).kind ∧ (⟨1, O, N, M, DT⟩ : Stp).kind ≤ 4) = true from rfl] at this; exact this)
  have hwn : IntKind.i64.wrap (n - 1) = n - 1 := by rw [IntKind.wrap_i64]; omega
  clear hn2
  clear hs hT0 hd hd2 hACT hE
  go_enter Tryd.func54, Tryd.ntmps54
  go_wp2_with (go_at_call 53; refine HDD.out.mono ?_; rintro e v0 ⟨rfl, rfl⟩)
  refine law12_look.mono ?_
  rintro e v1 ⟨v, rfl, rfl, hx⟩
  have hT1 := hT.then1 hx
  clear hx hT
  go_wp2_with fail
  refine (law12_actLook (D := D) (b := b) HE.out hD hm (F := F * blk bt [.int .i64 1, .int .i64 O, .int .i64 N, .int .i64 M, .string DT] 83) hT1).mono ?_
  rintro e v2 ⟨v, rfl, wa, wc, hwc, rfl, hx⟩
  have HWC := Hid.mk' hwc
  have hA0 := hx.new #[.slice wa D.bytes.length wc, .int .i64 D.synced, .int .i64 0] 87
  generalize hb11 : v2.heap.size = b11 at hA0
  have hA := hA0.perm (B := F * vec 5 1 (.slice wa D.bytes.length wc) D.bytes.length (bvs D.bytes) * blk b11 [.slice wa D.bytes.length wc, .int .i64 D.synced, .int .i64 0] 87 * blk bt [.int .i64 1, .int .i64 O, .int .i64 N, .int .i64 M, .string DT] 83 * dk b D) (by ac_rfl)
  have q0 := hA.swap.cell (i := 0) (v := .int .i64 1) rfl
  have q1 := hA.swap.cell (i := 1) (v := .int .i64 O) rfl
  have q2 := hA.swap.cell (i := 2) (v := .int .i64 N) rfl
  have q3 := hA.swap.cell (i := 3) (v := .int .i64 M) rfl
  have q4 := hA.swap.cell (i := 4) (v := .string DT) rfl
  clear hx hA0 hT1 hwc
  go_wp2_with fail
  refine (law12_act' HE.out hD (⟨1, O, N, M, DT⟩ : Stp) hS hm (b := b) (D := D) (F := F * vec 5 1 (.slice wa D.bytes.length wc) D.bytes.length (bvs D.bytes) * blk b11 [.slice wa D.bytes.length wc, .int .i64 D.synced, .int .i64 0] 87 * blk bt [.int .i64 1, .int .i64 O, .int .i64 N, .int .i64 M, .string DT] 83) hA).mono ?_
  rintro e v3 ⟨v, rfl, ga, gc, hgc, rfl, hx⟩
  rw [HACT.out] at hx ⊢
  have hB0 := hx.new #[.slice ga 0 gc, .int .i64 0, .int .i64 10] 87
  generalize hb12 : v3.heap.size = b12 at hB0
  have hB := hB0.perm (B := F * vec 5 1 (.slice wa D.bytes.length wc) D.bytes.length (bvs D.bytes) * vec 5 1 (.slice ga 0 gc) 0 [] * blk bt [.int .i64 1, .int .i64 O, .int .i64 N, .int .i64 M, .string DT] 83 * blk b11 [.slice wa D.bytes.length wc, .int .i64 D.synced, .int .i64 0] 87 * blk b12 [.slice ga 0 gc, .int .i64 0, .int .i64 10] 87 * dk b D2) (by ac_rfl)
  clear hx hB0 hA hgc q0 q1 q2 q3 q4
  go_wp2_with fail
  refine law12_look.mono ?_
  rintro e v4 ⟨v, rfl, rfl, hx⟩
  have hB1 := hB.then1 hx
  clear hx hB
  go_wp2_with fail
  refine (law12_actLook (D := D2) (b := b) HE.out hD2 hm2 (F := F * vec 5 1 (.slice wa D.bytes.length wc) D.bytes.length (bvs D.bytes) * vec 5 1 (.slice ga 0 gc) 0 [] * blk bt [.int .i64 1, .int .i64 O, .int .i64 N, .int .i64 M, .string DT] 83 * blk b11 [.slice wa D.bytes.length wc, .int .i64 D.synced, .int .i64 0] 87 * blk b12 [.slice ga 0 gc, .int .i64 0, .int .i64 10] 87) hB1).mono ?_
  rintro e v5 ⟨v, rfl, na, nc, hnc, rfl, hx⟩
  have hC0 := hx.new #[.slice na D2.bytes.length nc, .int .i64 D2.synced, .int .i64 0] 87
  generalize hb13 : v5.heap.size = b13 at hC0
  have hC := hC0.perm (B := F * dk b D2 * vec 5 1 (.slice wa D.bytes.length wc) D.bytes.length (bvs D.bytes) * vec 5 1 (.slice ga 0 gc) 0 [] * vec 5 1 (.slice na D2.bytes.length nc) D2.bytes.length (bvs D2.bytes) * blk bt [.int .i64 1, .int .i64 O, .int .i64 N, .int .i64 M, .string DT] 83 * blk b11 [.slice wa D.bytes.length wc, .int .i64 D.synced, .int .i64 0] 87 * blk b12 [.slice ga 0 gc, .int .i64 0, .int .i64 10] 87 * blk b13 [.slice na D2.bytes.length nc, .int .i64 D2.synced, .int .i64 0] 87) (by ac_rfl)
  have q0 := hC.rot4.cell (i := 0) (v := .int .i64 1) rfl
  have q1 := hC.rot4.cell (i := 1) (v := .int .i64 O) rfl
  have q2 := hC.rot4.cell (i := 2) (v := .int .i64 N) rfl
  have q3 := hC.rot4.cell (i := 3) (v := .int .i64 M) rfl
  have q4 := hC.rot4.cell (i := 4) (v := .string DT) rfl
  clear hx hC0 hB1 hnc
  go_wp2_with (first | (go_at_call 119; refine (died_full D.diesK hS.data hD hc2 hf wa na ga wc nc gc hG.rot7.rd (fun w' A h => Sat.rd (h.perm (B := F * A * (vec 5 1 (.slice wa D.bytes.length wc) D.bytes.length (bvs D.bytes) * vec 5 1 (.slice ga 0 gc) 0 [] * blk bt [.int .i64 1, .int .i64 O, .int .i64 N, .int .i64 M, .string DT] 83 * blk b11 [.slice wa D.bytes.length wc, .int .i64 D.synced, .int .i64 0] 87 * blk b12 [.slice ga 0 gc, .int .i64 0, .int .i64 10] 87 * blk b13 [.slice na D2.bytes.length nc, .int .i64 D2.synced, .int .i64 0] 87) * vec 5 1 (.slice na D2.bytes.length nc) D2.bytes.length (bvs D2.bytes)) (by ac_rfl))) (hG.perm (B := F * (vec 5 1 (.slice wa D.bytes.length wc) D.bytes.length (bvs D.bytes) * vec 5 1 (.slice ga 0 gc) 0 [] * blk bt [.int .i64 1, .int .i64 O, .int .i64 N, .int .i64 M, .string DT] 83 * blk b11 [.slice wa D.bytes.length wc, .int .i64 D.synced, .int .i64 0] 87 * blk b12 [.slice ga 0 gc, .int .i64 0, .int .i64 10] 87 * blk b13 [.slice na D2.bytes.length nc, .int .i64 D2.synced, .int .i64 0] 87 * vec 5 1 (.slice na D2.bytes.length nc) D2.bytes.length (bvs D2.bytes)) * dk b D2) (by ac_rfl))).mono ?_; rintro e v8 ⟨v, rfl, rfl, hy⟩) | (go_at_call 118; refine (HOP.out _).mono ?_; rintro e v6 ⟨v, rfl, rfl, ho⟩; have hG := hC.then1 ho; have q0a := hG.rot4.cell (i := 0) (v := .int .i64 1) rfl; have q1a := hG.rot4.cell (i := 1) (v := .int .i64 O) rfl; have q2a := hG.rot4.cell (i := 2) (v := .int .i64 N) rfl; have q3a := hG.rot4.cell (i := 3) (v := .int .i64 M) rfl; have q4a := hG.rot4.cell (i := 4) (v := .string DT) rfl; have p0a := hG.rot3.cell (i := 0) (v := .slice wa D.bytes.length wc) rfl; have p1a := hG.rot3.cell (i := 1) (v := .int .i64 D.synced) rfl; have p2a := hG.rot3.cell (i := 2) (v := .int .i64 0) rfl; have g0a := hG.swap.cell (i := 0) (v := .slice ga 0 gc) rfl; have g1a := hG.swap.cell (i := 1) (v := .int .i64 0) rfl; have g2a := hG.swap.cell (i := 2) (v := .int .i64 10) rfl; have n0a := hG.cell (i := 0) (v := .slice na D2.bytes.length nc) rfl; have n1a := hG.cell (i := 1) (v := .int .i64 D2.synced) rfl; have n2a := hG.cell (i := 2) (v := .int .i64 0) rfl))
  go_ret2
  exact Ret.mk ⟨rfl, hy.swap.drop⟩

set_option maxRecDepth 20000 in
set_option maxHeartbeats 12800000 in
theorem moves_dying2 {w0 w : World} {F : HP} {b : Nat} {D D2 : Dk} {E : Nat → Addr} (hE : Errs w0 E) (hD : D.Ok) (hD2 : D2.Ok) (hm : D.arms.length < 8796093022207) (hm2 : D2.arms.length < 8796093022207) {O N M : Int} {DT : ByteArray} (hS : (⟨2, O, N, M, DT⟩ : Stp).Ok) (n : Int) (hd : D.dead = false) (hd2 : D2.dead = true) (hn0 : 0 < n) (hn2 : n ≤ 8796093022207) (hc2 : (D.laid ⟨2, O, N, M, DT⟩).fail D.diesK = D2) 
    (hACT : D.act (⟨2, O, N, M, DT⟩ : Stp) = (⟨[], 0, 10⟩, D2)) (hs : Sat w0 w (F * dk b D)) :
    Calls Tryd.prog 54 #[.pointer (some ⟨b, 0, none⟩), .agg #[.int .i64 2, .int .i64 O, .int .i64 N, .int .i64 M, .string DT], .int .i64 D.room, .int .i64 n] w (Ret fun v w' => v = .tuple #[.bool true, .int .i64 (n - 1)] ∧ Sat w0 w' (F * dk b D2)) := by
  have hT0 := hs.new #[.int .i64 2, .int .i64 O, .int .i64 N, .int .i64 M, .string DT] 83
  generalize hbt : w.heap.size = bt at hT0
  have hT := hT0.swap
  have HDD := Hid.mk' (disk_dead_is hd hT)
  have HD2 := Hid.mk' hd2
  have HACT := Hid.mk' hACT
  have HE := Hid.mk' hE
  have hb := hD.bytes
  have HOP := Hid.mk' (fun w => by have := law12_operation (w := w) (⟨2, O, N, M, DT⟩ : Stp); rw [show decide (1 ≤ (⟨2, O, N, M, DT⟩ : Stp).kind ∧ (⟨2, O, N, M, DT⟩ : Stp).kind ≤ 4) = true from rfl] at this; exact this)
  have hwn : IntKind.i64.wrap (n - 1) = n - 1 := by rw [IntKind.wrap_i64]; omega
  clear hn2
  clear hs hT0 hd hd2 hACT hE
  go_enter Tryd.func54, Tryd.ntmps54
  go_wp2_with (go_at_call 53; refine HDD.out.mono ?_; rintro e v0 ⟨rfl, rfl⟩)
  refine law12_look.mono ?_
  rintro e v1 ⟨v, rfl, rfl, hx⟩
  have hT1 := hT.then1 hx
  clear hx hT
  go_wp2_with fail
  refine (law12_actLook (D := D) (b := b) HE.out hD hm (F := F * blk bt [.int .i64 2, .int .i64 O, .int .i64 N, .int .i64 M, .string DT] 83) hT1).mono ?_
  rintro e v2 ⟨v, rfl, wa, wc, hwc, rfl, hx⟩
  have HWC := Hid.mk' hwc
  have hA0 := hx.new #[.slice wa D.bytes.length wc, .int .i64 D.synced, .int .i64 0] 87
  generalize hb11 : v2.heap.size = b11 at hA0
  have hA := hA0.perm (B := F * vec 5 1 (.slice wa D.bytes.length wc) D.bytes.length (bvs D.bytes) * blk b11 [.slice wa D.bytes.length wc, .int .i64 D.synced, .int .i64 0] 87 * blk bt [.int .i64 2, .int .i64 O, .int .i64 N, .int .i64 M, .string DT] 83 * dk b D) (by ac_rfl)
  have q0 := hA.swap.cell (i := 0) (v := .int .i64 2) rfl
  have q1 := hA.swap.cell (i := 1) (v := .int .i64 O) rfl
  have q2 := hA.swap.cell (i := 2) (v := .int .i64 N) rfl
  have q3 := hA.swap.cell (i := 3) (v := .int .i64 M) rfl
  have q4 := hA.swap.cell (i := 4) (v := .string DT) rfl
  clear hx hA0 hT1 hwc
  go_wp2_with fail
  refine (law12_act' HE.out hD (⟨2, O, N, M, DT⟩ : Stp) hS hm (b := b) (D := D) (F := F * vec 5 1 (.slice wa D.bytes.length wc) D.bytes.length (bvs D.bytes) * blk b11 [.slice wa D.bytes.length wc, .int .i64 D.synced, .int .i64 0] 87 * blk bt [.int .i64 2, .int .i64 O, .int .i64 N, .int .i64 M, .string DT] 83) hA).mono ?_
  rintro e v3 ⟨v, rfl, ga, gc, hgc, rfl, hx⟩
  rw [HACT.out] at hx ⊢
  have hB0 := hx.new #[.slice ga 0 gc, .int .i64 0, .int .i64 10] 87
  generalize hb12 : v3.heap.size = b12 at hB0
  have hB := hB0.perm (B := F * vec 5 1 (.slice wa D.bytes.length wc) D.bytes.length (bvs D.bytes) * vec 5 1 (.slice ga 0 gc) 0 [] * blk bt [.int .i64 2, .int .i64 O, .int .i64 N, .int .i64 M, .string DT] 83 * blk b11 [.slice wa D.bytes.length wc, .int .i64 D.synced, .int .i64 0] 87 * blk b12 [.slice ga 0 gc, .int .i64 0, .int .i64 10] 87 * dk b D2) (by ac_rfl)
  clear hx hB0 hA hgc q0 q1 q2 q3 q4
  go_wp2_with fail
  refine law12_look.mono ?_
  rintro e v4 ⟨v, rfl, rfl, hx⟩
  have hB1 := hB.then1 hx
  clear hx hB
  go_wp2_with fail
  refine (law12_actLook (D := D2) (b := b) HE.out hD2 hm2 (F := F * vec 5 1 (.slice wa D.bytes.length wc) D.bytes.length (bvs D.bytes) * vec 5 1 (.slice ga 0 gc) 0 [] * blk bt [.int .i64 2, .int .i64 O, .int .i64 N, .int .i64 M, .string DT] 83 * blk b11 [.slice wa D.bytes.length wc, .int .i64 D.synced, .int .i64 0] 87 * blk b12 [.slice ga 0 gc, .int .i64 0, .int .i64 10] 87) hB1).mono ?_
  rintro e v5 ⟨v, rfl, na, nc, hnc, rfl, hx⟩
  have hC0 := hx.new #[.slice na D2.bytes.length nc, .int .i64 D2.synced, .int .i64 0] 87
  generalize hb13 : v5.heap.size = b13 at hC0
  have hC := hC0.perm (B := F * dk b D2 * vec 5 1 (.slice wa D.bytes.length wc) D.bytes.length (bvs D.bytes) * vec 5 1 (.slice ga 0 gc) 0 [] * vec 5 1 (.slice na D2.bytes.length nc) D2.bytes.length (bvs D2.bytes) * blk bt [.int .i64 2, .int .i64 O, .int .i64 N, .int .i64 M, .string DT] 83 * blk b11 [.slice wa D.bytes.length wc, .int .i64 D.synced, .int .i64 0] 87 * blk b12 [.slice ga 0 gc, .int .i64 0, .int .i64 10] 87 * blk b13 [.slice na D2.bytes.length nc, .int .i64 D2.synced, .int .i64 0] 87) (by ac_rfl)
  have q0 := hC.rot4.cell (i := 0) (v := .int .i64 2) rfl
  have q1 := hC.rot4.cell (i := 1) (v := .int .i64 O) rfl
  have q2 := hC.rot4.cell (i := 2) (v := .int .i64 N) rfl
  have q3 := hC.rot4.cell (i := 3) (v := .int .i64 M) rfl
  have q4 := hC.rot4.cell (i := 4) (v := .string DT) rfl
  clear hx hC0 hB1 hnc
  go_wp2_with (first | (go_at_call 119; refine (died_else D.diesK hD hc2 (by decide) wa na ga wc nc gc hG.rot7.rd (fun w' A h => Sat.rd (h.perm (B := F * A * (vec 5 1 (.slice wa D.bytes.length wc) D.bytes.length (bvs D.bytes) * vec 5 1 (.slice ga 0 gc) 0 [] * blk bt [.int .i64 2, .int .i64 O, .int .i64 N, .int .i64 M, .string DT] 83 * blk b11 [.slice wa D.bytes.length wc, .int .i64 D.synced, .int .i64 0] 87 * blk b12 [.slice ga 0 gc, .int .i64 0, .int .i64 10] 87 * blk b13 [.slice na D2.bytes.length nc, .int .i64 D2.synced, .int .i64 0] 87) * vec 5 1 (.slice na D2.bytes.length nc) D2.bytes.length (bvs D2.bytes)) (by ac_rfl))) (hG.perm (B := F * (vec 5 1 (.slice wa D.bytes.length wc) D.bytes.length (bvs D.bytes) * vec 5 1 (.slice ga 0 gc) 0 [] * blk bt [.int .i64 2, .int .i64 O, .int .i64 N, .int .i64 M, .string DT] 83 * blk b11 [.slice wa D.bytes.length wc, .int .i64 D.synced, .int .i64 0] 87 * blk b12 [.slice ga 0 gc, .int .i64 0, .int .i64 10] 87 * blk b13 [.slice na D2.bytes.length nc, .int .i64 D2.synced, .int .i64 0] 87 * vec 5 1 (.slice na D2.bytes.length nc) D2.bytes.length (bvs D2.bytes)) * dk b D2) (by ac_rfl))).mono ?_; rintro e v8 ⟨v, rfl, rfl, hy⟩) | (go_at_call 118; refine (HOP.out _).mono ?_; rintro e v6 ⟨v, rfl, rfl, ho⟩; have hG := hC.then1 ho; have q0a := hG.rot4.cell (i := 0) (v := .int .i64 2) rfl; have q1a := hG.rot4.cell (i := 1) (v := .int .i64 O) rfl; have q2a := hG.rot4.cell (i := 2) (v := .int .i64 N) rfl; have q3a := hG.rot4.cell (i := 3) (v := .int .i64 M) rfl; have q4a := hG.rot4.cell (i := 4) (v := .string DT) rfl; have p0a := hG.rot3.cell (i := 0) (v := .slice wa D.bytes.length wc) rfl; have p1a := hG.rot3.cell (i := 1) (v := .int .i64 D.synced) rfl; have p2a := hG.rot3.cell (i := 2) (v := .int .i64 0) rfl; have g0a := hG.swap.cell (i := 0) (v := .slice ga 0 gc) rfl; have g1a := hG.swap.cell (i := 1) (v := .int .i64 0) rfl; have g2a := hG.swap.cell (i := 2) (v := .int .i64 10) rfl; have n0a := hG.cell (i := 0) (v := .slice na D2.bytes.length nc) rfl; have n1a := hG.cell (i := 1) (v := .int .i64 D2.synced) rfl; have n2a := hG.cell (i := 2) (v := .int .i64 0) rfl))
  go_ret2
  exact Ret.mk ⟨rfl, hy.swap.drop⟩

set_option maxRecDepth 20000 in
set_option maxHeartbeats 12800000 in
theorem moves_dying3 {w0 w : World} {F : HP} {b : Nat} {D D2 : Dk} {E : Nat → Addr} (hE : Errs w0 E) (hD : D.Ok) (hD2 : D2.Ok) (hm : D.arms.length < 8796093022207) (hm2 : D2.arms.length < 8796093022207) {O N M : Int} {DT : ByteArray} (hS : (⟨3, O, N, M, DT⟩ : Stp).Ok) (n : Int) (hd : D.dead = false) (hd2 : D2.dead = true) (hn0 : 0 < n) (hn2 : n ≤ 8796093022207) (hc2 : (D.laid ⟨3, O, N, M, DT⟩).fail D.diesK = D2) 
    (hACT : D.act (⟨3, O, N, M, DT⟩ : Stp) = (⟨[], 0, 10⟩, D2)) (hs : Sat w0 w (F * dk b D)) :
    Calls Tryd.prog 54 #[.pointer (some ⟨b, 0, none⟩), .agg #[.int .i64 3, .int .i64 O, .int .i64 N, .int .i64 M, .string DT], .int .i64 D.room, .int .i64 n] w (Ret fun v w' => v = .tuple #[.bool true, .int .i64 (n - 1)] ∧ Sat w0 w' (F * dk b D2)) := by
  have hT0 := hs.new #[.int .i64 3, .int .i64 O, .int .i64 N, .int .i64 M, .string DT] 83
  generalize hbt : w.heap.size = bt at hT0
  have hT := hT0.swap
  have HDD := Hid.mk' (disk_dead_is hd hT)
  have HD2 := Hid.mk' hd2
  have HACT := Hid.mk' hACT
  have HE := Hid.mk' hE
  have hb := hD.bytes
  have HOP := Hid.mk' (fun w => by have := law12_operation (w := w) (⟨3, O, N, M, DT⟩ : Stp); rw [show decide (1 ≤ (⟨3, O, N, M, DT⟩ : Stp).kind ∧ (⟨3, O, N, M, DT⟩ : Stp).kind ≤ 4) = true from rfl] at this; exact this)
  have hwn : IntKind.i64.wrap (n - 1) = n - 1 := by rw [IntKind.wrap_i64]; omega
  clear hn2
  clear hs hT0 hd hd2 hACT hE
  go_enter Tryd.func54, Tryd.ntmps54
  go_wp2_with (go_at_call 53; refine HDD.out.mono ?_; rintro e v0 ⟨rfl, rfl⟩)
  refine law12_look.mono ?_
  rintro e v1 ⟨v, rfl, rfl, hx⟩
  have hT1 := hT.then1 hx
  clear hx hT
  go_wp2_with fail
  refine (law12_actLook (D := D) (b := b) HE.out hD hm (F := F * blk bt [.int .i64 3, .int .i64 O, .int .i64 N, .int .i64 M, .string DT] 83) hT1).mono ?_
  rintro e v2 ⟨v, rfl, wa, wc, hwc, rfl, hx⟩
  have HWC := Hid.mk' hwc
  have hA0 := hx.new #[.slice wa D.bytes.length wc, .int .i64 D.synced, .int .i64 0] 87
  generalize hb11 : v2.heap.size = b11 at hA0
  have hA := hA0.perm (B := F * vec 5 1 (.slice wa D.bytes.length wc) D.bytes.length (bvs D.bytes) * blk b11 [.slice wa D.bytes.length wc, .int .i64 D.synced, .int .i64 0] 87 * blk bt [.int .i64 3, .int .i64 O, .int .i64 N, .int .i64 M, .string DT] 83 * dk b D) (by ac_rfl)
  have q0 := hA.swap.cell (i := 0) (v := .int .i64 3) rfl
  have q1 := hA.swap.cell (i := 1) (v := .int .i64 O) rfl
  have q2 := hA.swap.cell (i := 2) (v := .int .i64 N) rfl
  have q3 := hA.swap.cell (i := 3) (v := .int .i64 M) rfl
  have q4 := hA.swap.cell (i := 4) (v := .string DT) rfl
  clear hx hA0 hT1 hwc
  go_wp2_with fail
  refine (law12_act' HE.out hD (⟨3, O, N, M, DT⟩ : Stp) hS hm (b := b) (D := D) (F := F * vec 5 1 (.slice wa D.bytes.length wc) D.bytes.length (bvs D.bytes) * blk b11 [.slice wa D.bytes.length wc, .int .i64 D.synced, .int .i64 0] 87 * blk bt [.int .i64 3, .int .i64 O, .int .i64 N, .int .i64 M, .string DT] 83) hA).mono ?_
  rintro e v3 ⟨v, rfl, ga, gc, hgc, rfl, hx⟩
  rw [HACT.out] at hx ⊢
  have hB0 := hx.new #[.slice ga 0 gc, .int .i64 0, .int .i64 10] 87
  generalize hb12 : v3.heap.size = b12 at hB0
  have hB := hB0.perm (B := F * vec 5 1 (.slice wa D.bytes.length wc) D.bytes.length (bvs D.bytes) * vec 5 1 (.slice ga 0 gc) 0 [] * blk bt [.int .i64 3, .int .i64 O, .int .i64 N, .int .i64 M, .string DT] 83 * blk b11 [.slice wa D.bytes.length wc, .int .i64 D.synced, .int .i64 0] 87 * blk b12 [.slice ga 0 gc, .int .i64 0, .int .i64 10] 87 * dk b D2) (by ac_rfl)
  clear hx hB0 hA hgc q0 q1 q2 q3 q4
  go_wp2_with fail
  refine law12_look.mono ?_
  rintro e v4 ⟨v, rfl, rfl, hx⟩
  have hB1 := hB.then1 hx
  clear hx hB
  go_wp2_with fail
  refine (law12_actLook (D := D2) (b := b) HE.out hD2 hm2 (F := F * vec 5 1 (.slice wa D.bytes.length wc) D.bytes.length (bvs D.bytes) * vec 5 1 (.slice ga 0 gc) 0 [] * blk bt [.int .i64 3, .int .i64 O, .int .i64 N, .int .i64 M, .string DT] 83 * blk b11 [.slice wa D.bytes.length wc, .int .i64 D.synced, .int .i64 0] 87 * blk b12 [.slice ga 0 gc, .int .i64 0, .int .i64 10] 87) hB1).mono ?_
  rintro e v5 ⟨v, rfl, na, nc, hnc, rfl, hx⟩
  have hC0 := hx.new #[.slice na D2.bytes.length nc, .int .i64 D2.synced, .int .i64 0] 87
  generalize hb13 : v5.heap.size = b13 at hC0
  have hC := hC0.perm (B := F * dk b D2 * vec 5 1 (.slice wa D.bytes.length wc) D.bytes.length (bvs D.bytes) * vec 5 1 (.slice ga 0 gc) 0 [] * vec 5 1 (.slice na D2.bytes.length nc) D2.bytes.length (bvs D2.bytes) * blk bt [.int .i64 3, .int .i64 O, .int .i64 N, .int .i64 M, .string DT] 83 * blk b11 [.slice wa D.bytes.length wc, .int .i64 D.synced, .int .i64 0] 87 * blk b12 [.slice ga 0 gc, .int .i64 0, .int .i64 10] 87 * blk b13 [.slice na D2.bytes.length nc, .int .i64 D2.synced, .int .i64 0] 87) (by ac_rfl)
  have q0 := hC.rot4.cell (i := 0) (v := .int .i64 3) rfl
  have q1 := hC.rot4.cell (i := 1) (v := .int .i64 O) rfl
  have q2 := hC.rot4.cell (i := 2) (v := .int .i64 N) rfl
  have q3 := hC.rot4.cell (i := 3) (v := .int .i64 M) rfl
  have q4 := hC.rot4.cell (i := 4) (v := .string DT) rfl
  clear hx hC0 hB1 hnc
  go_wp2_with (first | (go_at_call 119; refine (died_else D.diesK hD hc2 (by decide) wa na ga wc nc gc hG.rot7.rd (fun w' A h => Sat.rd (h.perm (B := F * A * (vec 5 1 (.slice wa D.bytes.length wc) D.bytes.length (bvs D.bytes) * vec 5 1 (.slice ga 0 gc) 0 [] * blk bt [.int .i64 3, .int .i64 O, .int .i64 N, .int .i64 M, .string DT] 83 * blk b11 [.slice wa D.bytes.length wc, .int .i64 D.synced, .int .i64 0] 87 * blk b12 [.slice ga 0 gc, .int .i64 0, .int .i64 10] 87 * blk b13 [.slice na D2.bytes.length nc, .int .i64 D2.synced, .int .i64 0] 87) * vec 5 1 (.slice na D2.bytes.length nc) D2.bytes.length (bvs D2.bytes)) (by ac_rfl))) (hG.perm (B := F * (vec 5 1 (.slice wa D.bytes.length wc) D.bytes.length (bvs D.bytes) * vec 5 1 (.slice ga 0 gc) 0 [] * blk bt [.int .i64 3, .int .i64 O, .int .i64 N, .int .i64 M, .string DT] 83 * blk b11 [.slice wa D.bytes.length wc, .int .i64 D.synced, .int .i64 0] 87 * blk b12 [.slice ga 0 gc, .int .i64 0, .int .i64 10] 87 * blk b13 [.slice na D2.bytes.length nc, .int .i64 D2.synced, .int .i64 0] 87 * vec 5 1 (.slice na D2.bytes.length nc) D2.bytes.length (bvs D2.bytes)) * dk b D2) (by ac_rfl))).mono ?_; rintro e v8 ⟨v, rfl, rfl, hy⟩) | (go_at_call 118; refine (HOP.out _).mono ?_; rintro e v6 ⟨v, rfl, rfl, ho⟩; have hG := hC.then1 ho; have q0a := hG.rot4.cell (i := 0) (v := .int .i64 3) rfl; have q1a := hG.rot4.cell (i := 1) (v := .int .i64 O) rfl; have q2a := hG.rot4.cell (i := 2) (v := .int .i64 N) rfl; have q3a := hG.rot4.cell (i := 3) (v := .int .i64 M) rfl; have q4a := hG.rot4.cell (i := 4) (v := .string DT) rfl; have p0a := hG.rot3.cell (i := 0) (v := .slice wa D.bytes.length wc) rfl; have p1a := hG.rot3.cell (i := 1) (v := .int .i64 D.synced) rfl; have p2a := hG.rot3.cell (i := 2) (v := .int .i64 0) rfl; have g0a := hG.swap.cell (i := 0) (v := .slice ga 0 gc) rfl; have g1a := hG.swap.cell (i := 1) (v := .int .i64 0) rfl; have g2a := hG.swap.cell (i := 2) (v := .int .i64 10) rfl; have n0a := hG.cell (i := 0) (v := .slice na D2.bytes.length nc) rfl; have n1a := hG.cell (i := 1) (v := .int .i64 D2.synced) rfl; have n2a := hG.cell (i := 2) (v := .int .i64 0) rfl))
  go_ret2
  exact Ret.mk ⟨rfl, hy.swap.drop⟩

set_option maxRecDepth 20000 in
set_option maxHeartbeats 12800000 in
theorem moves_dying4 {w0 w : World} {F : HP} {b : Nat} {D D2 : Dk} {E : Nat → Addr} (hE : Errs w0 E) (hD : D.Ok) (hD2 : D2.Ok) (hm : D.arms.length < 8796093022207) (hm2 : D2.arms.length < 8796093022207) {O N M : Int} {DT : ByteArray} (hS : (⟨4, O, N, M, DT⟩ : Stp).Ok) (n : Int) (hd : D.dead = false) (hd2 : D2.dead = true) (hn0 : 0 < n) (hn2 : n ≤ 8796093022207) (hc2 : (D.laid ⟨4, O, N, M, DT⟩).fail D.diesK = D2) 
    (hACT : D.act (⟨4, O, N, M, DT⟩ : Stp) = (⟨[], 0, 10⟩, D2)) (hs : Sat w0 w (F * dk b D)) :
    Calls Tryd.prog 54 #[.pointer (some ⟨b, 0, none⟩), .agg #[.int .i64 4, .int .i64 O, .int .i64 N, .int .i64 M, .string DT], .int .i64 D.room, .int .i64 n] w (Ret fun v w' => v = .tuple #[.bool true, .int .i64 (n - 1)] ∧ Sat w0 w' (F * dk b D2)) := by
  have hT0 := hs.new #[.int .i64 4, .int .i64 O, .int .i64 N, .int .i64 M, .string DT] 83
  generalize hbt : w.heap.size = bt at hT0
  have hT := hT0.swap
  have HDD := Hid.mk' (disk_dead_is hd hT)
  have HD2 := Hid.mk' hd2
  have HACT := Hid.mk' hACT
  have HE := Hid.mk' hE
  have hb := hD.bytes
  have HOP := Hid.mk' (fun w => by have := law12_operation (w := w) (⟨4, O, N, M, DT⟩ : Stp); rw [show decide (1 ≤ (⟨4, O, N, M, DT⟩ : Stp).kind ∧ (⟨4, O, N, M, DT⟩ : Stp).kind ≤ 4) = true from rfl] at this; exact this)
  have hwn : IntKind.i64.wrap (n - 1) = n - 1 := by rw [IntKind.wrap_i64]; omega
  clear hn2
  clear hs hT0 hd hd2 hACT hE
  go_enter Tryd.func54, Tryd.ntmps54
  go_wp2_with (go_at_call 53; refine HDD.out.mono ?_; rintro e v0 ⟨rfl, rfl⟩)
  refine law12_look.mono ?_
  rintro e v1 ⟨v, rfl, rfl, hx⟩
  have hT1 := hT.then1 hx
  clear hx hT
  go_wp2_with fail
  refine (law12_actLook (D := D) (b := b) HE.out hD hm (F := F * blk bt [.int .i64 4, .int .i64 O, .int .i64 N, .int .i64 M, .string DT] 83) hT1).mono ?_
  rintro e v2 ⟨v, rfl, wa, wc, hwc, rfl, hx⟩
  have HWC := Hid.mk' hwc
  have hA0 := hx.new #[.slice wa D.bytes.length wc, .int .i64 D.synced, .int .i64 0] 87
  generalize hb11 : v2.heap.size = b11 at hA0
  have hA := hA0.perm (B := F * vec 5 1 (.slice wa D.bytes.length wc) D.bytes.length (bvs D.bytes) * blk b11 [.slice wa D.bytes.length wc, .int .i64 D.synced, .int .i64 0] 87 * blk bt [.int .i64 4, .int .i64 O, .int .i64 N, .int .i64 M, .string DT] 83 * dk b D) (by ac_rfl)
  have q0 := hA.swap.cell (i := 0) (v := .int .i64 4) rfl
  have q1 := hA.swap.cell (i := 1) (v := .int .i64 O) rfl
  have q2 := hA.swap.cell (i := 2) (v := .int .i64 N) rfl
  have q3 := hA.swap.cell (i := 3) (v := .int .i64 M) rfl
  have q4 := hA.swap.cell (i := 4) (v := .string DT) rfl
  clear hx hA0 hT1 hwc
  go_wp2_with fail
  refine (law12_act' HE.out hD (⟨4, O, N, M, DT⟩ : Stp) hS hm (b := b) (D := D) (F := F * vec 5 1 (.slice wa D.bytes.length wc) D.bytes.length (bvs D.bytes) * blk b11 [.slice wa D.bytes.length wc, .int .i64 D.synced, .int .i64 0] 87 * blk bt [.int .i64 4, .int .i64 O, .int .i64 N, .int .i64 M, .string DT] 83) hA).mono ?_
  rintro e v3 ⟨v, rfl, ga, gc, hgc, rfl, hx⟩
  rw [HACT.out] at hx ⊢
  have hB0 := hx.new #[.slice ga 0 gc, .int .i64 0, .int .i64 10] 87
  generalize hb12 : v3.heap.size = b12 at hB0
  have hB := hB0.perm (B := F * vec 5 1 (.slice wa D.bytes.length wc) D.bytes.length (bvs D.bytes) * vec 5 1 (.slice ga 0 gc) 0 [] * blk bt [.int .i64 4, .int .i64 O, .int .i64 N, .int .i64 M, .string DT] 83 * blk b11 [.slice wa D.bytes.length wc, .int .i64 D.synced, .int .i64 0] 87 * blk b12 [.slice ga 0 gc, .int .i64 0, .int .i64 10] 87 * dk b D2) (by ac_rfl)
  clear hx hB0 hA hgc q0 q1 q2 q3 q4
  go_wp2_with fail
  refine law12_look.mono ?_
  rintro e v4 ⟨v, rfl, rfl, hx⟩
  have hB1 := hB.then1 hx
  clear hx hB
  go_wp2_with fail
  refine (law12_actLook (D := D2) (b := b) HE.out hD2 hm2 (F := F * vec 5 1 (.slice wa D.bytes.length wc) D.bytes.length (bvs D.bytes) * vec 5 1 (.slice ga 0 gc) 0 [] * blk bt [.int .i64 4, .int .i64 O, .int .i64 N, .int .i64 M, .string DT] 83 * blk b11 [.slice wa D.bytes.length wc, .int .i64 D.synced, .int .i64 0] 87 * blk b12 [.slice ga 0 gc, .int .i64 0, .int .i64 10] 87) hB1).mono ?_
  rintro e v5 ⟨v, rfl, na, nc, hnc, rfl, hx⟩
  have hC0 := hx.new #[.slice na D2.bytes.length nc, .int .i64 D2.synced, .int .i64 0] 87
  generalize hb13 : v5.heap.size = b13 at hC0
  have hC := hC0.perm (B := F * dk b D2 * vec 5 1 (.slice wa D.bytes.length wc) D.bytes.length (bvs D.bytes) * vec 5 1 (.slice ga 0 gc) 0 [] * vec 5 1 (.slice na D2.bytes.length nc) D2.bytes.length (bvs D2.bytes) * blk bt [.int .i64 4, .int .i64 O, .int .i64 N, .int .i64 M, .string DT] 83 * blk b11 [.slice wa D.bytes.length wc, .int .i64 D.synced, .int .i64 0] 87 * blk b12 [.slice ga 0 gc, .int .i64 0, .int .i64 10] 87 * blk b13 [.slice na D2.bytes.length nc, .int .i64 D2.synced, .int .i64 0] 87) (by ac_rfl)
  have q0 := hC.rot4.cell (i := 0) (v := .int .i64 4) rfl
  have q1 := hC.rot4.cell (i := 1) (v := .int .i64 O) rfl
  have q2 := hC.rot4.cell (i := 2) (v := .int .i64 N) rfl
  have q3 := hC.rot4.cell (i := 3) (v := .int .i64 M) rfl
  have q4 := hC.rot4.cell (i := 4) (v := .string DT) rfl
  clear hx hC0 hB1 hnc
  go_wp2_with (first | (go_at_call 119; refine (died_else D.diesK hD hc2 (by decide) wa na ga wc nc gc hG.rot7.rd (fun w' A h => Sat.rd (h.perm (B := F * A * (vec 5 1 (.slice wa D.bytes.length wc) D.bytes.length (bvs D.bytes) * vec 5 1 (.slice ga 0 gc) 0 [] * blk bt [.int .i64 4, .int .i64 O, .int .i64 N, .int .i64 M, .string DT] 83 * blk b11 [.slice wa D.bytes.length wc, .int .i64 D.synced, .int .i64 0] 87 * blk b12 [.slice ga 0 gc, .int .i64 0, .int .i64 10] 87 * blk b13 [.slice na D2.bytes.length nc, .int .i64 D2.synced, .int .i64 0] 87) * vec 5 1 (.slice na D2.bytes.length nc) D2.bytes.length (bvs D2.bytes)) (by ac_rfl))) (hG.perm (B := F * (vec 5 1 (.slice wa D.bytes.length wc) D.bytes.length (bvs D.bytes) * vec 5 1 (.slice ga 0 gc) 0 [] * blk bt [.int .i64 4, .int .i64 O, .int .i64 N, .int .i64 M, .string DT] 83 * blk b11 [.slice wa D.bytes.length wc, .int .i64 D.synced, .int .i64 0] 87 * blk b12 [.slice ga 0 gc, .int .i64 0, .int .i64 10] 87 * blk b13 [.slice na D2.bytes.length nc, .int .i64 D2.synced, .int .i64 0] 87 * vec 5 1 (.slice na D2.bytes.length nc) D2.bytes.length (bvs D2.bytes)) * dk b D2) (by ac_rfl))).mono ?_; rintro e v8 ⟨v, rfl, rfl, hy⟩) | (go_at_call 118; refine (HOP.out _).mono ?_; rintro e v6 ⟨v, rfl, rfl, ho⟩; have hG := hC.then1 ho; have q0a := hG.rot4.cell (i := 0) (v := .int .i64 4) rfl; have q1a := hG.rot4.cell (i := 1) (v := .int .i64 O) rfl; have q2a := hG.rot4.cell (i := 2) (v := .int .i64 N) rfl; have q3a := hG.rot4.cell (i := 3) (v := .int .i64 M) rfl; have q4a := hG.rot4.cell (i := 4) (v := .string DT) rfl; have p0a := hG.rot3.cell (i := 0) (v := .slice wa D.bytes.length wc) rfl; have p1a := hG.rot3.cell (i := 1) (v := .int .i64 D.synced) rfl; have p2a := hG.rot3.cell (i := 2) (v := .int .i64 0) rfl; have g0a := hG.swap.cell (i := 0) (v := .slice ga 0 gc) rfl; have g1a := hG.swap.cell (i := 1) (v := .int .i64 0) rfl; have g2a := hG.swap.cell (i := 2) (v := .int .i64 10) rfl; have n0a := hG.cell (i := 0) (v := .slice na D2.bytes.length nc) rfl; have n1a := hG.cell (i := 1) (v := .int .i64 D2.synced) rfl; have n2a := hG.cell (i := 2) (v := .int .i64 0) rfl))
  go_ret2
  exact Ret.mk ⟨rfl, hy.swap.drop⟩

end Go.Proofs.YtjhlelcopofkkaaDoor
