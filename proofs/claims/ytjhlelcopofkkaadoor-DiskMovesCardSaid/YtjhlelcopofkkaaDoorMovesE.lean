/- What the law DiskMoves demands of one call: part e. -/
import Derived.Test.YtjhlelcopofkkaaDoorMovesA
namespace Go.Proofs.YtjhlelcopofkkaaDoor
open Go.RowKit

set_option maxRecDepth 20000 in
set_option maxHeartbeats 12800000 in
theorem moves_live1fits {w0 w : World} {F : HP} {b : Nat} {D D2 : Dk} {E : Nat → Addr} (hE : Errs w0 E) (hD : D.Ok) (hD2 : D2.Ok) (hm : D.arms.length < 8796093022207) (hm2 : D2.arms.length < 8796093022207) {O N M : Int} {DT : ByteArray} (hS : (⟨1, O, N, M, DT⟩ : Stp).Ok) (n : Int) {X : List UInt8} (hd : D.dead = false) (hd2 : D2.dead = false) (hQ : D2.bytes = X) (hsq : D2.synced = D.synced) (hf : D.bytes.length + DT.size ≤ D.room) (hX : X = D.bytes ++ DT.data.toList) 
    (hACT : D.act (⟨1, O, N, M, DT⟩ : Stp) = (⟨[], 0, 0⟩, D2)) (hs : Sat w0 w (F * dk b D)) :
    Calls Tryd.prog 54 #[.pointer (some ⟨b, 0, none⟩), .agg #[.int .i64 1, .int .i64 O, .int .i64 N, .int .i64 M, .string DT], .int .i64 D.room, .int .i64 n] w (Ret fun v w' => v = .tuple #[.bool true, .int .i64 n] ∧ Sat w0 w' (F * dk b D2)) := by
  have hT0 := hs.new #[.int .i64 1, .int .i64 O, .int .i64 N, .int .i64 M, .string DT] 83
  generalize hbt : w.heap.size = bt at hT0
  have hT := hT0.swap
  have HDD := Hid.mk' (disk_dead_is hd hT)
  have HD2 := Hid.mk' hd2
  have HACT := Hid.mk' hACT
  have HE := Hid.mk' hE
  have hb := hD.bytes
  have HOP := Hid.mk' (fun w => by have := law12_operation (w := w) (⟨1, O, N, M, DT⟩ : Stp); rw [show decide (1 ≤ (⟨1, O, N, M, DT⟩ : Stp).kind ∧ (⟨1, O, N, M, DT⟩ : Stp).kind ≤ 4) = true from rfl] at this; exact this)
  have hro := hD.room
  have HX := Hid.mk' hX
  clear hX
  clear hs hT0 hd hd2 hACT hE
  go_enter Tryd.func54, Tryd.ntmps54
  go_wp2_with (go_at_call 53; refine HDD.out.mono ?_; rintro e v0 ⟨rfl, rfl⟩)
  refine law12_look.mono ?_
  rintro e v1 ⟨v, rfl, rfl, hx⟩
  have hT1 := hT.then1 hx
  clear hx hT
  go_wp2_with fail
  refine (law12_actLook (D := D) (b := b) HE.out hD hm (F := F * blk bt [.int .i64 1, .int .i64 O, .int .i64 N, .int .i64 M, .string DT] 83) hT1).mono ?_
  rintro e v2 ⟨v, rfl, wa, wc, hwc, rfl, hx⟩
  have HWC := Hid.mk' hwc
  have hA0 := hx.new #[.slice wa D.bytes.length wc, .int .i64 D.synced, .int .i64 0] 87
  generalize hb11 : v2.heap.size = b11 at hA0
  have hA := hA0.perm (B := F * vec 5 1 (.slice wa D.bytes.length wc) D.bytes.length (bvs D.bytes) * blk b11 [.slice wa D.bytes.length wc, .int .i64 D.synced, .int .i64 0] 87 * blk bt [.int .i64 1, .int .i64 O, .int .i64 N, .int .i64 M, .string DT] 83 * dk b D) (by ac_rfl)
  have q0 := hA.swap.cell (i := 0) (v := .int .i64 1) rfl
  have q1 := hA.swap.cell (i := 1) (v := .int .i64 O) rfl
  have q2 := hA.swap.cell (i := 2) (v := .int .i64 N) rfl
  have q3 := hA.swap.cell (i := 3) (v := .int .i64 M) rfl
  have q4 := hA.swap.cell (i := 4) (v := .string DT) rfl
  clear hx hA0 hT1 hwc
  go_wp2_with fail
  refine (law12_act' HE.out hD (⟨1, O, N, M, DT⟩ : Stp) hS hm (b := b) (D := D) (F := F * vec 5 1 (.slice wa D.bytes.length wc) D.bytes.length (bvs D.bytes) * blk b11 [.slice wa D.bytes.length wc, .int .i64 D.synced, .int .i64 0] 87 * blk bt [.int .i64 1, .int .i64 O, .int .i64 N, .int .i64 M, .string DT] 83) hA).mono ?_
  rintro e v3 ⟨v, rfl, ga, gc, hgc, rfl, hx⟩
  rw [HACT.out] at hx ⊢
  have hB0 := hx.new #[.slice ga 0 gc, .int .i64 0, .int .i64 0] 87
  generalize hb12 : v3.heap.size = b12 at hB0
  have hB := hB0.perm (B := F * vec 5 1 (.slice wa D.bytes.length wc) D.bytes.length (bvs D.bytes) * vec 5 1 (.slice ga 0 gc) 0 [] * blk bt [.int .i64 1, .int .i64 O, .int .i64 N, .int .i64 M, .string DT] 83 * blk b11 [.slice wa D.bytes.length wc, .int .i64 D.synced, .int .i64 0] 87 * blk b12 [.slice ga 0 gc, .int .i64 0, .int .i64 0] 87 * dk b D2) (by ac_rfl)
  clear hx hB0 hA hgc q0 q1 q2 q3 q4
  go_wp2_with fail
  refine law12_look.mono ?_
  rintro e v4 ⟨v, rfl, rfl, hx⟩
  have hB1 := hB.then1 hx
  clear hx hB
  go_wp2_with fail
  refine (law12_actLook (D := D2) (b := b) HE.out hD2 hm2 (F := F * vec 5 1 (.slice wa D.bytes.length wc) D.bytes.length (bvs D.bytes) * vec 5 1 (.slice ga 0 gc) 0 [] * blk bt [.int .i64 1, .int .i64 O, .int .i64 N, .int .i64 M, .string DT] 83 * blk b11 [.slice wa D.bytes.length wc, .int .i64 D.synced, .int .i64 0] 87 * blk b12 [.slice ga 0 gc, .int .i64 0, .int .i64 0] 87) hB1).mono ?_
  rintro e v5 ⟨v, rfl, na, nc, hnc, rfl, hx⟩
  rw [hQ] at hx
  rw [hQ, hsq]
  have hC0 := hx.new #[.slice na X.length nc, .int .i64 D.synced, .int .i64 0] 87
  generalize hb13 : v5.heap.size = b13 at hC0
  have hC := hC0.perm (B := F * dk b D2 * vec 5 1 (.slice wa D.bytes.length wc) D.bytes.length (bvs D.bytes) * vec 5 1 (.slice ga 0 gc) 0 [] * vec 5 1 (.slice na X.length nc) X.length (bvs X) * blk bt [.int .i64 1, .int .i64 O, .int .i64 N, .int .i64 M, .string DT] 83 * blk b11 [.slice wa D.bytes.length wc, .int .i64 D.synced, .int .i64 0] 87 * blk b12 [.slice ga 0 gc, .int .i64 0, .int .i64 0] 87 * blk b13 [.slice na X.length nc, .int .i64 D.synced, .int .i64 0] 87) (by ac_rfl)
  have q0 := hC.rot4.cell (i := 0) (v := .int .i64 1) rfl
  have q1 := hC.rot4.cell (i := 1) (v := .int .i64 O) rfl
  have q2 := hC.rot4.cell (i := 2) (v := .int .i64 N) rfl
  have q3 := hC.rot4.cell (i := 3) (v := .int .i64 M) rfl
  have q4 := hC.rot4.cell (i := 4) (v := .string DT) rfl
  clear hx hC0 hB1 hnc
  go_wp2_with (first | (go_at_call 120; refine (went1_fits D.room hro hS.data hb hf HX.out wa ga na wc gc nc hG.rot7.rd hG.rot5.rd).mono ?_; rintro e v8 ⟨v, rfl, rfl, hz⟩; have hH := hG.then1 hz) | (go_at_call 53; refine (disk_dead_is HD2.out (hH.perm (B := F * (vec 5 1 (.slice wa D.bytes.length wc) D.bytes.length (bvs D.bytes) * vec 5 1 (.slice ga 0 gc) 0 [] * blk bt [.int .i64 1, .int .i64 O, .int .i64 N, .int .i64 M, .string DT] 83 * blk b11 [.slice wa D.bytes.length wc, .int .i64 D.synced, .int .i64 0] 87 * blk b12 [.slice ga 0 gc, .int .i64 0, .int .i64 0] 87 * blk b13 [.slice na X.length nc, .int .i64 D.synced, .int .i64 0] 87 * vec 5 1 (.slice na X.length nc) X.length (bvs X)) * dk b D2) (by ac_rfl))).mono ?_; rintro e v9 ⟨rfl, rfl⟩) | (go_at_call 118; refine (HOP.out _).mono ?_; rintro e v6 ⟨v, rfl, rfl, ho⟩; have hG := hC.then1 ho; have q0a := hG.rot4.cell (i := 0) (v := .int .i64 1) rfl; have q1a := hG.rot4.cell (i := 1) (v := .int .i64 O) rfl; have q2a := hG.rot4.cell (i := 2) (v := .int .i64 N) rfl; have q3a := hG.rot4.cell (i := 3) (v := .int .i64 M) rfl; have q4a := hG.rot4.cell (i := 4) (v := .string DT) rfl; have p0a := hG.rot3.cell (i := 0) (v := .slice wa D.bytes.length wc) rfl; have p1a := hG.rot3.cell (i := 1) (v := .int .i64 D.synced) rfl; have p2a := hG.rot3.cell (i := 2) (v := .int .i64 0) rfl; have g0a := hG.swap.cell (i := 0) (v := .slice ga 0 gc) rfl; have g1a := hG.swap.cell (i := 1) (v := .int .i64 0) rfl; have g2a := hG.swap.cell (i := 2) (v := .int .i64 0) rfl; have n0a := hG.cell (i := 0) (v := .slice na X.length nc) rfl; have n1a := hG.cell (i := 1) (v := .int .i64 D.synced) rfl; have n2a := hG.cell (i := 2) (v := .int .i64 0) rfl))
  go_ret2
  exact Ret.mk ⟨rfl, (hH.perm (B := F * dk b D2 * (vec 5 1 (.slice wa D.bytes.length wc) D.bytes.length (bvs D.bytes) * vec 5 1 (.slice ga 0 gc) 0 [] * blk bt [.int .i64 1, .int .i64 O, .int .i64 N, .int .i64 M, .string DT] 83 * blk b11 [.slice wa D.bytes.length wc, .int .i64 D.synced, .int .i64 0] 87 * blk b12 [.slice ga 0 gc, .int .i64 0, .int .i64 0] 87 * blk b13 [.slice na X.length nc, .int .i64 D.synced, .int .i64 0] 87 * vec 5 1 (.slice na X.length nc) X.length (bvs X))) (by ac_rfl)).drop⟩

set_option maxRecDepth 20000 in
set_option maxHeartbeats 12800000 in
theorem moves_live1full {w0 w : World} {F : HP} {b : Nat} {D D2 : Dk} {E : Nat → Addr} (hE : Errs w0 E) (hD : D.Ok) (hD2 : D2.Ok) (hm : D.arms.length < 8796093022207) (hm2 : D2.arms.length < 8796093022207) {O N M : Int} {DT : ByteArray} (hS : (⟨1, O, N, M, DT⟩ : Stp).Ok) (n : Int) (hd : D.dead = false) (hd2 : D2.dead = false) (hQ : D2.bytes = D.bytes) (hsq : D2.synced = D.synced) (hf : ¬ D.bytes.length + DT.size ≤ D.room) 
    (hACT : D.act (⟨1, O, N, M, DT⟩ : Stp) = (⟨[], 0, 9⟩, D2)) (hs : Sat w0 w (F * dk b D)) :
    Calls Tryd.prog 54 #[.pointer (some ⟨b, 0, none⟩), .agg #[.int .i64 1, .int .i64 O, .int .i64 N, .int .i64 M, .string DT], .int .i64 D.room, .int .i64 n] w (Ret fun v w' => v = .tuple #[.bool true, .int .i64 n] ∧ Sat w0 w' (F * dk b D2)) := by
  have hT0 := hs.new #[.int .i64 1, .int .i64 O, .int .i64 N, .int .i64 M, .string DT] 83
  generalize hbt : w.heap.size = bt at hT0
  have hT := hT0.swap
  have HDD := Hid.mk' (disk_dead_is hd hT)
  have HD2 := Hid.mk' hd2
  have HACT := Hid.mk' hACT
  have HE := Hid.mk' hE
  have hb := hD.bytes
  have HOP := Hid.mk' (fun w => by have := law12_operation (w := w) (⟨1, O, N, M, DT⟩ : Stp); rw [show decide (1 ≤ (⟨1, O, N, M, DT⟩ : Stp).kind ∧ (⟨1, O, N, M, DT⟩ : Stp).kind ≤ 4) = true from rfl] at this; exact this)
  have hro := hD.room
  clear hs hT0 hd hd2 hACT hE
  go_enter Tryd.func54, Tryd.ntmps54
  go_wp2_with (go_at_call 53; refine HDD.out.mono ?_; rintro e v0 ⟨rfl, rfl⟩)
  refine law12_look.mono ?_
  rintro e v1 ⟨v, rfl, rfl, hx⟩
  have hT1 := hT.then1 hx
  clear hx hT
  go_wp2_with fail
  refine (law12_actLook (D := D) (b := b) HE.out hD hm (F := F * blk bt [.int .i64 1, .int .i64 O, .int .i64 N, .int .i64 M, .string DT] 83) hT1).mono ?_
  rintro e v2 ⟨v, rfl, wa, wc, hwc, rfl, hx⟩
  have HWC := Hid.mk' hwc
  have hA0 := hx.new #[.slice wa D.bytes.length wc, .int .i64 D.synced, .int .i64 0] 87
  generalize hb11 : v2.heap.size = b11 at hA0
  have hA := hA0.perm (B := F * vec 5 1 (.slice wa D.bytes.length wc) D.bytes.length (bvs D.bytes) * blk b11 [.slice wa D.bytes.length wc, .int .i64 D.synced, .int .i64 0] 87 * blk bt [.int .i64 1, .int .i64 O, .int .i64 N, .int .i64 M, .string DT] 83 * dk b D) (by ac_rfl)
  have q0 := hA.swap.cell (i := 0) (v := .int .i64 1) rfl
  have q1 := hA.swap.cell (i := 1) (v := .int .i64 O) rfl
  have q2 := hA.swap.cell (i := 2) (v := .int .i64 N) rfl
  have q3 := hA.swap.cell (i := 3) (v := .int .i64 M) rfl
  have q4 := hA.swap.cell (i := 4) (v := .string DT) rfl
  clear hx hA0 hT1 hwc
  go_wp2_with fail
  refine (law12_act' HE.out hD (⟨1, O, N, M, DT⟩ : Stp) hS hm (b := b) (D := D) (F := F * vec 5 1 (.slice wa D.bytes.length wc) D.bytes.length (bvs D.bytes) * blk b11 [.slice wa D.bytes.length wc, .int .i64 D.synced, .int .i64 0] 87 * blk bt [.int .i64 1, .int .i64 O, .int .i64 N, .int .i64 M, .string DT] 83) hA).mono ?_
  rintro e v3 ⟨v, rfl, ga, gc, hgc, rfl, hx⟩
  rw [HACT.out] at hx ⊢
  have hB0 := hx.new #[.slice ga 0 gc, .int .i64 0, .int .i64 9] 87
  generalize hb12 : v3.heap.size = b12 at hB0
  have hB := hB0.perm (B := F * vec 5 1 (.slice wa D.bytes.length wc) D.bytes.length (bvs D.bytes) * vec 5 1 (.slice ga 0 gc) 0 [] * blk bt [.int .i64 1, .int .i64 O, .int .i64 N, .int .i64 M, .string DT] 83 * blk b11 [.slice wa D.bytes.length wc, .int .i64 D.synced, .int .i64 0] 87 * blk b12 [.slice ga 0 gc, .int .i64 0, .int .i64 9] 87 * dk b D2) (by ac_rfl)
  clear hx hB0 hA hgc q0 q1 q2 q3 q4
  go_wp2_with fail
  refine law12_look.mono ?_
  rintro e v4 ⟨v, rfl, rfl, hx⟩
  have hB1 := hB.then1 hx
  clear hx hB
  go_wp2_with fail
  refine (law12_actLook (D := D2) (b := b) HE.out hD2 hm2 (F := F * vec 5 1 (.slice wa D.bytes.length wc) D.bytes.length (bvs D.bytes) * vec 5 1 (.slice ga 0 gc) 0 [] * blk bt [.int .i64 1, .int .i64 O, .int .i64 N, .int .i64 M, .string DT] 83 * blk b11 [.slice wa D.bytes.length wc, .int .i64 D.synced, .int .i64 0] 87 * blk b12 [.slice ga 0 gc, .int .i64 0, .int .i64 9] 87) hB1).mono ?_
  rintro e v5 ⟨v, rfl, na, nc, hnc, rfl, hx⟩
  rw [hQ] at hx
  rw [hQ, hsq]
  have hC0 := hx.new #[.slice na D.bytes.length nc, .int .i64 D.synced, .int .i64 0] 87
  generalize hb13 : v5.heap.size = b13 at hC0
  have hC := hC0.perm (B := F * dk b D2 * vec 5 1 (.slice wa D.bytes.length wc) D.bytes.length (bvs D.bytes) * vec 5 1 (.slice ga 0 gc) 0 [] * vec 5 1 (.slice na D.bytes.length nc) D.bytes.length (bvs D.bytes) * blk bt [.int .i64 1, .int .i64 O, .int .i64 N, .int .i64 M, .string DT] 83 * blk b11 [.slice wa D.bytes.length wc, .int .i64 D.synced, .int .i64 0] 87 * blk b12 [.slice ga 0 gc, .int .i64 0, .int .i64 9] 87 * blk b13 [.slice na D.bytes.length nc, .int .i64 D.synced, .int .i64 0] 87) (by ac_rfl)
  have q0 := hC.rot4.cell (i := 0) (v := .int .i64 1) rfl
  have q1 := hC.rot4.cell (i := 1) (v := .int .i64 O) rfl
  have q2 := hC.rot4.cell (i := 2) (v := .int .i64 N) rfl
  have q3 := hC.rot4.cell (i := 3) (v := .int .i64 M) rfl
  have q4 := hC.rot4.cell (i := 4) (v := .string DT) rfl
  clear hx hC0 hB1 hnc
  go_wp2_with (first | (go_at_call 120; refine (went1_full D.room hro hS.data hb hf wa ga na wc gc nc hG.rot7.rd hG.rot5.rd).mono ?_; rintro e v8 ⟨v, rfl, rfl, hz⟩; have hH := hG.then1 hz) | (go_at_call 53; refine (disk_dead_is HD2.out (hH.perm (B := F * (vec 5 1 (.slice wa D.bytes.length wc) D.bytes.length (bvs D.bytes) * vec 5 1 (.slice ga 0 gc) 0 [] * blk bt [.int .i64 1, .int .i64 O, .int .i64 N, .int .i64 M, .string DT] 83 * blk b11 [.slice wa D.bytes.length wc, .int .i64 D.synced, .int .i64 0] 87 * blk b12 [.slice ga 0 gc, .int .i64 0, .int .i64 9] 87 * blk b13 [.slice na D.bytes.length nc, .int .i64 D.synced, .int .i64 0] 87 * vec 5 1 (.slice na D.bytes.length nc) D.bytes.length (bvs D.bytes)) * dk b D2) (by ac_rfl))).mono ?_; rintro e v9 ⟨rfl, rfl⟩) | (go_at_call 118; refine (HOP.out _).mono ?_; rintro e v6 ⟨v, rfl, rfl, ho⟩; have hG := hC.then1 ho; have q0a := hG.rot4.cell (i := 0) (v := .int .i64 1) rfl; have q1a := hG.rot4.cell (i := 1) (v := .int .i64 O) rfl; have q2a := hG.rot4.cell (i := 2) (v := .int .i64 N) rfl; have q3a := hG.rot4.cell (i := 3) (v := .int .i64 M) rfl; have q4a := hG.rot4.cell (i := 4) (v := .string DT) rfl; have p0a := hG.rot3.cell (i := 0) (v := .slice wa D.bytes.length wc) rfl; have p1a := hG.rot3.cell (i := 1) (v := .int .i64 D.synced) rfl; have p2a := hG.rot3.cell (i := 2) (v := .int .i64 0) rfl; have g0a := hG.swap.cell (i := 0) (v := .slice ga 0 gc) rfl; have g1a := hG.swap.cell (i := 1) (v := .int .i64 0) rfl; have g2a := hG.swap.cell (i := 2) (v := .int .i64 9) rfl; have n0a := hG.cell (i := 0) (v := .slice na D.bytes.length nc) rfl; have n1a := hG.cell (i := 1) (v := .int .i64 D.synced) rfl; have n2a := hG.cell (i := 2) (v := .int .i64 0) rfl))
  go_ret2
  exact Ret.mk ⟨rfl, (hH.perm (B := F * dk b D2 * (vec 5 1 (.slice wa D.bytes.length wc) D.bytes.length (bvs D.bytes) * vec 5 1 (.slice ga 0 gc) 0 [] * blk bt [.int .i64 1, .int .i64 O, .int .i64 N, .int .i64 M, .string DT] 83 * blk b11 [.slice wa D.bytes.length wc, .int .i64 D.synced, .int .i64 0] 87 * blk b12 [.slice ga 0 gc, .int .i64 0, .int .i64 9] 87 * blk b13 [.slice na D.bytes.length nc, .int .i64 D.synced, .int .i64 0] 87 * vec 5 1 (.slice na D.bytes.length nc) D.bytes.length (bvs D.bytes))) (by ac_rfl)).drop⟩

set_option maxRecDepth 20000 in
set_option maxHeartbeats 12800000 in
theorem moves_live4neg {w0 w : World} {F : HP} {b : Nat} {D D2 : Dk} {E : Nat → Addr} (hE : Errs w0 E) (hD : D.Ok) (hD2 : D2.Ok) (hm : D.arms.length < 8796093022207) (hm2 : D2.arms.length < 8796093022207) {O N M : Int} {DT : ByteArray} (hS : (⟨4, O, N, M, DT⟩ : Stp).Ok) (n : Int) (hd : D.dead = false) (hd2 : D2.dead = false) (hQ : D2.bytes = D.bytes) (hsq : D2.synced = D.synced) (hn : N < 0) 
    (hACT : D.act (⟨4, O, N, M, DT⟩ : Stp) = (⟨[], 0, 1⟩, D2)) (hs : Sat w0 w (F * dk b D)) :
    Calls Tryd.prog 54 #[.pointer (some ⟨b, 0, none⟩), .agg #[.int .i64 4, .int .i64 O, .int .i64 N, .int .i64 M, .string DT], .int .i64 D.room, .int .i64 n] w (Ret fun v w' => v = .tuple #[.bool true, .int .i64 n] ∧ Sat w0 w' (F * dk b D2)) := by
  have hT0 := hs.new #[.int .i64 4, .int .i64 O, .int .i64 N, .int .i64 M, .string DT] 83
  generalize hbt : w.heap.size = bt at hT0
  have hT := hT0.swap
  have HDD := Hid.mk' (disk_dead_is hd hT)
  have HD2 := Hid.mk' hd2
  have HACT := Hid.mk' hACT
  have HE := Hid.mk' hE
  have hb := hD.bytes
  have HOP := Hid.mk' (fun w => by have := law12_operation (w := w) (⟨4, O, N, M, DT⟩ : Stp); rw [show decide (1 ≤ (⟨4, O, N, M, DT⟩ : Stp).kind ∧ (⟨4, O, N, M, DT⟩ : Stp).kind ≤ 4) = true from rfl] at this; exact this)
  clear hs hT0 hd hd2 hACT hE
  go_enter Tryd.func54, Tryd.ntmps54
  go_wp2_with (go_at_call 53; refine HDD.out.mono ?_; rintro e v0 ⟨rfl, rfl⟩)
  refine law12_look.mono ?_
  rintro e v1 ⟨v, rfl, rfl, hx⟩
  have hT1 := hT.then1 hx
  clear hx hT
  go_wp2_with fail
  refine (law12_actLook (D := D) (b := b) HE.out hD hm (F := F * blk bt [.int .i64 4, .int .i64 O, .int .i64 N, .int .i64 M, .string DT] 83) hT1).mono ?_
  rintro e v2 ⟨v, rfl, wa, wc, hwc, rfl, hx⟩
  have HWC := Hid.mk' hwc
  have hA0 := hx.new #[.slice wa D.bytes.length wc, .int .i64 D.synced, .int .i64 0] 87
  generalize hb11 : v2.heap.size = b11 at hA0
  have hA := hA0.perm (B := F * vec 5 1 (.slice wa D.bytes.length wc) D.bytes.length (bvs D.bytes) * blk b11 [.slice wa D.bytes.length wc, .int .i64 D.synced, .int .i64 0] 87 * blk bt [.int .i64 4, .int .i64 O, .int .i64 N, .int .i64 M, .string DT] 83 * dk b D) (by ac_rfl)
  have q0 := hA.swap.cell (i := 0) (v := .int .i64 4) rfl
  have q1 := hA.swap.cell (i := 1) (v := .int .i64 O) rfl
  have q2 := hA.swap.cell (i := 2) (v := .int .i64 N) rfl
  have q3 := hA.swap.cell (i := 3) (v := .int .i64 M) rfl
  have q4 := hA.swap.cell (i := 4) (v := .string DT) rfl
  clear hx hA0 hT1 hwc
  go_wp2_with fail
  refine (law12_act' HE.out hD (⟨4, O, N, M, DT⟩ : Stp) hS hm (b := b) (D := D) (F := F * vec 5 1 (.slice wa D.bytes.length wc) D.bytes.length (bvs D.bytes) * blk b11 [.slice wa D.bytes.length wc, .int .i64 D.synced, .int .i64 0] 87 * blk bt [.int .i64 4, .int .i64 O, .int .i64 N, .int .i64 M, .string DT] 83) hA).mono ?_
  rintro e v3 ⟨v, rfl, ga, gc, hgc, rfl, hx⟩
  rw [HACT.out] at hx ⊢
  have hB0 := hx.new #[.slice ga 0 gc, .int .i64 0, .int .i64 1] 87
  generalize hb12 : v3.heap.size = b12 at hB0
  have hB := hB0.perm (B := F * vec 5 1 (.slice wa D.bytes.length wc) D.bytes.length (bvs D.bytes) * vec 5 1 (.slice ga 0 gc) 0 [] * blk bt [.int .i64 4, .int .i64 O, .int .i64 N, .int .i64 M, .string DT] 83 * blk b11 [.slice wa D.bytes.length wc, .int .i64 D.synced, .int .i64 0] 87 * blk b12 [.slice ga 0 gc, .int .i64 0, .int .i64 1] 87 * dk b D2) (by ac_rfl)
  clear hx hB0 hA hgc q0 q1 q2 q3 q4
  go_wp2_with fail
  refine law12_look.mono ?_
  rintro e v4 ⟨v, rfl, rfl, hx⟩
  have hB1 := hB.then1 hx
  clear hx hB
  go_wp2_with fail
  refine (law12_actLook (D := D2) (b := b) HE.out hD2 hm2 (F := F * vec 5 1 (.slice wa D.bytes.length wc) D.bytes.length (bvs D.bytes) * vec 5 1 (.slice ga 0 gc) 0 [] * blk bt [.int .i64 4, .int .i64 O, .int .i64 N, .int .i64 M, .string DT] 83 * blk b11 [.slice wa D.bytes.length wc, .int .i64 D.synced, .int .i64 0] 87 * blk b12 [.slice ga 0 gc, .int .i64 0, .int .i64 1] 87) hB1).mono ?_
  rintro e v5 ⟨v, rfl, na, nc, hnc, rfl, hx⟩
  rw [hQ] at hx
  rw [hQ, hsq]
  have hC0 := hx.new #[.slice na D.bytes.length nc, .int .i64 D.synced, .int .i64 0] 87
  generalize hb13 : v5.heap.size = b13 at hC0
  have hC := hC0.perm (B := F * dk b D2 * vec 5 1 (.slice wa D.bytes.length wc) D.bytes.length (bvs D.bytes) * vec 5 1 (.slice ga 0 gc) 0 [] * vec 5 1 (.slice na D.bytes.length nc) D.bytes.length (bvs D.bytes) * blk bt [.int .i64 4, .int .i64 O, .int .i64 N, .int .i64 M, .string DT] 83 * blk b11 [.slice wa D.bytes.length wc, .int .i64 D.synced, .int .i64 0] 87 * blk b12 [.slice ga 0 gc, .int .i64 0, .int .i64 1] 87 * blk b13 [.slice na D.bytes.length nc, .int .i64 D.synced, .int .i64 0] 87) (by ac_rfl)
  have q0 := hC.rot4.cell (i := 0) (v := .int .i64 4) rfl
  have q1 := hC.rot4.cell (i := 1) (v := .int .i64 O) rfl
  have q2 := hC.rot4.cell (i := 2) (v := .int .i64 N) rfl
  have q3 := hC.rot4.cell (i := 3) (v := .int .i64 M) rfl
  have q4 := hC.rot4.cell (i := 4) (v := .string DT) rfl
  clear hx hC0 hB1 hnc
  go_wp2_with (first | (go_at_call 120; refine (went4_neg D.room hb hn wa ga na wc gc nc hG.rot7.rd hG.rot5.rd).mono ?_; rintro e v8 ⟨v, rfl, rfl, hz⟩; have hH := hG.then1 hz) | (go_at_call 53; refine (disk_dead_is HD2.out (hH.perm (B := F * (vec 5 1 (.slice wa D.bytes.length wc) D.bytes.length (bvs D.bytes) * vec 5 1 (.slice ga 0 gc) 0 [] * blk bt [.int .i64 4, .int .i64 O, .int .i64 N, .int .i64 M, .string DT] 83 * blk b11 [.slice wa D.bytes.length wc, .int .i64 D.synced, .int .i64 0] 87 * blk b12 [.slice ga 0 gc, .int .i64 0, .int .i64 1] 87 * blk b13 [.slice na D.bytes.length nc, .int .i64 D.synced, .int .i64 0] 87 * vec 5 1 (.slice na D.bytes.length nc) D.bytes.length (bvs D.bytes)) * dk b D2) (by ac_rfl))).mono ?_; rintro e v9 ⟨rfl, rfl⟩) | (go_at_call 118; refine (HOP.out _).mono ?_; rintro e v6 ⟨v, rfl, rfl, ho⟩; have hG := hC.then1 ho; have q0a := hG.rot4.cell (i := 0) (v := .int .i64 4) rfl; have q1a := hG.rot4.cell (i := 1) (v := .int .i64 O) rfl; have q2a := hG.rot4.cell (i := 2) (v := .int .i64 N) rfl; have q3a := hG.rot4.cell (i := 3) (v := .int .i64 M) rfl; have q4a := hG.rot4.cell (i := 4) (v := .string DT) rfl; have p0a := hG.rot3.cell (i := 0) (v := .slice wa D.bytes.length wc) rfl; have p1a := hG.rot3.cell (i := 1) (v := .int .i64 D.synced) rfl; have p2a := hG.rot3.cell (i := 2) (v := .int .i64 0) rfl; have g0a := hG.swap.cell (i := 0) (v := .slice ga 0 gc) rfl; have g1a := hG.swap.cell (i := 1) (v := .int .i64 0) rfl; have g2a := hG.swap.cell (i := 2) (v := .int .i64 1) rfl; have n0a := hG.cell (i := 0) (v := .slice na D.bytes.length nc) rfl; have n1a := hG.cell (i := 1) (v := .int .i64 D.synced) rfl; have n2a := hG.cell (i := 2) (v := .int .i64 0) rfl))
  go_ret2
  exact Ret.mk ⟨rfl, (hH.perm (B := F * dk b D2 * (vec 5 1 (.slice wa D.bytes.length wc) D.bytes.length (bvs D.bytes) * vec 5 1 (.slice ga 0 gc) 0 [] * blk bt [.int .i64 4, .int .i64 O, .int .i64 N, .int .i64 M, .string DT] 83 * blk b11 [.slice wa D.bytes.length wc, .int .i64 D.synced, .int .i64 0] 87 * blk b12 [.slice ga 0 gc, .int .i64 0, .int .i64 1] 87 * blk b13 [.slice na D.bytes.length nc, .int .i64 D.synced, .int .i64 0] 87 * vec 5 1 (.slice na D.bytes.length nc) D.bytes.length (bvs D.bytes))) (by ac_rfl)).drop⟩

set_option maxRecDepth 20000 in
set_option maxHeartbeats 12800000 in
theorem moves_live4far {w0 w : World} {F : HP} {b : Nat} {D D2 : Dk} {E : Nat → Addr} (hE : Errs w0 E) (hD : D.Ok) (hD2 : D2.Ok) (hm : D.arms.length < 8796093022207) (hm2 : D2.arms.length < 8796093022207) {O N M : Int} {DT : ByteArray} (hS : (⟨4, O, N, M, DT⟩ : Stp).Ok) (n : Int) (hd : D.dead = false) (hd2 : D2.dead = false) (hQ : D2.bytes = D.bytes) (hsq : D2.synced = D.synced) (hn0 : 0 ≤ N) (hn : (D.bytes.length : Int) < N) 
    (hACT : D.act (⟨4, O, N, M, DT⟩ : Stp) = (⟨[], 0, 1⟩, D2)) (hs : Sat w0 w (F * dk b D)) :
    Calls Tryd.prog 54 #[.pointer (some ⟨b, 0, none⟩), .agg #[.int .i64 4, .int .i64 O, .int .i64 N, .int .i64 M, .string DT], .int .i64 D.room, .int .i64 n] w (Ret fun v w' => v = .tuple #[.bool true, .int .i64 n] ∧ Sat w0 w' (F * dk b D2)) := by
  have hT0 := hs.new #[.int .i64 4, .int .i64 O, .int .i64 N, .int .i64 M, .string DT] 83
  generalize hbt : w.heap.size = bt at hT0
  have hT := hT0.swap
  have HDD := Hid.mk' (disk_dead_is hd hT)
  have HD2 := Hid.mk' hd2
  have HACT := Hid.mk' hACT
  have HE := Hid.mk' hE
  have hb := hD.bytes
  have HOP := Hid.mk' (fun w => by have := law12_operation (w := w) (⟨4, O, N, M, DT⟩ : Stp); rw [show decide (1 ≤ (⟨4, O, N, M, DT⟩ : Stp).kind ∧ (⟨4, O, N, M, DT⟩ : Stp).kind ≤ 4) = true from rfl] at this; exact this)
  clear hs hT0 hd hd2 hACT hE
  go_enter Tryd.func54, Tryd.ntmps54
  go_wp2_with (go_at_call 53; refine HDD.out.mono ?_; rintro e v0 ⟨rfl, rfl⟩)
  refine law12_look.mono ?_
  rintro e v1 ⟨v, rfl, rfl, hx⟩
  have hT1 := hT.then1 hx
  clear hx hT
  go_wp2_with fail
  refine (law12_actLook (D := D) (b := b) HE.out hD hm (F := F * blk bt [.int .i64 4, .int .i64 O, .int .i64 N, .int .i64 M, .string DT] 83) hT1).mono ?_
  rintro e v2 ⟨v, rfl, wa, wc, hwc, rfl, hx⟩
  have HWC := Hid.mk' hwc
  have hA0 := hx.new #[.slice wa D.bytes.length wc, .int .i64 D.synced, .int .i64 0] 87
  generalize hb11 : v2.heap.size = b11 at hA0
  have hA := hA0.perm (B := F * vec 5 1 (.slice wa D.bytes.length wc) D.bytes.length (bvs D.bytes) * blk b11 [.slice wa D.bytes.length wc, .int .i64 D.synced, .int .i64 0] 87 * blk bt [.int .i64 4, .int .i64 O, .int .i64 N, .int .i64 M, .string DT] 83 * dk b D) (by ac_rfl)
  have q0 := hA.swap.cell (i := 0) (v := .int .i64 4) rfl
  have q1 := hA.swap.cell (i := 1) (v := .int .i64 O) rfl
  have q2 := hA.swap.cell (i := 2) (v := .int .i64 N) rfl
  have q3 := hA.swap.cell (i := 3) (v := .int .i64 M) rfl
  have q4 := hA.swap.cell (i := 4) (v := .string DT) rfl
  clear hx hA0 hT1 hwc
  go_wp2_with fail
  refine (law12_act' HE.out hD (⟨4, O, N, M, DT⟩ : Stp) hS hm (b := b) (D := D) (F := F * vec 5 1 (.slice wa D.bytes.length wc) D.bytes.length (bvs D.bytes) * blk b11 [.slice wa D.bytes.length wc, .int .i64 D.synced, .int .i64 0] 87 * blk bt [.int .i64 4, .int .i64 O, .int .i64 N, .int .i64 M, .string DT] 83) hA).mono ?_
  rintro e v3 ⟨v, rfl, ga, gc, hgc, rfl, hx⟩
  rw [HACT.out] at hx ⊢
  have hB0 := hx.new #[.slice ga 0 gc, .int .i64 0, .int .i64 1] 87
  generalize hb12 : v3.heap.size = b12 at hB0
  have hB := hB0.perm (B := F * vec 5 1 (.slice wa D.bytes.length wc) D.bytes.length (bvs D.bytes) * vec 5 1 (.slice ga 0 gc) 0 [] * blk bt [.int .i64 4, .int .i64 O, .int .i64 N, .int .i64 M, .string DT] 83 * blk b11 [.slice wa D.bytes.length wc, .int .i64 D.synced, .int .i64 0] 87 * blk b12 [.slice ga 0 gc, .int .i64 0, .int .i64 1] 87 * dk b D2) (by ac_rfl)
  clear hx hB0 hA hgc q0 q1 q2 q3 q4
  go_wp2_with fail
  refine law12_look.mono ?_
  rintro e v4 ⟨v, rfl, rfl, hx⟩
  have hB1 := hB.then1 hx
  clear hx hB
  go_wp2_with fail
  refine (law12_actLook (D := D2) (b := b) HE.out hD2 hm2 (F := F * vec 5 1 (.slice wa D.bytes.length wc) D.bytes.length (bvs D.bytes) * vec 5 1 (.slice ga 0 gc) 0 [] * blk bt [.int .i64 4, .int .i64 O, .int .i64 N, .int .i64 M, .string DT] 83 * blk b11 [.slice wa D.bytes.length wc, .int .i64 D.synced, .int .i64 0] 87 * blk b12 [.slice ga 0 gc, .int .i64 0, .int .i64 1] 87) hB1).mono ?_
  rintro e v5 ⟨v, rfl, na, nc, hnc, rfl, hx⟩
  rw [hQ] at hx
  rw [hQ, hsq]
  have hC0 := hx.new #[.slice na D.bytes.length nc, .int .i64 D.synced, .int .i64 0] 87
  generalize hb13 : v5.heap.size = b13 at hC0
  have hC := hC0.perm (B := F * dk b D2 * vec 5 1 (.slice wa D.bytes.length wc) D.bytes.length (bvs D.bytes) * vec 5 1 (.slice ga 0 gc) 0 [] * vec 5 1 (.slice na D.bytes.length nc) D.bytes.length (bvs D.bytes) * blk bt [.int .i64 4, .int .i64 O, .int .i64 N, .int .i64 M, .string DT] 83 * blk b11 [.slice wa D.bytes.length wc, .int .i64 D.synced, .int .i64 0] 87 * blk b12 [.slice ga 0 gc, .int .i64 0, .int .i64 1] 87 * blk b13 [.slice na D.bytes.length nc, .int .i64 D.synced, .int .i64 0] 87) (by ac_rfl)
  have q0 := hC.rot4.cell (i := 0) (v := .int .i64 4) rfl
  have q1 := hC.rot4.cell (i := 1) (v := .int .i64 O) rfl
  have q2 := hC.rot4.cell (i := 2) (v := .int .i64 N) rfl
  have q3 := hC.rot4.cell (i := 3) (v := .int .i64 M) rfl
  have q4 := hC.rot4.cell (i := 4) (v := .string DT) rfl
  clear hx hC0 hB1 hnc
  go_wp2_with (first | (go_at_call 120; refine (went4_far D.room hb hn0 hn wa ga na wc gc nc hG.rot7.rd hG.rot5.rd).mono ?_; rintro e v8 ⟨v, rfl, rfl, hz⟩; have hH := hG.then1 hz) | (go_at_call 53; refine (disk_dead_is HD2.out (hH.perm (B := F * (vec 5 1 (.slice wa D.bytes.length wc) D.bytes.length (bvs D.bytes) * vec 5 1 (.slice ga 0 gc) 0 [] * blk bt [.int .i64 4, .int .i64 O, .int .i64 N, .int .i64 M, .string DT] 83 * blk b11 [.slice wa D.bytes.length wc, .int .i64 D.synced, .int .i64 0] 87 * blk b12 [.slice ga 0 gc, .int .i64 0, .int .i64 1] 87 * blk b13 [.slice na D.bytes.length nc, .int .i64 D.synced, .int .i64 0] 87 * vec 5 1 (.slice na D.bytes.length nc) D.bytes.length (bvs D.bytes)) * dk b D2) (by ac_rfl))).mono ?_; rintro e v9 ⟨rfl, rfl⟩) | (go_at_call 118; refine (HOP.out _).mono ?_; rintro e v6 ⟨v, rfl, rfl, ho⟩; have hG := hC.then1 ho; have q0a := hG.rot4.cell (i := 0) (v := .int .i64 4) rfl; have q1a := hG.rot4.cell (i := 1) (v := .int .i64 O) rfl; have q2a := hG.rot4.cell (i := 2) (v := .int .i64 N) rfl; have q3a := hG.rot4.cell (i := 3) (v := .int .i64 M) rfl; have q4a := hG.rot4.cell (i := 4) (v := .string DT) rfl; have p0a := hG.rot3.cell (i := 0) (v := .slice wa D.bytes.length wc) rfl; have p1a := hG.rot3.cell (i := 1) (v := .int .i64 D.synced) rfl; have p2a := hG.rot3.cell (i := 2) (v := .int .i64 0) rfl; have g0a := hG.swap.cell (i := 0) (v := .slice ga 0 gc) rfl; have g1a := hG.swap.cell (i := 1) (v := .int .i64 0) rfl; have g2a := hG.swap.cell (i := 2) (v := .int .i64 1) rfl; have n0a := hG.cell (i := 0) (v := .slice na D.bytes.length nc) rfl; have n1a := hG.cell (i := 1) (v := .int .i64 D.synced) rfl; have n2a := hG.cell (i := 2) (v := .int .i64 0) rfl))
  go_ret2
  exact Ret.mk ⟨rfl, (hH.perm (B := F * dk b D2 * (vec 5 1 (.slice wa D.bytes.length wc) D.bytes.length (bvs D.bytes) * vec 5 1 (.slice ga 0 gc) 0 [] * blk bt [.int .i64 4, .int .i64 O, .int .i64 N, .int .i64 M, .string DT] 83 * blk b11 [.slice wa D.bytes.length wc, .int .i64 D.synced, .int .i64 0] 87 * blk b12 [.slice ga 0 gc, .int .i64 0, .int .i64 1] 87 * blk b13 [.slice na D.bytes.length nc, .int .i64 D.synced, .int .i64 0] 87 * vec 5 1 (.slice na D.bytes.length nc) D.bytes.length (bvs D.bytes))) (by ac_rfl)).drop⟩

set_option maxRecDepth 20000 in
set_option maxHeartbeats 12800000 in
theorem moves_live4ok {w0 w : World} {F : HP} {b : Nat} {D D2 : Dk} {E : Nat → Addr} (hE : Errs w0 E) (hD : D.Ok) (hD2 : D2.Ok) (hm : D.arms.length < 8796093022207) (hm2 : D2.arms.length < 8796093022207) {O M : Int} {j : Nat} {DT : ByteArray} (hS : (⟨4, O, (j : Nat), M, DT⟩ : Stp).Ok) (n : Int) {X : List UInt8} {y : Nat} (hd : D.dead = false) (hd2 : D2.dead = false) (hQ : D2.bytes = X) (hsq : D2.synced = y) (hj : j ≤ D.bytes.length) (hX : X = D.bytes.take j) (hy : y = min D.synced j) 
    (hACT : D.act (⟨4, O, (j : Nat), M, DT⟩ : Stp) = (⟨[], 0, 0⟩, D2)) (hs : Sat w0 w (F * dk b D)) :
    Calls Tryd.prog 54 #[.pointer (some ⟨b, 0, none⟩), .agg #[.int .i64 4, .int .i64 O, .int .i64 (j : Nat), .int .i64 M, .string DT], .int .i64 D.room, .int .i64 n] w (Ret fun v w' => v = .tuple #[.bool true, .int .i64 n] ∧ Sat w0 w' (F * dk b D2)) := by
  have hT0 := hs.new #[.int .i64 4, .int .i64 O, .int .i64 (j : Nat), .int .i64 M, .string DT] 83
  generalize hbt : w.heap.size = bt at hT0
  have hT := hT0.swap
  have HDD := Hid.mk' (disk_dead_is hd hT)
  have HD2 := Hid.mk' hd2
  have HACT := Hid.mk' hACT
  have HE := Hid.mk' hE
  have hb := hD.bytes
  have HOP := Hid.mk' (fun w => by have := law12_operation (w := w) (⟨4, O, (j : Nat), M, DT⟩ : Stp); rw [show decide (1 ≤ (⟨4, O, (j : Nat), M, DT⟩ : Stp).kind ∧ (⟨4, O, (j : Nat), M, DT⟩ : Stp).kind ≤ 4) = true from rfl] at this; exact this)
  have HX := Hid.mk' hX
  have HY := Hid.mk' hy
  clear hX hy
  clear hs hT0 hd hd2 hACT hE
  go_enter Tryd.func54, Tryd.ntmps54
  go_wp2_with (go_at_call 53; refine HDD.out.mono ?_; rintro e v0 ⟨rfl, rfl⟩)
  refine law12_look.mono ?_
  rintro e v1 ⟨v, rfl, rfl, hx⟩
  have hT1 := hT.then1 hx
  clear hx hT
  go_wp2_with fail
  refine (law12_actLook (D := D) (b := b) HE.out hD hm (F := F * blk bt [.int .i64 4, .int .i64 O, .int .i64 (j : Nat), .int .i64 M, .string DT] 83) hT1).mono ?_
  rintro e v2 ⟨v, rfl, wa, wc, hwc, rfl, hx⟩
  have HWC := Hid.mk' hwc
  have hA0 := hx.new #[.slice wa D.bytes.length wc, .int .i64 D.synced, .int .i64 0] 87
  generalize hb11 : v2.heap.size = b11 at hA0
  have hA := hA0.perm (B := F * vec 5 1 (.slice wa D.bytes.length wc) D.bytes.length (bvs D.bytes) * blk b11 [.slice wa D.bytes.length wc, .int .i64 D.synced, .int .i64 0] 87 * blk bt [.int .i64 4, .int .i64 O, .int .i64 (j : Nat), .int .i64 M, .string DT] 83 * dk b D) (by ac_rfl)
  have q0 := hA.swap.cell (i := 0) (v := .int .i64 4) rfl
  have q1 := hA.swap.cell (i := 1) (v := .int .i64 O) rfl
  have q2 := hA.swap.cell (i := 2) (v := .int .i64 (j : Nat)) rfl
  have q3 := hA.swap.cell (i := 3) (v := .int .i64 M) rfl
  have q4 := hA.swap.cell (i := 4) (v := .string DT) rfl
  clear hx hA0 hT1 hwc
  go_wp2_with fail
  refine (law12_act' HE.out hD (⟨4, O, (j : Nat), M, DT⟩ : Stp) hS hm (b := b) (D := D) (F := F * vec 5 1 (.slice wa D.bytes.length wc) D.bytes.length (bvs D.bytes) * blk b11 [.slice wa D.bytes.length wc, .int .i64 D.synced, .int .i64 0] 87 * blk bt [.int .i64 4, .int .i64 O, .int .i64 (j : Nat), .int .i64 M, .string DT] 83) hA).mono ?_
  rintro e v3 ⟨v, rfl, ga, gc, hgc, rfl, hx⟩
  rw [HACT.out] at hx ⊢
  have hB0 := hx.new #[.slice ga 0 gc, .int .i64 0, .int .i64 0] 87
  generalize hb12 : v3.heap.size = b12 at hB0
  have hB := hB0.perm (B := F * vec 5 1 (.slice wa D.bytes.length wc) D.bytes.length (bvs D.bytes) * vec 5 1 (.slice ga 0 gc) 0 [] * blk bt [.int .i64 4, .int .i64 O, .int .i64 (j : Nat), .int .i64 M, .string DT] 83 * blk b11 [.slice wa D.bytes.length wc, .int .i64 D.synced, .int .i64 0] 87 * blk b12 [.slice ga 0 gc, .int .i64 0, .int .i64 0] 87 * dk b D2) (by ac_rfl)
  clear hx hB0 hA hgc q0 q1 q2 q3 q4
  go_wp2_with fail
  refine law12_look.mono ?_
  rintro e v4 ⟨v, rfl, rfl, hx⟩
  have hB1 := hB.then1 hx
  clear hx hB
  go_wp2_with fail
  refine (law12_actLook (D := D2) (b := b) HE.out hD2 hm2 (F := F * vec 5 1 (.slice wa D.bytes.length wc) D.bytes.length (bvs D.bytes) * vec 5 1 (.slice ga 0 gc) 0 [] * blk bt [.int .i64 4, .int .i64 O, .int .i64 (j : Nat), .int .i64 M, .string DT] 83 * blk b11 [.slice wa D.bytes.length wc, .int .i64 D.synced, .int .i64 0] 87 * blk b12 [.slice ga 0 gc, .int .i64 0, .int .i64 0] 87) hB1).mono ?_
  rintro e v5 ⟨v, rfl, na, nc, hnc, rfl, hx⟩
  rw [hQ] at hx
  rw [hQ, hsq]
  have hC0 := hx.new #[.slice na X.length nc, .int .i64 y, .int .i64 0] 87
  generalize hb13 : v5.heap.size = b13 at hC0
  have hC := hC0.perm (B := F * dk b D2 * vec 5 1 (.slice wa D.bytes.length wc) D.bytes.length (bvs D.bytes) * vec 5 1 (.slice ga 0 gc) 0 [] * vec 5 1 (.slice na X.length nc) X.length (bvs X) * blk bt [.int .i64 4, .int .i64 O, .int .i64 (j : Nat), .int .i64 M, .string DT] 83 * blk b11 [.slice wa D.bytes.length wc, .int .i64 D.synced, .int .i64 0] 87 * blk b12 [.slice ga 0 gc, .int .i64 0, .int .i64 0] 87 * blk b13 [.slice na X.length nc, .int .i64 y, .int .i64 0] 87) (by ac_rfl)
  have q0 := hC.rot4.cell (i := 0) (v := .int .i64 4) rfl
  have q1 := hC.rot4.cell (i := 1) (v := .int .i64 O) rfl
  have q2 := hC.rot4.cell (i := 2) (v := .int .i64 (j : Nat)) rfl
  have q3 := hC.rot4.cell (i := 3) (v := .int .i64 M) rfl
  have q4 := hC.rot4.cell (i := 4) (v := .string DT) rfl
  clear hx hC0 hB1 hnc
  go_wp2_with (first | (go_at_call 120; refine (went4_ok D.room hb hj HX.out HY.out wa ga na wc gc nc HWC.out hG.rot7.no hG.rot7.rd hG.rot5.rd).mono ?_; rintro e v8 ⟨v, rfl, rfl, hz⟩; have hH := hG.then1 hz) | (go_at_call 53; refine (disk_dead_is HD2.out (hH.perm (B := F * (vec 5 1 (.slice wa D.bytes.length wc) D.bytes.length (bvs D.bytes) * vec 5 1 (.slice ga 0 gc) 0 [] * blk bt [.int .i64 4, .int .i64 O, .int .i64 (j : Nat), .int .i64 M, .string DT] 83 * blk b11 [.slice wa D.bytes.length wc, .int .i64 D.synced, .int .i64 0] 87 * blk b12 [.slice ga 0 gc, .int .i64 0, .int .i64 0] 87 * blk b13 [.slice na X.length nc, .int .i64 y, .int .i64 0] 87 * vec 5 1 (.slice na X.length nc) X.length (bvs X)) * dk b D2) (by ac_rfl))).mono ?_; rintro e v9 ⟨rfl, rfl⟩) | (go_at_call 118; refine (HOP.out _).mono ?_; rintro e v6 ⟨v, rfl, rfl, ho⟩; have hG := hC.then1 ho; have q0a := hG.rot4.cell (i := 0) (v := .int .i64 4) rfl; have q1a := hG.rot4.cell (i := 1) (v := .int .i64 O) rfl; have q2a := hG.rot4.cell (i := 2) (v := .int .i64 (j : Nat)) rfl; have q3a := hG.rot4.cell (i := 3) (v := .int .i64 M) rfl; have q4a := hG.rot4.cell (i := 4) (v := .string DT) rfl; have p0a := hG.rot3.cell (i := 0) (v := .slice wa D.bytes.length wc) rfl; have p1a := hG.rot3.cell (i := 1) (v := .int .i64 D.synced) rfl; have p2a := hG.rot3.cell (i := 2) (v := .int .i64 0) rfl; have g0a := hG.swap.cell (i := 0) (v := .slice ga 0 gc) rfl; have g1a := hG.swap.cell (i := 1) (v := .int .i64 0) rfl; have g2a := hG.swap.cell (i := 2) (v := .int .i64 0) rfl; have n0a := hG.cell (i := 0) (v := .slice na X.length nc) rfl; have n1a := hG.cell (i := 1) (v := .int .i64 y) rfl; have n2a := hG.cell (i := 2) (v := .int .i64 0) rfl))
  go_ret2
  exact Ret.mk ⟨rfl, (hH.perm (B := F * dk b D2 * (vec 5 1 (.slice wa D.bytes.length wc) D.bytes.length (bvs D.bytes) * vec 5 1 (.slice ga 0 gc) 0 [] * blk bt [.int .i64 4, .int .i64 O, .int .i64 (j : Nat), .int .i64 M, .string DT] 83 * blk b11 [.slice wa D.bytes.length wc, .int .i64 D.synced, .int .i64 0] 87 * blk b12 [.slice ga 0 gc, .int .i64 0, .int .i64 0] 87 * blk b13 [.slice na X.length nc, .int .i64 y, .int .i64 0] 87 * vec 5 1 (.slice na X.length nc) X.length (bvs X))) (by ac_rfl)).drop⟩

end Go.Proofs.YtjhlelcopofkkaaDoor
