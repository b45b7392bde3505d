/- What the law DiskLasts demands of one call. -/
import Derived.Test.YtjhlelcopofkkaaDoorHeld
namespace Go.Proofs.YtjhlelcopofkkaaDoor
open Go.RowKit

theorem hk_fin {w0 w : World} {F X : HP} {b bh g : Nat} {D2 : Dk} {G A : List UInt8} {n : Int} {vg va : Value} (hg : G.length = g) (h : Sat w0 w (F * dk b D2 * vec 5 1 vg g (bvs G) * vec 5 1 va A.length (bvs A) * blk bh [vg, va, .int .i64 n] 111 * X)) (e1 : D2.bytes.take D2.synced = G) (e2 : D2.bytes = A) (e3 : (D2.arms.length : Int) = n) : Sat w0 w (F * hk bh (D2.bytes.take D2.synced) D2.bytes D2.arms.length * dk b D2) := by
  subst e1; subst e2; subst e3; subst hg
  exact Sat.swap (Sat.hk_shut h.drop)

set_option maxRecDepth 20000 in
set_option maxHeartbeats 6400000 in
theorem lasts_dead1 {w0 w : World} {F : HP} {b bh : Nat} {D D2 : Dk} {E : Nat → Addr} (hE : Errs w0 E) (hD : D.Ok) (hm : D.arms.length < 8796093022207) {O N M : Int} {DT : ByteArray} {fb : Bool} (hS : (⟨1, O, N, M, DT⟩ : Stp).Ok) (h1 : D2.bytes.take D2.synced = D.bytes.take D.synced) (h2 : D2.bytes = D.bytes) (h3 : (D2.arms.length : Int) = D.arms.length)
    (hACT : D.act ⟨1, O, N, M, DT⟩ = (⟨[], 0, 10⟩, D2))
    (hs : Sat w0 w (F * hk bh (D.bytes.take D.synced) D.bytes D.arms.length * dk b D)) :
    Calls Tryd.prog 64 #[.pointer (some ⟨bh, 0, none⟩), .pointer (some ⟨b, 0, none⟩), .agg #[.int .i64 1, .int .i64 O, .int .i64 N, .int .i64 M, .string DT], .bool true, .bool fb] w (Ret fun v w' => v = .bool true ∧ Sat w0 w' (F * hk bh (D2.bytes.take D2.synced) D2.bytes D2.arms.length * dk b D2)) := by
  obtain ⟨G, hGe⟩ : ∃ G, D.bytes.take D.synced = G := ⟨_, rfl⟩
  have hGl : G.length = D.synced := by rw [← hGe, List.length_take]; have := hD.synced; omega
  obtain ⟨n, hne⟩ : ∃ n : Int, (D.arms.length : Int) = n := ⟨_, rfl⟩
  rw [hGe, hne] at hs
  obtain ⟨gv, av, hs0⟩ := hs.swap.hk_open
  rw [hGl] at hs0
  obtain ⟨ga, gc, rfl, _, _, _⟩ := hs0.rot3.vec_rd
  obtain ⟨aa, ac, rfl, _, _, _⟩ := hs0.swap.vec_rd
  have hT0 := hs0.new #[.int .i64 1, .int .i64 O, .int .i64 N, .int .i64 M, .string DT] 83
  generalize hbt : w.heap.size = bt at hT0
  have hT := hT0.perm (B := F * vec 5 1 (.slice ga D.synced gc) D.synced (bvs G) * vec 5 1 (.slice aa D.bytes.length ac) D.bytes.length (bvs D.bytes) * blk bh [.slice ga D.synced gc, .slice aa D.bytes.length ac, .int .i64 n] 111 * blk bt [.int .i64 1, .int .i64 O, .int .i64 N, .int .i64 M, .string DT] 83 * dk b D) (by ac_rfl)
  have HE := Hid.mk' hE
  have HACT := Hid.mk' hACT
  have HGE := Hid.mk' hGe
  have HGL := Hid.mk' hGl
  have HNE := Hid.mk' hne
  have hb := hD.bytes
  clear hs hs0 hT0 hE hACT hGe hGl hne
  have HOP := Hid.mk' (fun w => by have := law12_operation (w := w) (⟨1, O, N, M, DT⟩ : Stp); rw [show decide (1 ≤ (⟨1, O, N, M, DT⟩ : Stp).kind ∧ (⟨1, O, N, M, DT⟩ : Stp).kind ≤ 4) = true from rfl] at this; exact this)
  go_enter Tryd.func64, Tryd.ntmps64
  go_wp2_with fail
  refine (law12_act' HE.out hD (⟨1, O, N, M, DT⟩ : Stp) hS hm (b := b) (D := D) (F := F * vec 5 1 (.slice ga D.synced gc) D.synced (bvs G) * vec 5 1 (.slice aa D.bytes.length ac) D.bytes.length (bvs D.bytes) * blk bh [.slice ga D.synced gc, .slice aa D.bytes.length ac, .int .i64 n] 111 * blk bt [.int .i64 1, .int .i64 O, .int .i64 N, .int .i64 M, .string DT] 83) hT).mono ?_
  rintro e v1 ⟨v, rfl, a1, n1, hn1, rfl, hx⟩
  rw [HACT.out] at hx ⊢
  have hy := hx.new #[.slice a1 0 n1, .int .i64 0, .int .i64 10] 87
  generalize hb9 : v1.heap.size = b9 at hy
  have hA := hy.perm (B := F * vec 5 1 (.slice ga D.synced gc) D.synced (bvs G) * vec 5 1 (.slice aa D.bytes.length ac) D.bytes.length (bvs D.bytes) * dk b D2 * vec 5 1 (.slice a1 0 n1) 0 [] * blk bt [.int .i64 1, .int .i64 O, .int .i64 N, .int .i64 M, .string DT] 83 * blk b9 [.slice a1 0 n1, .int .i64 0, .int .i64 10] 87 * blk bh [.slice ga D.synced gc, .slice aa D.bytes.length ac, .int .i64 n] 111) (by ac_rfl)
  have q0 := hA.rot3.cell (i := 0) (v := .int .i64 1) rfl
  have q1 := hA.rot3.cell (i := 1) (v := .int .i64 O) rfl
  have q2 := hA.rot3.cell (i := 2) (v := .int .i64 N) rfl
  have q3 := hA.rot3.cell (i := 3) (v := .int .i64 M) rfl
  have q4 := hA.rot3.cell (i := 4) (v := .string DT) rfl
  have g0 := hA.cell (i := 0) (v := .slice ga D.synced gc) rfl
  have g1 := hA.cell (i := 1) (v := .slice aa D.bytes.length ac) rfl
  have g2 := hA.cell (i := 2) (v := .int .i64 n) rfl
  have f2 := hA.free 2
  clear hx hy hT hn1
  go_wp2_with (go_at_call 118; refine (HOP.out _).mono ?_; rintro e v6 ⟨v, rfl, rfl, ho⟩; have hB := hA.then1 ho; have q0' := hB.rot3.cell (i := 0) (v := .int .i64 1) rfl; have r0' := hB.swap.cell (i := 0) (v := .slice a1 0 n1) rfl; have r1' := hB.swap.cell (i := 1) (v := .int .i64 0) rfl; have r2' := hB.swap.cell (i := 2) (v := .int .i64 10) rfl; have g0' := hB.cell (i := 0) (v := .slice ga D.synced gc) rfl; have g1' := hB.cell (i := 1) (v := .slice aa D.bytes.length ac) rfl; have g2' := hB.cell (i := 2) (v := .int .i64 n) rfl; have f2' := hB.free 2)
  go_ret
  exact Ret.mk ⟨rfl, hk_fin (g := D.synced) HGL.out (X := vec 5 1 (.slice a1 0 n1) 0 [] * blk bt [.int .i64 1, .int .i64 O, .int .i64 N, .int .i64 M, .string DT] 83 * blk b9 [.slice a1 0 n1, .int .i64 0, .int .i64 10] 87) (hB.perm (by ac_rfl)) (h1.trans HGE.out) h2 (h3.trans HNE.out)⟩

set_option maxRecDepth 20000 in
set_option maxHeartbeats 6400000 in
theorem lasts_dead2 {w0 w : World} {F : HP} {b bh : Nat} {D D2 : Dk} {E : Nat → Addr} (hE : Errs w0 E) (hD : D.Ok) (hm : D.arms.length < 8796093022207) {O N M : Int} {DT : ByteArray} {fb : Bool} (hS : (⟨2, O, N, M, DT⟩ : Stp).Ok) (h1 : D2.bytes.take D2.synced = D.bytes.take D.synced) (h2 : D2.bytes = D.bytes) (h3 : (D2.arms.length : Int) = D.arms.length)
    (hACT : D.act ⟨2, O, N, M, DT⟩ = (⟨[], 0, 10⟩, D2))
    (hs : Sat w0 w (F * hk bh (D.bytes.take D.synced) D.bytes D.arms.length * dk b D)) :
    Calls Tryd.prog 64 #[.pointer (some ⟨bh, 0, none⟩), .pointer (some ⟨b, 0, none⟩), .agg #[.int .i64 2, .int .i64 O, .int .i64 N, .int .i64 M, .string DT], .bool true, .bool fb] w (Ret fun v w' => v = .bool true ∧ Sat w0 w' (F * hk bh (D2.bytes.take D2.synced) D2.bytes D2.arms.length * dk b D2)) := by
  obtain ⟨G, hGe⟩ : ∃ G, D.bytes.take D.synced = G := ⟨_, rfl⟩
  have hGl : G.length = D.synced := by rw [← hGe, List.length_take]; have := hD.synced; omega
  obtain ⟨n, hne⟩ : ∃ n : Int, (D.arms.length : Int) = n := ⟨_, rfl⟩
  rw [hGe, hne] at hs
  obtain ⟨gv, av, hs0⟩ := hs.swap.hk_open
  rw [hGl] at hs0
  obtain ⟨ga, gc, rfl, _, _, _⟩ := hs0.rot3.vec_rd
  obtain ⟨aa, ac, rfl, _, _, _⟩ := hs0.swap.vec_rd
  have hT0 := hs0.new #[.int .i64 2, .int .i64 O, .int .i64 N, .int .i64 M, .string DT] 83
  generalize hbt : w.heap.size = bt at hT0
  have hT := hT0.perm (B := F * vec 5 1 (.slice ga D.synced gc) D.synced (bvs G) * vec 5 1 (.slice aa D.bytes.length ac) D.bytes.length (bvs D.bytes) * blk bh [.slice ga D.synced gc, .slice aa D.bytes.length ac, .int .i64 n] 111 * blk bt [.int .i64 2, .int .i64 O, .int .i64 N, .int .i64 M, .string DT] 83 * dk b D) (by ac_rfl)
  have HE := Hid.mk' hE
  have HACT := Hid.mk' hACT
  have HGE := Hid.mk' hGe
  have HGL := Hid.mk' hGl
  have HNE := Hid.mk' hne
  have hb := hD.bytes
  clear hs hs0 hT0 hE hACT hGe hGl hne
  have HOP := Hid.mk' (fun w => by have := law12_operation (w := w) (⟨2, O, N, M, DT⟩ : Stp); rw [show decide (1 ≤ (⟨2, O, N, M, DT⟩ : Stp).kind ∧ (⟨2, O, N, M, DT⟩ : Stp).kind ≤ 4) = true from rfl] at this; exact this)
  go_enter Tryd.func64, Tryd.ntmps64
  go_wp2_with fail
  refine (law12_act' HE.out hD (⟨2, O, N, M, DT⟩ : Stp) hS hm (b := b) (D := D) (F := F * vec 5 1 (.slice ga D.synced gc) D.synced (bvs G) * vec 5 1 (.slice aa D.bytes.length ac) D.bytes.length (bvs D.bytes) * blk bh [.slice ga D.synced gc, .slice aa D.bytes.length ac, .int .i64 n] 111 * blk bt [.int .i64 2, .int .i64 O, .int .i64 N, .int .i64 M, .string DT] 83) hT).mono ?_
  rintro e v1 ⟨v, rfl, a1, n1, hn1, rfl, hx⟩
  rw [HACT.out] at hx ⊢
  have hy := hx.new #[.slice a1 0 n1, .int .i64 0, .int .i64 10] 87
  generalize hb9 : v1.heap.size = b9 at hy
  have hA := hy.perm (B := F * vec 5 1 (.slice ga D.synced gc) D.synced (bvs G) * vec 5 1 (.slice aa D.bytes.length ac) D.bytes.length (bvs D.bytes) * dk b D2 * vec 5 1 (.slice a1 0 n1) 0 [] * blk bt [.int .i64 2, .int .i64 O, .int .i64 N, .int .i64 M, .string DT] 83 * blk b9 [.slice a1 0 n1, .int .i64 0, .int .i64 10] 87 * blk bh [.slice ga D.synced gc, .slice aa D.bytes.length ac, .int .i64 n] 111) (by ac_rfl)
  have q0 := hA.rot3.cell (i := 0) (v := .int .i64 2) rfl
  have q1 := hA.rot3.cell (i := 1) (v := .int .i64 O) rfl
  have q2 := hA.rot3.cell (i := 2) (v := .int .i64 N) rfl
  have q3 := hA.rot3.cell (i := 3) (v := .int .i64 M) rfl
  have q4 := hA.rot3.cell (i := 4) (v := .string DT) rfl
  have g0 := hA.cell (i := 0) (v := .slice ga D.synced gc) rfl
  have g1 := hA.cell (i := 1) (v := .slice aa D.bytes.length ac) rfl
  have g2 := hA.cell (i := 2) (v := .int .i64 n) rfl
  have f2 := hA.free 2
  clear hx hy hT hn1
  go_wp2_with (go_at_call 118; refine (HOP.out _).mono ?_; rintro e v6 ⟨v, rfl, rfl, ho⟩; have hB := hA.then1 ho; have q0' := hB.rot3.cell (i := 0) (v := .int .i64 2) rfl; have r0' := hB.swap.cell (i := 0) (v := .slice a1 0 n1) rfl; have r1' := hB.swap.cell (i := 1) (v := .int .i64 0) rfl; have r2' := hB.swap.cell (i := 2) (v := .int .i64 10) rfl; have g0' := hB.cell (i := 0) (v := .slice ga D.synced gc) rfl; have g1' := hB.cell (i := 1) (v := .slice aa D.bytes.length ac) rfl; have g2' := hB.cell (i := 2) (v := .int .i64 n) rfl; have f2' := hB.free 2)
  go_ret
  exact Ret.mk ⟨rfl, hk_fin (g := D.synced) HGL.out (X := vec 5 1 (.slice a1 0 n1) 0 [] * blk bt [.int .i64 2, .int .i64 O, .int .i64 N, .int .i64 M, .string DT] 83 * blk b9 [.slice a1 0 n1, .int .i64 0, .int .i64 10] 87) (hB.perm (by ac_rfl)) (h1.trans HGE.out) h2 (h3.trans HNE.out)⟩

set_option maxRecDepth 20000 in
set_option maxHeartbeats 6400000 in
theorem lasts_dead3 {w0 w : World} {F : HP} {b bh : Nat} {D D2 : Dk} {E : Nat → Addr} (hE : Errs w0 E) (hD : D.Ok) (hm : D.arms.length < 8796093022207) {O N M : Int} {DT : ByteArray} {fb : Bool} (hS : (⟨3, O, N, M, DT⟩ : Stp).Ok) (h1 : D2.bytes.take D2.synced = D.bytes.take D.synced) (h2 : D2.bytes = D.bytes) (h3 : (D2.arms.length : Int) = D.arms.length)
    (hACT : D.act ⟨3, O, N, M, DT⟩ = (⟨[], 0, 10⟩, D2))
    (hs : Sat w0 w (F * hk bh (D.bytes.take D.synced) D.bytes D.arms.length * dk b D)) :
    Calls Tryd.prog 64 #[.pointer (some ⟨bh, 0, none⟩), .pointer (some ⟨b, 0, none⟩), .agg #[.int .i64 3, .int .i64 O, .int .i64 N, .int .i64 M, .string DT], .bool true, .bool fb] w (Ret fun v w' => v = .bool true ∧ Sat w0 w' (F * hk bh (D2.bytes.take D2.synced) D2.bytes D2.arms.length * dk b D2)) := by
  obtain ⟨G, hGe⟩ : ∃ G, D.bytes.take D.synced = G := ⟨_, rfl⟩
  have hGl : G.length = D.synced := by rw [← hGe, List.length_take]; have := hD.synced; omega
  obtain ⟨n, hne⟩ : ∃ n : Int, (D.arms.length : Int) = n := ⟨_, rfl⟩
  rw [hGe, hne] at hs
  obtain ⟨gv, av, hs0⟩ := hs.swap.hk_open
  rw [hGl] at hs0
  obtain ⟨ga, gc, rfl, _, _, _⟩ := hs0.rot3.vec_rd
  obtain ⟨aa, ac, rfl, _, _, _⟩ := hs0.swap.vec_rd
  have hT0 := hs0.new #[.int .i64 3, .int .i64 O, .int .i64 N, .int .i64 M, .string DT] 83
  generalize hbt : w.heap.size = bt at hT0
  have hT := hT0.perm (B := F * vec 5 1 (.slice ga D.synced gc) D.synced (bvs G) * vec 5 1 (.slice aa D.bytes.length ac) D.bytes.length (bvs D.bytes) * blk bh [.slice ga D.synced gc, .slice aa D.bytes.length ac, .int .i64 n] 111 * blk bt [.int .i64 3, .int .i64 O, .int .i64 N, .int .i64 M, .string DT] 83 * dk b D) (by ac_rfl)
  have HE := Hid.mk' hE
  have HACT := Hid.mk' hACT
  have HGE := Hid.mk' hGe
  have HGL := Hid.mk' hGl
  have HNE := Hid.mk' hne
  have hb := hD.bytes
  clear hs hs0 hT0 hE hACT hGe hGl hne
  have HOP := Hid.mk' (fun w => by have := law12_operation (w := w) (⟨3, O, N, M, DT⟩ : Stp); rw [show decide (1 ≤ (⟨3, O, N, M, DT⟩ : Stp).kind ∧ (⟨3, O, N, M, DT⟩ : Stp).kind ≤ 4) = true from rfl] at this; exact this)
  go_enter Tryd.func64, Tryd.ntmps64
  go_wp2_with fail
  refine (law12_act' HE.out hD (⟨3, O, N, M, DT⟩ : Stp) hS hm (b := b) (D := D) (F := F * vec 5 1 (.slice ga D.synced gc) D.synced (bvs G) * vec 5 1 (.slice aa D.bytes.length ac) D.bytes.length (bvs D.bytes) * blk bh [.slice ga D.synced gc, .slice aa D.bytes.length ac, .int .i64 n] 111 * blk bt [.int .i64 3, .int .i64 O, .int .i64 N, .int .i64 M, .string DT] 83) hT).mono ?_
  rintro e v1 ⟨v, rfl, a1, n1, hn1, rfl, hx⟩
  rw [HACT.out] at hx ⊢
  have hy := hx.new #[.slice a1 0 n1, .int .i64 0, .int .i64 10] 87
  generalize hb9 : v1.heap.size = b9 at hy
  have hA := hy.perm (B := F * vec 5 1 (.slice ga D.synced gc) D.synced (bvs G) * vec 5 1 (.slice aa D.bytes.length ac) D.bytes.length (bvs D.bytes) * dk b D2 * vec 5 1 (.slice a1 0 n1) 0 [] * blk bt [.int .i64 3, .int .i64 O, .int .i64 N, .int .i64 M, .string DT] 83 * blk b9 [.slice a1 0 n1, .int .i64 0, .int .i64 10] 87 * blk bh [.slice ga D.synced gc, .slice aa D.bytes.length ac, .int .i64 n] 111) (by ac_rfl)
  have q0 := hA.rot3.cell (i := 0) (v := .int .i64 3) rfl
  have q1 := hA.rot3.cell (i := 1) (v := .int .i64 O) rfl
  have q2 := hA.rot3.cell (i := 2) (v := .int .i64 N) rfl
  have q3 := hA.rot3.cell (i := 3) (v := .int .i64 M) rfl
  have q4 := hA.rot3.cell (i := 4) (v := .string DT) rfl
  have g0 := hA.cell (i := 0) (v := .slice ga D.synced gc) rfl
  have g1 := hA.cell (i := 1) (v := .slice aa D.bytes.length ac) rfl
  have g2 := hA.cell (i := 2) (v := .int .i64 n) rfl
  have f2 := hA.free 2
  clear hx hy hT hn1
  go_wp2_with (go_at_call 118; refine (HOP.out _).mono ?_; rintro e v6 ⟨v, rfl, rfl, ho⟩; have hB := hA.then1 ho; have q0' := hB.rot3.cell (i := 0) (v := .int .i64 3) rfl; have r0' := hB.swap.cell (i := 0) (v := .slice a1 0 n1) rfl; have r1' := hB.swap.cell (i := 1) (v := .int .i64 0) rfl; have r2' := hB.swap.cell (i := 2) (v := .int .i64 10) rfl; have g0' := hB.cell (i := 0) (v := .slice ga D.synced gc) rfl; have g1' := hB.cell (i := 1) (v := .slice aa D.bytes.length ac) rfl; have g2' := hB.cell (i := 2) (v := .int .i64 n) rfl; have f2' := hB.free 2)
  go_ret
  exact Ret.mk ⟨rfl, hk_fin (g := D.synced) HGL.out (X := vec 5 1 (.slice a1 0 n1) 0 [] * blk bt [.int .i64 3, .int .i64 O, .int .i64 N, .int .i64 M, .string DT] 83 * blk b9 [.slice a1 0 n1, .int .i64 0, .int .i64 10] 87) (hB.perm (by ac_rfl)) (h1.trans HGE.out) h2 (h3.trans HNE.out)⟩

set_option maxRecDepth 20000 in
set_option maxHeartbeats 6400000 in
theorem lasts_dead6 {w0 w : World} {F : HP} {b bh : Nat} {D D2 : Dk} {E : Nat → Addr} (hE : Errs w0 E) (hD : D.Ok) (hm : D.arms.length < 8796093022207) {O N M : Int} {DT : ByteArray} (hS : (⟨6, O, N, M, DT⟩ : Stp).Ok) (h1 : D2.bytes.take D2.synced = D.bytes.take D.synced) (h2 : D2.bytes = D.bytes) (h3 : (D2.arms.length : Int) = D.arms.length)
    (hACT : D.act ⟨6, O, N, M, DT⟩ = (⟨[], 0, 0⟩, D2))
    (hs : Sat w0 w (F * hk bh (D.bytes.take D.synced) D.bytes D.arms.length * dk b D)) :
    Calls Tryd.prog 64 #[.pointer (some ⟨bh, 0, none⟩), .pointer (some ⟨b, 0, none⟩), .agg #[.int .i64 6, .int .i64 O, .int .i64 N, .int .i64 M, .string DT], .bool true, .bool false] w (Ret fun v w' => v = .bool true ∧ Sat w0 w' (F * hk bh (D2.bytes.take D2.synced) D2.bytes D2.arms.length * dk b D2)) := by
  obtain ⟨G, hGe⟩ : ∃ G, D.bytes.take D.synced = G := ⟨_, rfl⟩
  have hGl : G.length = D.synced := by rw [← hGe, List.length_take]; have := hD.synced; omega
  obtain ⟨n, hne⟩ : ∃ n : Int, (D.arms.length : Int) = n := ⟨_, rfl⟩
  rw [hGe, hne] at hs
  obtain ⟨gv, av, hs0⟩ := hs.swap.hk_open
  rw [hGl] at hs0
  obtain ⟨ga, gc, rfl, _, _, _⟩ := hs0.rot3.vec_rd
  obtain ⟨aa, ac, rfl, _, _, _⟩ := hs0.swap.vec_rd
  have hT0 := hs0.new #[.int .i64 6, .int .i64 O, .int .i64 N, .int .i64 M, .string DT] 83
  generalize hbt : w.heap.size = bt at hT0
  have hT := hT0.perm (B := F * vec 5 1 (.slice ga D.synced gc) D.synced (bvs G) * vec 5 1 (.slice aa D.bytes.length ac) D.bytes.length (bvs D.bytes) * blk bh [.slice ga D.synced gc, .slice aa D.bytes.length ac, .int .i64 n] 111 * blk bt [.int .i64 6, .int .i64 O, .int .i64 N, .int .i64 M, .string DT] 83 * dk b D) (by ac_rfl)
  have HE := Hid.mk' hE
  have HACT := Hid.mk' hACT
  have HGE := Hid.mk' hGe
  have HGL := Hid.mk' hGl
  have HNE := Hid.mk' hne
  have hb := hD.bytes
  clear hs hs0 hT0 hE hACT hGe hGl hne
  have HOP := Hid.mk' (fun w => by have := law12_operation (w := w) (⟨6, O, N, M, DT⟩ : Stp); rw [show decide (1 ≤ (⟨6, O, N, M, DT⟩ : Stp).kind ∧ (⟨6, O, N, M, DT⟩ : Stp).kind ≤ 4) = false from rfl] at this; exact this)
  go_enter Tryd.func64, Tryd.ntmps64
  go_wp2_with fail
  refine (law12_act' HE.out hD (⟨6, O, N, M, DT⟩ : Stp) hS hm (b := b) (D := D) (F := F * vec 5 1 (.slice ga D.synced gc) D.synced (bvs G) * vec 5 1 (.slice aa D.bytes.length ac) D.bytes.length (bvs D.bytes) * blk bh [.slice ga D.synced gc, .slice aa D.bytes.length ac, .int .i64 n] 111 * blk bt [.int .i64 6, .int .i64 O, .int .i64 N, .int .i64 M, .string DT] 83) hT).mono ?_
  rintro e v1 ⟨v, rfl, a1, n1, hn1, rfl, hx⟩
  rw [HACT.out] at hx ⊢
  have hy := hx.new #[.slice a1 0 n1, .int .i64 0, .int .i64 0] 87
  generalize hb9 : v1.heap.size = b9 at hy
  have hA := hy.perm (B := F * vec 5 1 (.slice ga D.synced gc) D.synced (bvs G) * vec 5 1 (.slice aa D.bytes.length ac) D.bytes.length (bvs D.bytes) * dk b D2 * vec 5 1 (.slice a1 0 n1) 0 [] * blk bt [.int .i64 6, .int .i64 O, .int .i64 N, .int .i64 M, .string DT] 83 * blk b9 [.slice a1 0 n1, .int .i64 0, .int .i64 0] 87 * blk bh [.slice ga D.synced gc, .slice aa D.bytes.length ac, .int .i64 n] 111) (by ac_rfl)
  have q0 := hA.rot3.cell (i := 0) (v := .int .i64 6) rfl
  have q1 := hA.rot3.cell (i := 1) (v := .int .i64 O) rfl
  have q2 := hA.rot3.cell (i := 2) (v := .int .i64 N) rfl
  have q3 := hA.rot3.cell (i := 3) (v := .int .i64 M) rfl
  have q4 := hA.rot3.cell (i := 4) (v := .string DT) rfl
  have g0 := hA.cell (i := 0) (v := .slice ga D.synced gc) rfl
  have g1 := hA.cell (i := 1) (v := .slice aa D.bytes.length ac) rfl
  have g2 := hA.cell (i := 2) (v := .int .i64 n) rfl
  have f2 := hA.free 2
  clear hx hy hT hn1
  go_wp2_with (go_at_call 118; refine (HOP.out _).mono ?_; rintro e v6 ⟨v, rfl, rfl, ho⟩; have hB := hA.then1 ho; have q0' := hB.rot3.cell (i := 0) (v := .int .i64 6) rfl; have r0' := hB.swap.cell (i := 0) (v := .slice a1 0 n1) rfl; have r1' := hB.swap.cell (i := 1) (v := .int .i64 0) rfl; have r2' := hB.swap.cell (i := 2) (v := .int .i64 0) rfl; have g0' := hB.cell (i := 0) (v := .slice ga D.synced gc) rfl; have g1' := hB.cell (i := 1) (v := .slice aa D.bytes.length ac) rfl; have g2' := hB.cell (i := 2) (v := .int .i64 n) rfl; have f2' := hB.free 2)
  go_ret
  exact Ret.mk ⟨rfl, hk_fin (g := D.synced) HGL.out (X := vec 5 1 (.slice a1 0 n1) 0 [] * blk bt [.int .i64 6, .int .i64 O, .int .i64 N, .int .i64 M, .string DT] 83 * blk b9 [.slice a1 0 n1, .int .i64 0, .int .i64 0] 87) (hB.perm (by ac_rfl)) (h1.trans HGE.out) h2 (h3.trans HNE.out)⟩

set_option maxRecDepth 20000 in
set_option maxHeartbeats 6400000 in
theorem lasts_dead7 {w0 w : World} {F : HP} {b bh : Nat} {D D2 : Dk} {E : Nat → Addr} (hE : Errs w0 E) (hD : D.Ok) (hm : D.arms.length < 8796093022207) {O N M : Int} {DT : ByteArray} (hS : (⟨7, O, N, M, DT⟩ : Stp).Ok) (h1 : D2.bytes.take D2.synced = D.bytes.take D.synced) (h2 : D2.bytes = D.bytes) (h3 : (D2.arms.length : Int) = D.arms.length) {zz : Nat}
    (hACT : D.act ⟨7, O, N, M, DT⟩ = (⟨[], zz, 0⟩, D2))
    (hs : Sat w0 w (F * hk bh (D.bytes.take D.synced) D.bytes D.arms.length * dk b D)) :
    Calls Tryd.prog 64 #[.pointer (some ⟨bh, 0, none⟩), .pointer (some ⟨b, 0, none⟩), .agg #[.int .i64 7, .int .i64 O, .int .i64 N, .int .i64 M, .string DT], .bool true, .bool false] w (Ret fun v w' => v = .bool true ∧ Sat w0 w' (F * hk bh (D2.bytes.take D2.synced) D2.bytes D2.arms.length * dk b D2)) := by
  obtain ⟨G, hGe⟩ : ∃ G, D.bytes.take D.synced = G := ⟨_, rfl⟩
  have hGl : G.length = D.synced := by rw [← hGe, List.length_take]; have := hD.synced; omega
  obtain ⟨n, hne⟩ : ∃ n : Int, (D.arms.length : Int) = n := ⟨_, rfl⟩
  rw [hGe, hne] at hs
  obtain ⟨gv, av, hs0⟩ := hs.swap.hk_open
  rw [hGl] at hs0
  obtain ⟨ga, gc, rfl, _, _, _⟩ := hs0.rot3.vec_rd
  obtain ⟨aa, ac, rfl, _, _, _⟩ := hs0.swap.vec_rd
  have hT0 := hs0.new #[.int .i64 7, .int .i64 O, .int .i64 N, .int .i64 M, .string DT] 83
  generalize hbt : w.heap.size = bt at hT0
  have hT := hT0.perm (B := F * vec 5 1 (.slice ga D.synced gc) D.synced (bvs G) * vec 5 1 (.slice aa D.bytes.length ac) D.bytes.length (bvs D.bytes) * blk bh [.slice ga D.synced gc, .slice aa D.bytes.length ac, .int .i64 n] 111 * blk bt [.int .i64 7, .int .i64 O, .int .i64 N, .int .i64 M, .string DT] 83 * dk b D) (by ac_rfl)
  have HE := Hid.mk' hE
  have HACT := Hid.mk' hACT
  have HGE := Hid.mk' hGe
  have HGL := Hid.mk' hGl
  have HNE := Hid.mk' hne
  have hb := hD.bytes
  clear hs hs0 hT0 hE hACT hGe hGl hne
  have HOP := Hid.mk' (fun w => by have := law12_operation (w := w) (⟨7, O, N, M, DT⟩ : Stp); rw [show decide (1 ≤ (⟨7, O, N, M, DT⟩ : Stp).kind ∧ (⟨7, O, N, M, DT⟩ : Stp).kind ≤ 4) = false from rfl] at this; exact this)
  go_enter Tryd.func64, Tryd.ntmps64
  go_wp2_with fail
  refine (law12_act' HE.out hD (⟨7, O, N, M, DT⟩ : Stp) hS hm (b := b) (D := D) (F := F * vec 5 1 (.slice ga D.synced gc) D.synced (bvs G) * vec 5 1 (.slice aa D.bytes.length ac) D.bytes.length (bvs D.bytes) * blk bh [.slice ga D.synced gc, .slice aa D.bytes.length ac, .int .i64 n] 111 * blk bt [.int .i64 7, .int .i64 O, .int .i64 N, .int .i64 M, .string DT] 83) hT).mono ?_
  rintro e v1 ⟨v, rfl, a1, n1, hn1, rfl, hx⟩
  rw [HACT.out] at hx ⊢
  have hy := hx.new #[.slice a1 0 n1, .int .i64 zz, .int .i64 0] 87
  generalize hb9 : v1.heap.size = b9 at hy
  have hA := hy.perm (B := F * vec 5 1 (.slice ga D.synced gc) D.synced (bvs G) * vec 5 1 (.slice aa D.bytes.length ac) D.bytes.length (bvs D.bytes) * dk b D2 * vec 5 1 (.slice a1 0 n1) 0 [] * blk bt [.int .i64 7, .int .i64 O, .int .i64 N, .int .i64 M, .string DT] 83 * blk b9 [.slice a1 0 n1, .int .i64 zz, .int .i64 0] 87 * blk bh [.slice ga D.synced gc, .slice aa D.bytes.length ac, .int .i64 n] 111) (by ac_rfl)
  have q0 := hA.rot3.cell (i := 0) (v := .int .i64 7) rfl
  have q1 := hA.rot3.cell (i := 1) (v := .int .i64 O) rfl
  have q2 := hA.rot3.cell (i := 2) (v := .int .i64 N) rfl
  have q3 := hA.rot3.cell (i := 3) (v := .int .i64 M) rfl
  have q4 := hA.rot3.cell (i := 4) (v := .string DT) rfl
  have g0 := hA.cell (i := 0) (v := .slice ga D.synced gc) rfl
  have g1 := hA.cell (i := 1) (v := .slice aa D.bytes.length ac) rfl
  have g2 := hA.cell (i := 2) (v := .int .i64 n) rfl
  have f2 := hA.free 2
  clear hx hy hT hn1
  go_wp2_with (go_at_call 118; refine (HOP.out _).mono ?_; rintro e v6 ⟨v, rfl, rfl, ho⟩; have hB := hA.then1 ho; have q0' := hB.rot3.cell (i := 0) (v := .int .i64 7) rfl; have r0' := hB.swap.cell (i := 0) (v := .slice a1 0 n1) rfl; have r1' := hB.swap.cell (i := 1) (v := .int .i64 zz) rfl; have r2' := hB.swap.cell (i := 2) (v := .int .i64 0) rfl; have g0' := hB.cell (i := 0) (v := .slice ga D.synced gc) rfl; have g1' := hB.cell (i := 1) (v := .slice aa D.bytes.length ac) rfl; have g2' := hB.cell (i := 2) (v := .int .i64 n) rfl; have f2' := hB.free 2)
  go_ret
  exact Ret.mk ⟨rfl, hk_fin (g := D.synced) HGL.out (X := vec 5 1 (.slice a1 0 n1) 0 [] * blk bt [.int .i64 7, .int .i64 O, .int .i64 N, .int .i64 M, .string DT] 83 * blk b9 [.slice a1 0 n1, .int .i64 zz, .int .i64 0] 87) (hB.perm (by ac_rfl)) (h1.trans HGE.out) h2 (h3.trans HNE.out)⟩

set_option maxRecDepth 20000 in
set_option maxHeartbeats 6400000 in
theorem lasts_dead8 {w0 w : World} {F : HP} {b bh : Nat} {D D2 : Dk} {E : Nat → Addr} (hE : Errs w0 E) (hD : D.Ok) (hm : D.arms.length < 8796093022207) {O N M : Int} {DT : ByteArray} (hS : (⟨8, O, N, M, DT⟩ : Stp).Ok) (h1 : D2.bytes.take D2.synced = D.bytes.take D.synced) (h2 : D2.bytes = D.bytes) (h3 : (D2.arms.length : Int) = D.arms.length)
    (hACT : D.act ⟨8, O, N, M, DT⟩ = (⟨[], 0, 0⟩, D2))
    (hs : Sat w0 w (F * hk bh (D.bytes.take D.synced) D.bytes D.arms.length * dk b D)) :
    Calls Tryd.prog 64 #[.pointer (some ⟨bh, 0, none⟩), .pointer (some ⟨b, 0, none⟩), .agg #[.int .i64 8, .int .i64 O, .int .i64 N, .int .i64 M, .string DT], .bool true, .bool false] w (Ret fun v w' => v = .bool true ∧ Sat w0 w' (F * hk bh (D2.bytes.take D2.synced) D2.bytes D2.arms.length * dk b D2)) := by
  obtain ⟨G, hGe⟩ : ∃ G, D.bytes.take D.synced = G := ⟨_, rfl⟩
  have hGl : G.length = D.synced := by rw [← hGe, List.length_take]; have := hD.synced; omega
  obtain ⟨n, hne⟩ : ∃ n : Int, (D.arms.length : Int) = n := ⟨_, rfl⟩
  rw [hGe, hne] at hs
  obtain ⟨gv, av, hs0⟩ := hs.swap.hk_open
  rw [hGl] at hs0
  obtain ⟨ga, gc, rfl, _, _, _⟩ := hs0.rot3.vec_rd
  obtain ⟨aa, ac, rfl, _, _, _⟩ := hs0.swap.vec_rd
  have hT0 := hs0.new #[.int .i64 8, .int .i64 O, .int .i64 N, .int .i64 M, .string DT] 83
  generalize hbt : w.heap.size = bt at hT0
  have hT := hT0.perm (B := F * vec 5 1 (.slice ga D.synced gc) D.synced (bvs G) * vec 5 1 (.slice aa D.bytes.length ac) D.bytes.length (bvs D.bytes) * blk bh [.slice ga D.synced gc, .slice aa D.bytes.length ac, .int .i64 n] 111 * blk bt [.int .i64 8, .int .i64 O, .int .i64 N, .int .i64 M, .string DT] 83 * dk b D) (by ac_rfl)
  have HE := Hid.mk' hE
  have HACT := Hid.mk' hACT
  have HGE := Hid.mk' hGe
  have HGL := Hid.mk' hGl
  have HNE := Hid.mk' hne
  have hb := hD.bytes
  clear hs hs0 hT0 hE hACT hGe hGl hne
  have HOP := Hid.mk' (fun w => by have := law12_operation (w := w) (⟨8, O, N, M, DT⟩ : Stp); rw [show decide (1 ≤ (⟨8, O, N, M, DT⟩ : Stp).kind ∧ (⟨8, O, N, M, DT⟩ : Stp).kind ≤ 4) = false from rfl] at this; exact this)
  go_enter Tryd.func64, Tryd.ntmps64
  go_wp2_with fail
  refine (law12_act' HE.out hD (⟨8, O, N, M, DT⟩ : Stp) hS hm (b := b) (D := D) (F := F * vec 5 1 (.slice ga D.synced gc) D.synced (bvs G) * vec 5 1 (.slice aa D.bytes.length ac) D.bytes.length (bvs D.bytes) * blk bh [.slice ga D.synced gc, .slice aa D.bytes.length ac, .int .i64 n] 111 * blk bt [.int .i64 8, .int .i64 O, .int .i64 N, .int .i64 M, .string DT] 83) hT).mono ?_
  rintro e v1 ⟨v, rfl, a1, n1, hn1, rfl, hx⟩
  rw [HACT.out] at hx ⊢
  have hy := hx.new #[.slice a1 0 n1, .int .i64 0, .int .i64 0] 87
  generalize hb9 : v1.heap.size = b9 at hy
  have hA := hy.perm (B := F * vec 5 1 (.slice ga D.synced gc) D.synced (bvs G) * vec 5 1 (.slice aa D.bytes.length ac) D.bytes.length (bvs D.bytes) * dk b D2 * vec 5 1 (.slice a1 0 n1) 0 [] * blk bt [.int .i64 8, .int .i64 O, .int .i64 N, .int .i64 M, .string DT] 83 * blk b9 [.slice a1 0 n1, .int .i64 0, .int .i64 0] 87 * blk bh [.slice ga D.synced gc, .slice aa D.bytes.length ac, .int .i64 n] 111) (by ac_rfl)
  have q0 := hA.rot3.cell (i := 0) (v := .int .i64 8) rfl
  have q1 := hA.rot3.cell (i := 1) (v := .int .i64 O) rfl
  have q2 := hA.rot3.cell (i := 2) (v := .int .i64 N) rfl
  have q3 := hA.rot3.cell (i := 3) (v := .int .i64 M) rfl
  have q4 := hA.rot3.cell (i := 4) (v := .string DT) rfl
  have g0 := hA.cell (i := 0) (v := .slice ga D.synced gc) rfl
  have g1 := hA.cell (i := 1) (v := .slice aa D.bytes.length ac) rfl
  have g2 := hA.cell (i := 2) (v := .int .i64 n) rfl
  have f2 := hA.free 2
  clear hx hy hT hn1
  go_wp2_with (go_at_call 118; refine (HOP.out _).mono ?_; rintro e v6 ⟨v, rfl, rfl, ho⟩; have hB := hA.then1 ho; have q0' := hB.rot3.cell (i := 0) (v := .int .i64 8) rfl; have r0' := hB.swap.cell (i := 0) (v := .slice a1 0 n1) rfl; have r1' := hB.swap.cell (i := 1) (v := .int .i64 0) rfl; have r2' := hB.swap.cell (i := 2) (v := .int .i64 0) rfl; have g0' := hB.cell (i := 0) (v := .slice ga D.synced gc) rfl; have g1' := hB.cell (i := 1) (v := .slice aa D.bytes.length ac) rfl; have g2' := hB.cell (i := 2) (v := .int .i64 n) rfl; have f2' := hB.free 2)
  go_ret
  exact Ret.mk ⟨rfl, hk_fin (g := D.synced) HGL.out (X := vec 5 1 (.slice a1 0 n1) 0 [] * blk bt [.int .i64 8, .int .i64 O, .int .i64 N, .int .i64 M, .string DT] 83 * blk b9 [.slice a1 0 n1, .int .i64 0, .int .i64 0] 87) (hB.perm (by ac_rfl)) (h1.trans HGE.out) h2 (h3.trans HNE.out)⟩

set_option maxRecDepth 20000 in
set_option maxHeartbeats 6400000 in
theorem lasts_live7 {w0 w : World} {F : HP} {b bh : Nat} {D D2 : Dk} {E : Nat → Addr} (hE : Errs w0 E) (hD : D.Ok) (hm : D.arms.length < 8796093022207) {O N M : Int} {DT : ByteArray} (hS : (⟨7, O, N, M, DT⟩ : Stp).Ok) (h1 : D2.bytes.take D2.synced = D.bytes.take D.synced) (h2 : D2.bytes = D.bytes) (h3 : (D2.arms.length : Int) = D.arms.length) {zz : Nat}
    (hACT : D.act ⟨7, O, N, M, DT⟩ = (⟨[], zz, 0⟩, D2))
    (hs : Sat w0 w (F * hk bh (D.bytes.take D.synced) D.bytes D.arms.length * dk b D)) :
    Calls Tryd.prog 64 #[.pointer (some ⟨bh, 0, none⟩), .pointer (some ⟨b, 0, none⟩), .agg #[.int .i64 7, .int .i64 O, .int .i64 N, .int .i64 M, .string DT], .bool false, .bool false] w (Ret fun v w' => v = .bool true ∧ Sat w0 w' (F * hk bh (D2.bytes.take D2.synced) D2.bytes D2.arms.length * dk b D2)) := by
  obtain ⟨G, hGe⟩ : ∃ G, D.bytes.take D.synced = G := ⟨_, rfl⟩
  have hGl : G.length = D.synced := by rw [← hGe, List.length_take]; have := hD.synced; omega
  obtain ⟨n, hne⟩ : ∃ n : Int, (D.arms.length : Int) = n := ⟨_, rfl⟩
  rw [hGe, hne] at hs
  obtain ⟨gv, av, hs0⟩ := hs.swap.hk_open
  rw [hGl] at hs0
  obtain ⟨ga, gc, rfl, _, _, _⟩ := hs0.rot3.vec_rd
  obtain ⟨aa, ac, rfl, _, _, _⟩ := hs0.swap.vec_rd
  have hT0 := hs0.new #[.int .i64 7, .int .i64 O, .int .i64 N, .int .i64 M, .string DT] 83
  generalize hbt : w.heap.size = bt at hT0
  have hT := hT0.perm (B := F * vec 5 1 (.slice ga D.synced gc) D.synced (bvs G) * vec 5 1 (.slice aa D.bytes.length ac) D.bytes.length (bvs D.bytes) * blk bh [.slice ga D.synced gc, .slice aa D.bytes.length ac, .int .i64 n] 111 * blk bt [.int .i64 7, .int .i64 O, .int .i64 N, .int .i64 M, .string DT] 83 * dk b D) (by ac_rfl)
  have HE := Hid.mk' hE
  have HACT := Hid.mk' hACT
  have HGE := Hid.mk' hGe
  have HGL := Hid.mk' hGl
  have HNE := Hid.mk' hne
  have hb := hD.bytes
  clear hs hs0 hT0 hE hACT hGe hGl hne
  go_enter Tryd.func64, Tryd.ntmps64
  go_wp2_with fail
  refine (law12_act' HE.out hD (⟨7, O, N, M, DT⟩ : Stp) hS hm (b := b) (D := D) (F := F * vec 5 1 (.slice ga D.synced gc) D.synced (bvs G) * vec 5 1 (.slice aa D.bytes.length ac) D.bytes.length (bvs D.bytes) * blk bh [.slice ga D.synced gc, .slice aa D.bytes.length ac, .int .i64 n] 111 * blk bt [.int .i64 7, .int .i64 O, .int .i64 N, .int .i64 M, .string DT] 83) hT).mono ?_
  rintro e v1 ⟨v, rfl, a1, n1, hn1, rfl, hx⟩
  rw [HACT.out] at hx ⊢
  have hy := hx.new #[.slice a1 0 n1, .int .i64 zz, .int .i64 0] 87
  generalize hb9 : v1.heap.size = b9 at hy
  have hA := hy.perm (B := F * vec 5 1 (.slice ga D.synced gc) D.synced (bvs G) * vec 5 1 (.slice aa D.bytes.length ac) D.bytes.length (bvs D.bytes) * dk b D2 * vec 5 1 (.slice a1 0 n1) 0 [] * blk bt [.int .i64 7, .int .i64 O, .int .i64 N, .int .i64 M, .string DT] 83 * blk b9 [.slice a1 0 n1, .int .i64 zz, .int .i64 0] 87 * blk bh [.slice ga D.synced gc, .slice aa D.bytes.length ac, .int .i64 n] 111) (by ac_rfl)
  have q0 := hA.rot3.cell (i := 0) (v := .int .i64 7) rfl
  have q1 := hA.rot3.cell (i := 1) (v := .int .i64 O) rfl
  have q2 := hA.rot3.cell (i := 2) (v := .int .i64 N) rfl
  have q3 := hA.rot3.cell (i := 3) (v := .int .i64 M) rfl
  have q4 := hA.rot3.cell (i := 4) (v := .string DT) rfl
  have g0 := hA.cell (i := 0) (v := .slice ga D.synced gc) rfl
  have g1 := hA.cell (i := 1) (v := .slice aa D.bytes.length ac) rfl
  have g2 := hA.cell (i := 2) (v := .int .i64 n) rfl
  have f2 := hA.free 2
  clear hx hy hT hn1
  go_wp2_with fail
  go_ret
  exact Ret.mk ⟨rfl, hk_fin (g := D.synced) HGL.out (X := vec 5 1 (.slice a1 0 n1) 0 [] * blk bt [.int .i64 7, .int .i64 O, .int .i64 N, .int .i64 M, .string DT] 83 * blk b9 [.slice a1 0 n1, .int .i64 zz, .int .i64 0] 87) (hA.perm (by ac_rfl)) (h1.trans HGE.out) h2 (h3.trans HNE.out)⟩

set_option maxRecDepth 20000 in
set_option maxHeartbeats 6400000 in
theorem lasts_live8 {w0 w : World} {F : HP} {b bh : Nat} {D D2 : Dk} {E : Nat → Addr} (hE : Errs w0 E) (hD : D.Ok) (hm : D.arms.length < 8796093022207) {O N M : Int} {DT : ByteArray} (hS : (⟨8, O, N, M, DT⟩ : Stp).Ok) (h1 : D2.bytes.take D2.synced = D.bytes.take D.synced) (h2 : D2.bytes = D.bytes) (h3 : (D2.arms.length : Int) = D.arms.length)
    (hACT : D.act ⟨8, O, N, M, DT⟩ = (⟨[], 0, 0⟩, D2))
    (hs : Sat w0 w (F * hk bh (D.bytes.take D.synced) D.bytes D.arms.length * dk b D)) :
    Calls Tryd.prog 64 #[.pointer (some ⟨bh, 0, none⟩), .pointer (some ⟨b, 0, none⟩), .agg #[.int .i64 8, .int .i64 O, .int .i64 N, .int .i64 M, .string DT], .bool false, .bool false] w (Ret fun v w' => v = .bool true ∧ Sat w0 w' (F * hk bh (D2.bytes.take D2.synced) D2.bytes D2.arms.length * dk b D2)) := by
  obtain ⟨G, hGe⟩ : ∃ G, D.bytes.take D.synced = G := ⟨_, rfl⟩
  have hGl : G.length = D.synced := by rw [← hGe, List.length_take]; have := hD.synced; omega
  obtain ⟨n, hne⟩ : ∃ n : Int, (D.arms.length : Int) = n := ⟨_, rfl⟩
  rw [hGe, hne] at hs
  obtain ⟨gv, av, hs0⟩ := hs.swap.hk_open
  rw [hGl] at hs0
  obtain ⟨ga, gc, rfl, _, _, _⟩ := hs0.rot3.vec_rd
  obtain ⟨aa, ac, rfl, _, _, _⟩ := hs0.swap.vec_rd
  have hT0 := hs0.new #[.int .i64 8, .int .i64 O, .int .i64 N, .int .i64 M, .string DT] 83
  generalize hbt : w.heap.size = bt at hT0
  have hT := hT0.perm (B := F * vec 5 1 (.slice ga D.synced gc) D.synced (bvs G) * vec 5 1 (.slice aa D.bytes.length ac) D.bytes.length (bvs D.bytes) * blk bh [.slice ga D.synced gc, .slice aa D.bytes.length ac, .int .i64 n] 111 * blk bt [.int .i64 8, .int .i64 O, .int .i64 N, .int .i64 M, .string DT] 83 * dk b D) (by ac_rfl)
  have HE := Hid.mk' hE
  have HACT := Hid.mk' hACT
  have HGE := Hid.mk' hGe
  have HGL := Hid.mk' hGl
  have HNE := Hid.mk' hne
  have hb := hD.bytes
  clear hs hs0 hT0 hE hACT hGe hGl hne
  go_enter Tryd.func64, Tryd.ntmps64
  go_wp2_with fail
  refine (law12_act' HE.out hD (⟨8, O, N, M, DT⟩ : Stp) hS hm (b := b) (D := D) (F := F * vec 5 1 (.slice ga D.synced gc) D.synced (bvs G) * vec 5 1 (.slice aa D.bytes.length ac) D.bytes.length (bvs D.bytes) * blk bh [.slice ga D.synced gc, .slice aa D.bytes.length ac, .int .i64 n] 111 * blk bt [.int .i64 8, .int .i64 O, .int .i64 N, .int .i64 M, .string DT] 83) hT).mono ?_
  rintro e v1 ⟨v, rfl, a1, n1, hn1, rfl, hx⟩
  rw [HACT.out] at hx ⊢
  have hy := hx.new #[.slice a1 0 n1, .int .i64 0, .int .i64 0] 87
  generalize hb9 : v1.heap.size = b9 at hy
  have hA := hy.perm (B := F * vec 5 1 (.slice ga D.synced gc) D.synced (bvs G) * vec 5 1 (.slice aa D.bytes.length ac) D.bytes.length (bvs D.bytes) * dk b D2 * vec 5 1 (.slice a1 0 n1) 0 [] * blk bt [.int .i64 8, .int .i64 O, .int .i64 N, .int .i64 M, .string DT] 83 * blk b9 [.slice a1 0 n1, .int .i64 0, .int .i64 0] 87 * blk bh [.slice ga D.synced gc, .slice aa D.bytes.length ac, .int .i64 n] 111) (by ac_rfl)
  have q0 := hA.rot3.cell (i := 0) (v := .int .i64 8) rfl
  have q1 := hA.rot3.cell (i := 1) (v := .int .i64 O) rfl
  have q2 := hA.rot3.cell (i := 2) (v := .int .i64 N) rfl
  have q3 := hA.rot3.cell (i := 3) (v := .int .i64 M) rfl
  have q4 := hA.rot3.cell (i := 4) (v := .string DT) rfl
  have g0 := hA.cell (i := 0) (v := .slice ga D.synced gc) rfl
  have g1 := hA.cell (i := 1) (v := .slice aa D.bytes.length ac) rfl
  have g2 := hA.cell (i := 2) (v := .int .i64 n) rfl
  have f2 := hA.free 2
  clear hx hy hT hn1
  go_wp2_with fail
  go_ret
  exact Ret.mk ⟨rfl, hk_fin (g := D.synced) HGL.out (X := vec 5 1 (.slice a1 0 n1) 0 [] * blk bt [.int .i64 8, .int .i64 O, .int .i64 N, .int .i64 M, .string DT] 83 * blk b9 [.slice a1 0 n1, .int .i64 0, .int .i64 0] 87) (hA.perm (by ac_rfl)) (h1.trans HGE.out) h2 (h3.trans HNE.out)⟩

set_option maxRecDepth 20000 in
set_option maxHeartbeats 6400000 in
theorem lasts_dead0 {w0 w : World} {F : HP} {b bh : Nat} {D D2 : Dk} {E : Nat → Addr} (hE : Errs w0 E) (hD : D.Ok) (hm : D.arms.length < 8796093022207) {K O N M : Int} {DT : ByteArray} (hS : (⟨K, O, N, M, DT⟩ : Stp).Ok) (h1 : D2.bytes.take D2.synced = D.bytes.take D.synced) (h2 : D2.bytes = D.bytes) (h3 : (D2.arms.length : Int) = D.arms.length) (ho : K < 1 ∨ 9 < K)
    (hACT : D.act ⟨K, O, N, M, DT⟩ = (⟨[], 0, 0⟩, D2))
    (hs : Sat w0 w (F * hk bh (D.bytes.take D.synced) D.bytes D.arms.length * dk b D)) :
    Calls Tryd.prog 64 #[.pointer (some ⟨bh, 0, none⟩), .pointer (some ⟨b, 0, none⟩), .agg #[.int .i64 K, .int .i64 O, .int .i64 N, .int .i64 M, .string DT], .bool true, .bool false] w (Ret fun v w' => v = .bool true ∧ Sat w0 w' (F * hk bh (D2.bytes.take D2.synced) D2.bytes D2.arms.length * dk b D2)) := by
  have b1 : (K == 1) = false := beq_eq_false_iff_ne.2 (by omega)
  have b2 : (K == 2) = false := beq_eq_false_iff_ne.2 (by omega)
  have b3 : (K == 3) = false := beq_eq_false_iff_ne.2 (by omega)
  have b5 : (K == 5) = false := beq_eq_false_iff_ne.2 (by omega)
  have b6 : (K == 6) = false := beq_eq_false_iff_ne.2 (by omega)
  have b9 : (K == 9) = false := beq_eq_false_iff_ne.2 (by omega)
  obtain ⟨G, hGe⟩ : ∃ G, D.bytes.take D.synced = G := ⟨_, rfl⟩
  have hGl : G.length = D.synced := by rw [← hGe, List.length_take]; have := hD.synced; omega
  obtain ⟨n, hne⟩ : ∃ n : Int, (D.arms.length : Int) = n := ⟨_, rfl⟩
  rw [hGe, hne] at hs
  obtain ⟨gv, av, hs0⟩ := hs.swap.hk_open
  rw [hGl] at hs0
  obtain ⟨ga, gc, rfl, _, _, _⟩ := hs0.rot3.vec_rd
  obtain ⟨aa, ac, rfl, _, _, _⟩ := hs0.swap.vec_rd
  have hT0 := hs0.new #[.int .i64 K, .int .i64 O, .int .i64 N, .int .i64 M, .string DT] 83
  generalize hbt : w.heap.size = bt at hT0
  have hT := hT0.perm (B := F * vec 5 1 (.slice ga D.synced gc) D.synced (bvs G) * vec 5 1 (.slice aa D.bytes.length ac) D.bytes.length (bvs D.bytes) * blk bh [.slice ga D.synced gc, .slice aa D.bytes.length ac, .int .i64 n] 111 * blk bt [.int .i64 K, .int .i64 O, .int .i64 N, .int .i64 M, .string DT] 83 * dk b D) (by ac_rfl)
  have HE := Hid.mk' hE
  have HACT := Hid.mk' hACT
  have HGE := Hid.mk' hGe
  have HGL := Hid.mk' hGl
  have HNE := Hid.mk' hne
  have hb := hD.bytes
  clear hs hs0 hT0 hE hACT hGe hGl hne
  have HOP := Hid.mk' (fun w => by have := law12_operation (w := w) (⟨K, O, N, M, DT⟩ : Stp); rw [show decide (1 ≤ (⟨K, O, N, M, DT⟩ : Stp).kind ∧ (⟨K, O, N, M, DT⟩ : Stp).kind ≤ 4) = false from decide_eq_false (by show ¬ (1 ≤ K ∧ K ≤ 4); omega)] at this; exact this)
  go_enter Tryd.func64, Tryd.ntmps64
  go_wp2_with fail
  refine (law12_act' HE.out hD (⟨K, O, N, M, DT⟩ : Stp) hS hm (b := b) (D := D) (F := F * vec 5 1 (.slice ga D.synced gc) D.synced (bvs G) * vec 5 1 (.slice aa D.bytes.length ac) D.bytes.length (bvs D.bytes) * blk bh [.slice ga D.synced gc, .slice aa D.bytes.length ac, .int .i64 n] 111 * blk bt [.int .i64 K, .int .i64 O, .int .i64 N, .int .i64 M, .string DT] 83) hT).mono ?_
  rintro e v1 ⟨v, rfl, a1, n1, hn1, rfl, hx⟩
  rw [HACT.out] at hx ⊢
  have hy := hx.new #[.slice a1 0 n1, .int .i64 0, .int .i64 0] 87
  generalize hb9 : v1.heap.size = b9 at hy
  have hA := hy.perm (B := F * vec 5 1 (.slice ga D.synced gc) D.synced (bvs G) * vec 5 1 (.slice aa D.bytes.length ac) D.bytes.length (bvs D.bytes) * dk b D2 * vec 5 1 (.slice a1 0 n1) 0 [] * blk bt [.int .i64 K, .int .i64 O, .int .i64 N, .int .i64 M, .string DT] 83 * blk b9 [.slice a1 0 n1, .int .i64 0, .int .i64 0] 87 * blk bh [.slice ga D.synced gc, .slice aa D.bytes.length ac, .int .i64 n] 111) (by ac_rfl)
  have q0 := hA.rot3.cell (i := 0) (v := .int .i64 K) rfl
  have q1 := hA.rot3.cell (i := 1) (v := .int .i64 O) rfl
  have q2 := hA.rot3.cell (i := 2) (v := .int .i64 N) rfl
  have q3 := hA.rot3.cell (i := 3) (v := .int .i64 M) rfl
  have q4 := hA.rot3.cell (i := 4) (v := .string DT) rfl
  have g0 := hA.cell (i := 0) (v := .slice ga D.synced gc) rfl
  have g1 := hA.cell (i := 1) (v := .slice aa D.bytes.length ac) rfl
  have g2 := hA.cell (i := 2) (v := .int .i64 n) rfl
  have f2 := hA.free 2
  clear hx hy hT hn1
  go_wp2_with (go_at_call 118; refine (HOP.out _).mono ?_; rintro e v6 ⟨v, rfl, rfl, ho⟩; have hB := hA.then1 ho; have q0' := hB.rot3.cell (i := 0) (v := .int .i64 K) rfl; have r0' := hB.swap.cell (i := 0) (v := .slice a1 0 n1) rfl; have r1' := hB.swap.cell (i := 1) (v := .int .i64 0) rfl; have r2' := hB.swap.cell (i := 2) (v := .int .i64 0) rfl; have g0' := hB.cell (i := 0) (v := .slice ga D.synced gc) rfl; have g1' := hB.cell (i := 1) (v := .slice aa D.bytes.length ac) rfl; have g2' := hB.cell (i := 2) (v := .int .i64 n) rfl; have f2' := hB.free 2)
  go_ret
  exact Ret.mk ⟨rfl, hk_fin (g := D.synced) HGL.out (X := vec 5 1 (.slice a1 0 n1) 0 [] * blk bt [.int .i64 K, .int .i64 O, .int .i64 N, .int .i64 M, .string DT] 83 * blk b9 [.slice a1 0 n1, .int .i64 0, .int .i64 0] 87) (hB.perm (by ac_rfl)) (h1.trans HGE.out) h2 (h3.trans HNE.out)⟩

set_option maxRecDepth 20000 in
set_option maxHeartbeats 6400000 in
theorem lasts_live0 {w0 w : World} {F : HP} {b bh : Nat} {D D2 : Dk} {E : Nat → Addr} (hE : Errs w0 E) (hD : D.Ok) (hm : D.arms.length < 8796093022207) {K O N M : Int} {DT : ByteArray} (hS : (⟨K, O, N, M, DT⟩ : Stp).Ok) (h1 : D2.bytes.take D2.synced = D.bytes.take D.synced) (h2 : D2.bytes = D.bytes) (h3 : (D2.arms.length : Int) = D.arms.length) (ho : K < 1 ∨ 9 < K)
    (hACT : D.act ⟨K, O, N, M, DT⟩ = (⟨[], 0, 0⟩, D2))
    (hs : Sat w0 w (F * hk bh (D.bytes.take D.synced) D.bytes D.arms.length * dk b D)) :
    Calls Tryd.prog 64 #[.pointer (some ⟨bh, 0, none⟩), .pointer (some ⟨b, 0, none⟩), .agg #[.int .i64 K, .int .i64 O, .int .i64 N, .int .i64 M, .string DT], .bool false, .bool false] w (Ret fun v w' => v = .bool true ∧ Sat w0 w' (F * hk bh (D2.bytes.take D2.synced) D2.bytes D2.arms.length * dk b D2)) := by
  have b1 : (K == 1) = false := beq_eq_false_iff_ne.2 (by omega)
  have b2 : (K == 2) = false := beq_eq_false_iff_ne.2 (by omega)
  have b3 : (K == 3) = false := beq_eq_false_iff_ne.2 (by omega)
  have b5 : (K == 5) = false := beq_eq_false_iff_ne.2 (by omega)
  have b6 : (K == 6) = false := beq_eq_false_iff_ne.2 (by omega)
  have b9 : (K == 9) = false := beq_eq_false_iff_ne.2 (by omega)
  obtain ⟨G, hGe⟩ : ∃ G, D.bytes.take D.synced = G := ⟨_, rfl⟩
  have hGl : G.length = D.synced := by rw [← hGe, List.length_take]; have := hD.synced; omega
  obtain ⟨n, hne⟩ : ∃ n : Int, (D.arms.length : Int) = n := ⟨_, rfl⟩
  rw [hGe, hne] at hs
  obtain ⟨gv, av, hs0⟩ := hs.swap.hk_open
  rw [hGl] at hs0
  obtain ⟨ga, gc, rfl, _, _, _⟩ := hs0.rot3.vec_rd
  obtain ⟨aa, ac, rfl, _, _, _⟩ := hs0.swap.vec_rd
  have hT0 := hs0.new #[.int .i64 K, .int .i64 O, .int .i64 N, .int .i64 M, .string DT] 83
  generalize hbt : w.heap.size = bt at hT0
  have hT := hT0.perm (B := F * vec 5 1 (.slice ga D.synced gc) D.synced (bvs G) * vec 5 1 (.slice aa D.bytes.length ac) D.bytes.length (bvs D.bytes) * blk bh [.slice ga D.synced gc, .slice aa D.bytes.length ac, .int .i64 n] 111 * blk bt [.int .i64 K, .int .i64 O, .int .i64 N, .int .i64 M, .string DT] 83 * dk b D) (by ac_rfl)
  have HE := Hid.mk' hE
  have HACT := Hid.mk' hACT
  have HGE := Hid.mk' hGe
  have HGL := Hid.mk' hGl
  have HNE := Hid.mk' hne
  have hb := hD.bytes
  clear hs hs0 hT0 hE hACT hGe hGl hne
  go_enter Tryd.func64, Tryd.ntmps64
  go_wp2_with fail
  refine (law12_act' HE.out hD (⟨K, O, N, M, DT⟩ : Stp) hS hm (b := b) (D := D) (F := F * vec 5 1 (.slice ga D.synced gc) D.synced (bvs G) * vec 5 1 (.slice aa D.bytes.length ac) D.bytes.length (bvs D.bytes) * blk bh [.slice ga D.synced gc, .slice aa D.bytes.length ac, .int .i64 n] 111 * blk bt [.int .i64 K, .int .i64 O, .int .i64 N, .int .i64 M, .string DT] 83) hT).mono ?_
  rintro e v1 ⟨v, rfl, a1, n1, hn1, rfl, hx⟩
  rw [HACT.out] at hx ⊢
  have hy := hx.new #[.slice a1 0 n1, .int .i64 0, .int .i64 0] 87
  generalize hb9 : v1.heap.size = b9 at hy
  have hA := hy.perm (B := F * vec 5 1 (.slice ga D.synced gc) D.synced (bvs G) * vec 5 1 (.slice aa D.bytes.length ac) D.bytes.length (bvs D.bytes) * dk b D2 * vec 5 1 (.slice a1 0 n1) 0 [] * blk bt [.int .i64 K, .int .i64 O, .int .i64 N, .int .i64 M, .string DT] 83 * blk b9 [.slice a1 0 n1, .int .i64 0, .int .i64 0] 87 * blk bh [.slice ga D.synced gc, .slice aa D.bytes.length ac, .int .i64 n] 111) (by ac_rfl)
  have q0 := hA.rot3.cell (i := 0) (v := .int .i64 K) rfl
  have q1 := hA.rot3.cell (i := 1) (v := .int .i64 O) rfl
  have q2 := hA.rot3.cell (i := 2) (v := .int .i64 N) rfl
  have q3 := hA.rot3.cell (i := 3) (v := .int .i64 M) rfl
  have q4 := hA.rot3.cell (i := 4) (v := .string DT) rfl
  have g0 := hA.cell (i := 0) (v := .slice ga D.synced gc) rfl
  have g1 := hA.cell (i := 1) (v := .slice aa D.bytes.length ac) rfl
  have g2 := hA.cell (i := 2) (v := .int .i64 n) rfl
  have f2 := hA.free 2
  clear hx hy hT hn1
  go_wp2_with fail
  go_ret
  exact Ret.mk ⟨rfl, hk_fin (g := D.synced) HGL.out (X := vec 5 1 (.slice a1 0 n1) 0 [] * blk bt [.int .i64 K, .int .i64 O, .int .i64 N, .int .i64 M, .string DT] 83 * blk b9 [.slice a1 0 n1, .int .i64 0, .int .i64 0] 87) (hA.perm (by ac_rfl)) (h1.trans HGE.out) h2 (h3.trans HNE.out)⟩

set_option maxRecDepth 20000 in
set_option maxHeartbeats 6400000 in
theorem lasts_full {w0 w : World} {F : HP} {b bh : Nat} {D D2 : Dk} {E : Nat → Addr} (hE : Errs w0 E) (hD : D.Ok) (hm : D.arms.length < 8796093022207) {O N M : Int} {DT : ByteArray} (hS : (⟨1, O, N, M, DT⟩ : Stp).Ok) (h1 : D2.bytes.take D2.synced = D.bytes.take D.synced) (h2 : D2.bytes = D.bytes) (h3 : (D2.arms.length : Int) = D.arms.length)
    (hACT : D.act ⟨1, O, N, M, DT⟩ = (⟨[], 0, 9⟩, D2))
    (hs : Sat w0 w (F * hk bh (D.bytes.take D.synced) D.bytes D.arms.length * dk b D)) :
    Calls Tryd.prog 64 #[.pointer (some ⟨bh, 0, none⟩), .pointer (some ⟨b, 0, none⟩), .agg #[.int .i64 1, .int .i64 O, .int .i64 N, .int .i64 M, .string DT], .bool false, .bool true] w (Ret fun v w' => v = .bool true ∧ Sat w0 w' (F * hk bh (D2.bytes.take D2.synced) D2.bytes D2.arms.length * dk b D2)) := by
  obtain ⟨G, hGe⟩ : ∃ G, D.bytes.take D.synced = G := ⟨_, rfl⟩
  have hGl : G.length = D.synced := by rw [← hGe, List.length_take]; have := hD.synced; omega
  obtain ⟨n, hne⟩ : ∃ n : Int, (D.arms.length : Int) = n := ⟨_, rfl⟩
  rw [hGe, hne] at hs
  obtain ⟨gv, av, hs0⟩ := hs.swap.hk_open
  rw [hGl] at hs0
  obtain ⟨ga, gc, rfl, _, _, _⟩ := hs0.rot3.vec_rd
  obtain ⟨aa, ac, rfl, _, _, _⟩ := hs0.swap.vec_rd
  have hT0 := hs0.new #[.int .i64 1, .int .i64 O, .int .i64 N, .int .i64 M, .string DT] 83
  generalize hbt : w.heap.size = bt at hT0
  have hT := hT0.perm (B := F * vec 5 1 (.slice ga D.synced gc) D.synced (bvs G) * vec 5 1 (.slice aa D.bytes.length ac) D.bytes.length (bvs D.bytes) * blk bh [.slice ga D.synced gc, .slice aa D.bytes.length ac, .int .i64 n] 111 * blk bt [.int .i64 1, .int .i64 O, .int .i64 N, .int .i64 M, .string DT] 83 * dk b D) (by ac_rfl)
  have HE := Hid.mk' hE
  have HACT := Hid.mk' hACT
  have HGE := Hid.mk' hGe
  have HGL := Hid.mk' hGl
  have HNE := Hid.mk' hne
  have hb := hD.bytes
  clear hs hs0 hT0 hE hACT hGe hGl hne
  go_enter Tryd.func64, Tryd.ntmps64
  go_wp2_with fail
  refine (law12_act' HE.out hD (⟨1, O, N, M, DT⟩ : Stp) hS hm (b := b) (D := D) (F := F * vec 5 1 (.slice ga D.synced gc) D.synced (bvs G) * vec 5 1 (.slice aa D.bytes.length ac) D.bytes.length (bvs D.bytes) * blk bh [.slice ga D.synced gc, .slice aa D.bytes.length ac, .int .i64 n] 111 * blk bt [.int .i64 1, .int .i64 O, .int .i64 N, .int .i64 M, .string DT] 83) hT).mono ?_
  rintro e v1 ⟨v, rfl, a1, n1, hn1, rfl, hx⟩
  rw [HACT.out] at hx ⊢
  have hy := hx.new #[.slice a1 0 n1, .int .i64 0, .int .i64 9] 87
  generalize hb9 : v1.heap.size = b9 at hy
  have hA := hy.perm (B := F * vec 5 1 (.slice ga D.synced gc) D.synced (bvs G) * vec 5 1 (.slice aa D.bytes.length ac) D.bytes.length (bvs D.bytes) * dk b D2 * vec 5 1 (.slice a1 0 n1) 0 [] * blk bt [.int .i64 1, .int .i64 O, .int .i64 N, .int .i64 M, .string DT] 83 * blk b9 [.slice a1 0 n1, .int .i64 0, .int .i64 9] 87 * blk bh [.slice ga D.synced gc, .slice aa D.bytes.length ac, .int .i64 n] 111) (by ac_rfl)
  have q0 := hA.rot3.cell (i := 0) (v := .int .i64 1) rfl
  have q1 := hA.rot3.cell (i := 1) (v := .int .i64 O) rfl
  have q2 := hA.rot3.cell (i := 2) (v := .int .i64 N) rfl
  have q3 := hA.rot3.cell (i := 3) (v := .int .i64 M) rfl
  have q4 := hA.rot3.cell (i := 4) (v := .string DT) rfl
  have g0 := hA.cell (i := 0) (v := .slice ga D.synced gc) rfl
  have g1 := hA.cell (i := 1) (v := .slice aa D.bytes.length ac) rfl
  have g2 := hA.cell (i := 2) (v := .int .i64 n) rfl
  have f2 := hA.free 2
  clear hx hy hT hn1
  go_wp2_with fail
  go_ret
  exact Ret.mk ⟨rfl, hk_fin (g := D.synced) HGL.out (X := vec 5 1 (.slice a1 0 n1) 0 [] * blk bt [.int .i64 1, .int .i64 O, .int .i64 N, .int .i64 M, .string DT] 83 * blk b9 [.slice a1 0 n1, .int .i64 0, .int .i64 9] 87) (hA.perm (by ac_rfl)) (h1.trans HGE.out) h2 (h3.trans HNE.out)⟩

end Go.Proofs.YtjhlelcopofkkaaDoor
