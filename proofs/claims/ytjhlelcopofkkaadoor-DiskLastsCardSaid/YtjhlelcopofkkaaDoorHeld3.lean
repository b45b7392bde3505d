/- What the law DiskLasts demands of one call, where what it holds changes. -/
import Derived.Test.YtjhlelcopofkkaaDoorHeld2
namespace Go.Proofs.YtjhlelcopofkkaaDoor
open Go.RowKit

theorem Sat.hk_shut' {w0 w : World} {F : HP} {b g : Nat} {G A : List UInt8} {n : Int} {gv av : Value} (hg : G.length = g) (hs : Sat w0 w (F * vec 5 1 gv g (bvs G) * vec 5 1 av A.length (bvs A) * blk b [gv, av, .int .i64 n] 111)) : Sat w0 w (F * hk b G A n) := by
  subst hg; exact hs.hk_shut

set_option maxRecDepth 20000 in
set_option maxHeartbeats 6400000 in
theorem lasts_dead5 {w0 w : World} {F : HP} {b bh : Nat} {D D2 : Dk} {E : Nat → Addr} (hE : Errs w0 E) (hD : D.Ok) (hm : D.arms.length < 8796093022207) {O N M : Int} {DT : ByteArray} (hS : (⟨5, O, N, M, DT⟩ : Stp).Ok) (h1 : D2.bytes.take D2.synced = D.bytes.take D.synced) (h2 : D2.bytes = D.bytes) (h3 : (D2.arms.length : Int) = D.arms.length + 1)
    (hACT : D.act ⟨5, O, N, M, DT⟩ = (⟨[], 0, 0⟩, D2))
    (hs : Sat w0 w (F * hk bh (D.bytes.take D.synced) D.bytes D.arms.length * dk b D)) :
    Calls Tryd.prog 64 #[.pointer (some ⟨bh, 0, none⟩), .pointer (some ⟨b, 0, none⟩), .agg #[.int .i64 5, .int .i64 O, .int .i64 N, .int .i64 M, .string DT], .bool true, .bool false] w (Ret fun v w' => v = .bool true ∧ Sat w0 w' (F * hk bh (D2.bytes.take D2.synced) D2.bytes D2.arms.length * dk b D2)) := by
  obtain ⟨G, hGe⟩ : ∃ G, D.bytes.take D.synced = G := ⟨_, rfl⟩
  have hGl : G.length = D.synced := by rw [← hGe, List.length_take]; have := hD.synced; omega
  obtain ⟨n, hne⟩ : ∃ n : Int, (D.arms.length : Int) = n := ⟨_, rfl⟩
  rw [hGe, hne] at hs
  obtain ⟨gv, av, hs0⟩ := hs.swap.hk_open
  rw [hGl] at hs0
  obtain ⟨ga, gc, rfl, _, _, _⟩ := hs0.rot3.vec_rd
  obtain ⟨aa, ac, rfl, _, _, _⟩ := hs0.swap.vec_rd
  have hT0 := hs0.new #[.int .i64 5, .int .i64 O, .int .i64 N, .int .i64 M, .string DT] 83
  generalize hbt : w.heap.size = bt at hT0
  have hT := hT0.perm (B := F * vec 5 1 (.slice ga D.synced gc) D.synced (bvs G) * vec 5 1 (.slice aa D.bytes.length ac) D.bytes.length (bvs D.bytes) * blk bh [.slice ga D.synced gc, .slice aa D.bytes.length ac, .int .i64 n] 111 * blk bt [.int .i64 5, .int .i64 O, .int .i64 N, .int .i64 M, .string DT] 83 * dk b D) (by ac_rfl)
  have HE := Hid.mk' hE
  have HACT := Hid.mk' hACT
  have HGE := Hid.mk' hGe
  have HGL := Hid.mk' hGl
  have HNE := Hid.mk' hne
  have hb := hD.bytes
  clear hs hs0 hT0 hE hACT hGe hGl hne
  have hw : IntKind.i64.wrap (n + 1) = n + 1 := by rw [IntKind.wrap_i64]; have := HNE.out; omega
  have HOP := Hid.mk' (fun w => by have := law12_operation (w := w) (⟨5, O, N, M, DT⟩ : Stp); rw [show decide (1 ≤ (⟨5, O, N, M, DT⟩ : Stp).kind ∧ (⟨5, O, N, M, DT⟩ : Stp).kind ≤ 4) = false from rfl] at this; exact this)
  go_enter Tryd.func64, Tryd.ntmps64
  go_wp2_with fail
  refine (law12_act' HE.out hD (⟨5, O, N, M, DT⟩ : Stp) hS hm (b := b) (D := D) (F := F * vec 5 1 (.slice ga D.synced gc) D.synced (bvs G) * vec 5 1 (.slice aa D.bytes.length ac) D.bytes.length (bvs D.bytes) * blk bh [.slice ga D.synced gc, .slice aa D.bytes.length ac, .int .i64 n] 111 * blk bt [.int .i64 5, .int .i64 O, .int .i64 N, .int .i64 M, .string DT] 83) hT).mono ?_
  rintro e v1 ⟨v, rfl, a1, n1, hn1, rfl, hx⟩
  rw [HACT.out] at hx ⊢
  have hy := hx.new #[.slice a1 0 n1, .int .i64 0, .int .i64 0] 87
  generalize hb9 : v1.heap.size = b9 at hy
  have hA := hy.perm (B := F * vec 5 1 (.slice ga D.synced gc) D.synced (bvs G) * vec 5 1 (.slice aa D.bytes.length ac) D.bytes.length (bvs D.bytes) * dk b D2 * vec 5 1 (.slice a1 0 n1) 0 [] * blk bt [.int .i64 5, .int .i64 O, .int .i64 N, .int .i64 M, .string DT] 83 * blk b9 [.slice a1 0 n1, .int .i64 0, .int .i64 0] 87 * blk bh [.slice ga D.synced gc, .slice aa D.bytes.length ac, .int .i64 n] 111) (by ac_rfl)
  have q0 := hA.rot3.cell (i := 0) (v := .int .i64 5) rfl
  have q1 := hA.rot3.cell (i := 1) (v := .int .i64 O) rfl
  have q2 := hA.rot3.cell (i := 2) (v := .int .i64 N) rfl
  have q3 := hA.rot3.cell (i := 3) (v := .int .i64 M) rfl
  have q4 := hA.rot3.cell (i := 4) (v := .string DT) rfl
  have g0 := hA.cell (i := 0) (v := .slice ga D.synced gc) rfl
  have g1 := hA.cell (i := 1) (v := .slice aa D.bytes.length ac) rfl
  have g2 := hA.cell (i := 2) (v := .int .i64 n) rfl
  have f2 := hA.free 2
  clear hx hy hT hn1
  go_wp2_with (go_at_call 118; refine (HOP.out _).mono ?_; rintro e v6 ⟨v, rfl, rfl, ho⟩; have hB := hA.then1 ho; have q0' := hB.rot3.cell (i := 0) (v := .int .i64 5) rfl; have r0' := hB.swap.cell (i := 0) (v := .slice a1 0 n1) rfl; have r1' := hB.swap.cell (i := 1) (v := .int .i64 0) rfl; have r2' := hB.swap.cell (i := 2) (v := .int .i64 0) rfl; have g0' := hB.cell (i := 0) (v := .slice ga D.synced gc) rfl; have g1' := hB.cell (i := 1) (v := .slice aa D.bytes.length ac) rfl; have g2' := hB.cell (i := 2) (v := .int .i64 n) rfl; have f2' := hB.free 2)
  go_ret
  exact Ret.mk ⟨rfl, hk_fin (g := D.synced) (n := n + 1) HGL.out (X := vec 5 1 (.slice a1 0 n1) 0 [] * blk bt [.int .i64 5, .int .i64 O, .int .i64 N, .int .i64 M, .string DT] 83 * blk b9 [.slice a1 0 n1, .int .i64 0, .int .i64 0] 87) ((hB.store 2 (.int .i64 (n + 1))).perm (by simp only [List.set_cons_succ, List.set_cons_zero]; ac_rfl)) (h1.trans HGE.out) h2 (by rw [h3, HNE.out])⟩

set_option maxRecDepth 20000 in
set_option maxHeartbeats 6400000 in
theorem lasts_live5 {w0 w : World} {F : HP} {b bh : Nat} {D D2 : Dk} {E : Nat → Addr} (hE : Errs w0 E) (hD : D.Ok) (hm : D.arms.length < 8796093022207) {O N M : Int} {DT : ByteArray} (hS : (⟨5, O, N, M, DT⟩ : Stp).Ok) (h1 : D2.bytes.take D2.synced = D.bytes.take D.synced) (h2 : D2.bytes = D.bytes) (h3 : (D2.arms.length : Int) = D.arms.length + 1)
    (hACT : D.act ⟨5, O, N, M, DT⟩ = (⟨[], 0, 0⟩, D2))
    (hs : Sat w0 w (F * hk bh (D.bytes.take D.synced) D.bytes D.arms.length * dk b D)) :
    Calls Tryd.prog 64 #[.pointer (some ⟨bh, 0, none⟩), .pointer (some ⟨b, 0, none⟩), .agg #[.int .i64 5, .int .i64 O, .int .i64 N, .int .i64 M, .string DT], .bool false, .bool false] w (Ret fun v w' => v = .bool true ∧ Sat w0 w' (F * hk bh (D2.bytes.take D2.synced) D2.bytes D2.arms.length * dk b D2)) := by
  obtain ⟨G, hGe⟩ : ∃ G, D.bytes.take D.synced = G := ⟨_, rfl⟩
  have hGl : G.length = D.synced := by rw [← hGe, List.length_take]; have := hD.synced; omega
  obtain ⟨n, hne⟩ : ∃ n : Int, (D.arms.length : Int) = n := ⟨_, rfl⟩
  rw [hGe, hne] at hs
  obtain ⟨gv, av, hs0⟩ := hs.swap.hk_open
  rw [hGl] at hs0
  obtain ⟨ga, gc, rfl, _, _, _⟩ := hs0.rot3.vec_rd
  obtain ⟨aa, ac, rfl, _, _, _⟩ := hs0.swap.vec_rd
  have hT0 := hs0.new #[.int .i64 5, .int .i64 O, .int .i64 N, .int .i64 M, .string DT] 83
  generalize hbt : w.heap.size = bt at hT0
  have hT := hT0.perm (B := F * vec 5 1 (.slice ga D.synced gc) D.synced (bvs G) * vec 5 1 (.slice aa D.bytes.length ac) D.bytes.length (bvs D.bytes) * blk bh [.slice ga D.synced gc, .slice aa D.bytes.length ac, .int .i64 n] 111 * blk bt [.int .i64 5, .int .i64 O, .int .i64 N, .int .i64 M, .string DT] 83 * dk b D) (by ac_rfl)
  have HE := Hid.mk' hE
  have HACT := Hid.mk' hACT
  have HGE := Hid.mk' hGe
  have HGL := Hid.mk' hGl
  have HNE := Hid.mk' hne
  have hb := hD.bytes
  clear hs hs0 hT0 hE hACT hGe hGl hne
  have hw : IntKind.i64.wrap (n + 1) = n + 1 := by rw [IntKind.wrap_i64]; have := HNE.out; omega
  go_enter Tryd.func64, Tryd.ntmps64
  go_wp2_with fail
  refine (law12_act' HE.out hD (⟨5, O, N, M, DT⟩ : Stp) hS hm (b := b) (D := D) (F := F * vec 5 1 (.slice ga D.synced gc) D.synced (bvs G) * vec 5 1 (.slice aa D.bytes.length ac) D.bytes.length (bvs D.bytes) * blk bh [.slice ga D.synced gc, .slice aa D.bytes.length ac, .int .i64 n] 111 * blk bt [.int .i64 5, .int .i64 O, .int .i64 N, .int .i64 M, .string DT] 83) hT).mono ?_
  rintro e v1 ⟨v, rfl, a1, n1, hn1, rfl, hx⟩
  rw [HACT.out] at hx ⊢
  have hy := hx.new #[.slice a1 0 n1, .int .i64 0, .int .i64 0] 87
  generalize hb9 : v1.heap.size = b9 at hy
  have hA := hy.perm (B := F * vec 5 1 (.slice ga D.synced gc) D.synced (bvs G) * vec 5 1 (.slice aa D.bytes.length ac) D.bytes.length (bvs D.bytes) * dk b D2 * vec 5 1 (.slice a1 0 n1) 0 [] * blk bt [.int .i64 5, .int .i64 O, .int .i64 N, .int .i64 M, .string DT] 83 * blk b9 [.slice a1 0 n1, .int .i64 0, .int .i64 0] 87 * blk bh [.slice ga D.synced gc, .slice aa D.bytes.length ac, .int .i64 n] 111) (by ac_rfl)
  have q0 := hA.rot3.cell (i := 0) (v := .int .i64 5) rfl
  have q1 := hA.rot3.cell (i := 1) (v := .int .i64 O) rfl
  have q2 := hA.rot3.cell (i := 2) (v := .int .i64 N) rfl
  have q3 := hA.rot3.cell (i := 3) (v := .int .i64 M) rfl
  have q4 := hA.rot3.cell (i := 4) (v := .string DT) rfl
  have g0 := hA.cell (i := 0) (v := .slice ga D.synced gc) rfl
  have g1 := hA.cell (i := 1) (v := .slice aa D.bytes.length ac) rfl
  have g2 := hA.cell (i := 2) (v := .int .i64 n) rfl
  have f2 := hA.free 2
  clear hx hy hT hn1
  go_wp2_with fail
  go_ret
  exact Ret.mk ⟨rfl, hk_fin (g := D.synced) (n := n + 1) HGL.out (X := vec 5 1 (.slice a1 0 n1) 0 [] * blk bt [.int .i64 5, .int .i64 O, .int .i64 N, .int .i64 M, .string DT] 83 * blk b9 [.slice a1 0 n1, .int .i64 0, .int .i64 0] 87) ((hA.store 2 (.int .i64 (n + 1))).perm (by simp only [List.set_cons_succ, List.set_cons_zero]; ac_rfl)) (h1.trans HGE.out) h2 (by rw [h3, HNE.out])⟩

set_option maxRecDepth 20000 in
set_option maxHeartbeats 6400000 in
theorem lasts_dead9 {w0 w : World} {F : HP} {b bh : Nat} {D D2 : Dk} {E : Nat → Addr} (hE : Errs w0 E) (hD : D.Ok) (hm : D.arms.length < 8796093022207) {O N M : Int} {DT : ByteArray} (hS : (⟨9, O, N, M, DT⟩ : Stp).Ok) (h1 : D2.bytes.take D2.synced = D.bytes.take D.synced) (h2 : D2.bytes = D.bytes) (h3 : (D2.arms.length : Int) = D.arms.length)
    (hACT : D.act ⟨9, O, N, M, DT⟩ = (⟨D.bytes, D.synced, 0⟩, D2))
    (hs : Sat w0 w (F * hk bh (D.bytes.take D.synced) D.bytes D.arms.length * dk b D)) :
    Calls Tryd.prog 64 #[.pointer (some ⟨bh, 0, none⟩), .pointer (some ⟨b, 0, none⟩), .agg #[.int .i64 9, .int .i64 O, .int .i64 N, .int .i64 M, .string DT], .bool true, .bool false] w (Ret fun v w' => v = .bool true ∧ Sat w0 w' (F * hk bh (D2.bytes.take D2.synced) D2.bytes D2.arms.length * dk b D2)) := by
  obtain ⟨G, hGe⟩ : ∃ G, D.bytes.take D.synced = G := ⟨_, rfl⟩
  have hGl : G.length = D.synced := by rw [← hGe, List.length_take]; have := hD.synced; omega
  obtain ⟨n, hne⟩ : ∃ n : Int, (D.arms.length : Int) = n := ⟨_, rfl⟩
  rw [hGe, hne] at hs
  obtain ⟨gv, av, hs0⟩ := hs.swap.hk_open
  rw [hGl] at hs0
  obtain ⟨ga, gc, rfl, _, _, _⟩ := hs0.rot3.vec_rd
  obtain ⟨aa, ac, rfl, _, _, _⟩ := hs0.swap.vec_rd
  have hT0 := hs0.new #[.int .i64 9, .int .i64 O, .int .i64 N, .int .i64 M, .string DT] 83
  generalize hbt : w.heap.size = bt at hT0
  have hT := hT0.perm (B := F * vec 5 1 (.slice ga D.synced gc) D.synced (bvs G) * vec 5 1 (.slice aa D.bytes.length ac) D.bytes.length (bvs D.bytes) * blk bh [.slice ga D.synced gc, .slice aa D.bytes.length ac, .int .i64 n] 111 * blk bt [.int .i64 9, .int .i64 O, .int .i64 N, .int .i64 M, .string DT] 83 * dk b D) (by ac_rfl)
  have HE := Hid.mk' hE
  have HACT := Hid.mk' hACT
  have HGE := Hid.mk' hGe
  have HGL := Hid.mk' hGl
  have HNE := Hid.mk' hne
  have hb := hD.bytes
  clear hs hs0 hT0 hE hACT hGe hGl hne
  have HOP := Hid.mk' (fun w => by have := law12_operation (w := w) (⟨9, O, N, M, DT⟩ : Stp); rw [show decide (1 ≤ (⟨9, O, N, M, DT⟩ : Stp).kind ∧ (⟨9, O, N, M, DT⟩ : Stp).kind ≤ 4) = false from rfl] at this; exact this)
  go_enter Tryd.func64, Tryd.ntmps64
  go_wp2_with fail
  refine (law12_act' HE.out hD (⟨9, O, N, M, DT⟩ : Stp) hS hm (b := b) (D := D) (F := F * vec 5 1 (.slice ga D.synced gc) D.synced (bvs G) * vec 5 1 (.slice aa D.bytes.length ac) D.bytes.length (bvs D.bytes) * blk bh [.slice ga D.synced gc, .slice aa D.bytes.length ac, .int .i64 n] 111 * blk bt [.int .i64 9, .int .i64 O, .int .i64 N, .int .i64 M, .string DT] 83) hT).mono ?_
  rintro e v1 ⟨v, rfl, a1, n1, hn1, rfl, hx⟩
  rw [HACT.out] at hx ⊢
  have hy := hx.new #[.slice a1 D.bytes.length n1, .int .i64 D.synced, .int .i64 0] 87
  generalize hb9 : v1.heap.size = b9 at hy
  have hA := hy.perm (B := F * vec 5 1 (.slice ga D.synced gc) D.synced (bvs G) * vec 5 1 (.slice aa D.bytes.length ac) D.bytes.length (bvs D.bytes) * dk b D2 * vec 5 1 (.slice a1 D.bytes.length n1) D.bytes.length (bvs D.bytes) * blk bt [.int .i64 9, .int .i64 O, .int .i64 N, .int .i64 M, .string DT] 83 * blk b9 [.slice a1 D.bytes.length n1, .int .i64 D.synced, .int .i64 0] 87 * blk bh [.slice ga D.synced gc, .slice aa D.bytes.length ac, .int .i64 n] 111) (by ac_rfl)
  have q0 := hA.rot3.cell (i := 0) (v := .int .i64 9) rfl
  have q1 := hA.rot3.cell (i := 1) (v := .int .i64 O) rfl
  have q2 := hA.rot3.cell (i := 2) (v := .int .i64 N) rfl
  have q3 := hA.rot3.cell (i := 3) (v := .int .i64 M) rfl
  have q4 := hA.rot3.cell (i := 4) (v := .string DT) rfl
  have g0 := hA.cell (i := 0) (v := .slice ga D.synced gc) rfl
  have g1 := hA.cell (i := 1) (v := .slice aa D.bytes.length ac) rfl
  have g2 := hA.cell (i := 2) (v := .int .i64 n) rfl
  have f2 := hA.free 2
  clear hx hy hT hn1
  go_wp2_with (go_at_call 118; refine (HOP.out _).mono ?_; rintro e v6 ⟨v, rfl, rfl, ho⟩; have hB := hA.then1 ho; have q0' := hB.rot3.cell (i := 0) (v := .int .i64 9) rfl; have r0' := hB.swap.cell (i := 0) (v := .slice a1 D.bytes.length n1) rfl; have r1' := hB.swap.cell (i := 1) (v := .int .i64 D.synced) rfl; have r2' := hB.swap.cell (i := 2) (v := .int .i64 0) rfl; have g0' := hB.cell (i := 0) (v := .slice ga D.synced gc) rfl; have g1' := hB.cell (i := 1) (v := .slice aa D.bytes.length ac) rfl; have g2' := hB.cell (i := 2) (v := .int .i64 n) rfl; have f2' := hB.free 2)
  go_region_held3 (fun wr => wr.cell? ⟨b9, 0, none⟩ = some (.slice a1 D.bytes.length n1) ∧ wr.cell? ⟨b9, 1, none⟩ = some (.int .i64 D.synced) ∧ wr.cell? ⟨bh, 0, none⟩ = some (.slice ga D.synced gc) ∧ wr.cell? ⟨bh, 1, none⟩ = some (.slice aa D.bytes.length ac)) (first | exact ⟨hC.swap.cell rfl, hC.swap.cell rfl, hC.cell rfl, hC.cell rfl⟩ | exact ⟨hB.swap.cell rfl, hB.swap.cell rfl, hB.cell rfl, hB.cell rfl⟩)
    (first | (go_at_call 25; refine (ref0_same_true D.bytes a1 aa n1 ac (hB.drewN 1).rot4.rd (hB.drewN 1).rot6.rd hb).mono ?_; rintro e w5 ⟨rfl, m, rfl⟩; have hC := (hB.drewN 1).drewN m))
  all_goals
    go_wp2_with fail
    go_ret
    exact Ret.mk ⟨rfl, hk_fin (g := D.synced) HGL.out (X := vec 5 1 (.slice a1 D.bytes.length n1) D.bytes.length (bvs D.bytes) * blk bt [.int .i64 9, .int .i64 O, .int .i64 N, .int .i64 M, .string DT] 83 * blk b9 [.slice a1 D.bytes.length n1, .int .i64 D.synced, .int .i64 0] 87) ((hB.drewN _).perm (by ac_rfl)) (h1.trans HGE.out) h2 (h3.trans HNE.out)⟩

set_option maxRecDepth 20000 in
set_option maxHeartbeats 6400000 in
theorem lasts_live9 {w0 w : World} {F : HP} {b bh : Nat} {D D2 : Dk} {E : Nat → Addr} (hE : Errs w0 E) (hD : D.Ok) (hm : D.arms.length < 8796093022207) {O N M : Int} {DT : ByteArray} (hS : (⟨9, O, N, M, DT⟩ : Stp).Ok) (h1 : D2.bytes.take D2.synced = D.bytes.take D.synced) (h2 : D2.bytes = D.bytes) (h3 : (D2.arms.length : Int) = D.arms.length)
    (hACT : D.act ⟨9, O, N, M, DT⟩ = (⟨D.bytes, D.synced, 0⟩, D2))
    (hs : Sat w0 w (F * hk bh (D.bytes.take D.synced) D.bytes D.arms.length * dk b D)) :
    Calls Tryd.prog 64 #[.pointer (some ⟨bh, 0, none⟩), .pointer (some ⟨b, 0, none⟩), .agg #[.int .i64 9, .int .i64 O, .int .i64 N, .int .i64 M, .string DT], .bool false, .bool false] w (Ret fun v w' => v = .bool true ∧ Sat w0 w' (F * hk bh (D2.bytes.take D2.synced) D2.bytes D2.arms.length * dk b D2)) := by
  obtain ⟨G, hGe⟩ : ∃ G, D.bytes.take D.synced = G := ⟨_, rfl⟩
  have hGl : G.length = D.synced := by rw [← hGe, List.length_take]; have := hD.synced; omega
  obtain ⟨n, hne⟩ : ∃ n : Int, (D.arms.length : Int) = n := ⟨_, rfl⟩
  rw [hGe, hne] at hs
  obtain ⟨gv, av, hs0⟩ := hs.swap.hk_open
  rw [hGl] at hs0
  obtain ⟨ga, gc, rfl, _, _, _⟩ := hs0.rot3.vec_rd
  obtain ⟨aa, ac, rfl, _, _, _⟩ := hs0.swap.vec_rd
  have hT0 := hs0.new #[.int .i64 9, .int .i64 O, .int .i64 N, .int .i64 M, .string DT] 83
  generalize hbt : w.heap.size = bt at hT0
  have hT := hT0.perm (B := F * vec 5 1 (.slice ga D.synced gc) D.synced (bvs G) * vec 5 1 (.slice aa D.bytes.length ac) D.bytes.length (bvs D.bytes) * blk bh [.slice ga D.synced gc, .slice aa D.bytes.length ac, .int .i64 n] 111 * blk bt [.int .i64 9, .int .i64 O, .int .i64 N, .int .i64 M, .string DT] 83 * dk b D) (by ac_rfl)
  have HE := Hid.mk' hE
  have HACT := Hid.mk' hACT
  have HGE := Hid.mk' hGe
  have HGL := Hid.mk' hGl
  have HNE := Hid.mk' hne
  have hb := hD.bytes
  clear hs hs0 hT0 hE hACT hGe hGl hne
  go_enter Tryd.func64, Tryd.ntmps64
  go_wp2_with fail
  refine (law12_act' HE.out hD (⟨9, O, N, M, DT⟩ : Stp) hS hm (b := b) (D := D) (F := F * vec 5 1 (.slice ga D.synced gc) D.synced (bvs G) * vec 5 1 (.slice aa D.bytes.length ac) D.bytes.length (bvs D.bytes) * blk bh [.slice ga D.synced gc, .slice aa D.bytes.length ac, .int .i64 n] 111 * blk bt [.int .i64 9, .int .i64 O, .int .i64 N, .int .i64 M, .string DT] 83) hT).mono ?_
  rintro e v1 ⟨v, rfl, a1, n1, hn1, rfl, hx⟩
  rw [HACT.out] at hx ⊢
  have hy := hx.new #[.slice a1 D.bytes.length n1, .int .i64 D.synced, .int .i64 0] 87
  generalize hb9 : v1.heap.size = b9 at hy
  have hA := hy.perm (B := F * vec 5 1 (.slice ga D.synced gc) D.synced (bvs G) * vec 5 1 (.slice aa D.bytes.length ac) D.bytes.length (bvs D.bytes) * dk b D2 * vec 5 1 (.slice a1 D.bytes.length n1) D.bytes.length (bvs D.bytes) * blk bt [.int .i64 9, .int .i64 O, .int .i64 N, .int .i64 M, .string DT] 83 * blk b9 [.slice a1 D.bytes.length n1, .int .i64 D.synced, .int .i64 0] 87 * blk bh [.slice ga D.synced gc, .slice aa D.bytes.length ac, .int .i64 n] 111) (by ac_rfl)
  have q0 := hA.rot3.cell (i := 0) (v := .int .i64 9) rfl
  have q1 := hA.rot3.cell (i := 1) (v := .int .i64 O) rfl
  have q2 := hA.rot3.cell (i := 2) (v := .int .i64 N) rfl
  have q3 := hA.rot3.cell (i := 3) (v := .int .i64 M) rfl
  have q4 := hA.rot3.cell (i := 4) (v := .string DT) rfl
  have g0 := hA.cell (i := 0) (v := .slice ga D.synced gc) rfl
  have g1 := hA.cell (i := 1) (v := .slice aa D.bytes.length ac) rfl
  have g2 := hA.cell (i := 2) (v := .int .i64 n) rfl
  have f2 := hA.free 2
  clear hx hy hT hn1
  go_wp2_with fail
  go_region_held3 (fun wr => wr.cell? ⟨b9, 0, none⟩ = some (.slice a1 D.bytes.length n1) ∧ wr.cell? ⟨b9, 1, none⟩ = some (.int .i64 D.synced) ∧ wr.cell? ⟨bh, 0, none⟩ = some (.slice ga D.synced gc) ∧ wr.cell? ⟨bh, 1, none⟩ = some (.slice aa D.bytes.length ac)) (first | exact ⟨hC.swap.cell rfl, hC.swap.cell rfl, hC.cell rfl, hC.cell rfl⟩ | exact ⟨hA.swap.cell rfl, hA.swap.cell rfl, hA.cell rfl, hA.cell rfl⟩)
    (first | (go_at_call 25; refine (ref0_same_true D.bytes a1 aa n1 ac (hA.drewN 1).rot4.rd (hA.drewN 1).rot6.rd hb).mono ?_; rintro e w5 ⟨rfl, m, rfl⟩; have hC := (hA.drewN 1).drewN m))
  all_goals
    go_wp2_with fail
    go_ret
    exact Ret.mk ⟨rfl, hk_fin (g := D.synced) HGL.out (X := vec 5 1 (.slice a1 D.bytes.length n1) D.bytes.length (bvs D.bytes) * blk bt [.int .i64 9, .int .i64 O, .int .i64 N, .int .i64 M, .string DT] 83 * blk b9 [.slice a1 D.bytes.length n1, .int .i64 D.synced, .int .i64 0] 87) ((hA.drewN _).perm (by ac_rfl)) (h1.trans HGE.out) h2 (h3.trans HNE.out)⟩

set_option maxRecDepth 20000 in
set_option maxHeartbeats 6400000 in
theorem lasts_live3 {w0 w : World} {F : HP} {b bh : Nat} {D D2 : Dk} {E : Nat → Addr} (hE : Errs w0 E) (hD : D.Ok) (hm : D.arms.length < 8796093022207) {O N M : Int} {DT : ByteArray} (hS : (⟨3, O, N, M, DT⟩ : Stp).Ok) (h1 : D2.bytes.take D2.synced = D.bytes.take D.synced) (h2 : D2.bytes = D.bytes) (h3 : (D2.arms.length : Int) = D.arms.length)
    (hACT : D.act ⟨3, O, N, M, DT⟩ = (⟨D.bytes, 0, 0⟩, D2))
    (hs : Sat w0 w (F * hk bh (D.bytes.take D.synced) D.bytes D.arms.length * dk b D)) :
    Calls Tryd.prog 64 #[.pointer (some ⟨bh, 0, none⟩), .pointer (some ⟨b, 0, none⟩), .agg #[.int .i64 3, .int .i64 O, .int .i64 N, .int .i64 M, .string DT], .bool false, .bool false] w (Ret fun v w' => v = .bool true ∧ Sat w0 w' (F * hk bh (D2.bytes.take D2.synced) D2.bytes D2.arms.length * dk b D2)) := by
  obtain ⟨G, hGe⟩ : ∃ G, D.bytes.take D.synced = G := ⟨_, rfl⟩
  have hGl : G.length = D.synced := by rw [← hGe, List.length_take]; have := hD.synced; omega
  obtain ⟨n, hne⟩ : ∃ n : Int, (D.arms.length : Int) = n := ⟨_, rfl⟩
  rw [hGe, hne] at hs
  obtain ⟨gv, av, hs0⟩ := hs.swap.hk_open
  rw [hGl] at hs0
  obtain ⟨ga, gc, rfl, _, _, _⟩ := hs0.rot3.vec_rd
  obtain ⟨aa, ac, rfl, _, _, _⟩ := hs0.swap.vec_rd
  have hT0 := hs0.new #[.int .i64 3, .int .i64 O, .int .i64 N, .int .i64 M, .string DT] 83
  generalize hbt : w.heap.size = bt at hT0
  have hT := hT0.perm (B := F * vec 5 1 (.slice ga D.synced gc) D.synced (bvs G) * vec 5 1 (.slice aa D.bytes.length ac) D.bytes.length (bvs D.bytes) * blk bh [.slice ga D.synced gc, .slice aa D.bytes.length ac, .int .i64 n] 111 * blk bt [.int .i64 3, .int .i64 O, .int .i64 N, .int .i64 M, .string DT] 83 * dk b D) (by ac_rfl)
  have HE := Hid.mk' hE
  have HACT := Hid.mk' hACT
  have HGE := Hid.mk' hGe
  have HGL := Hid.mk' hGl
  have HNE := Hid.mk' hne
  have hb := hD.bytes
  clear hs hs0 hT0 hE hACT hGe hGl hne
  go_enter Tryd.func64, Tryd.ntmps64
  go_wp2_with fail
  refine (law12_act' HE.out hD (⟨3, O, N, M, DT⟩ : Stp) hS hm (b := b) (D := D) (F := F * vec 5 1 (.slice ga D.synced gc) D.synced (bvs G) * vec 5 1 (.slice aa D.bytes.length ac) D.bytes.length (bvs D.bytes) * blk bh [.slice ga D.synced gc, .slice aa D.bytes.length ac, .int .i64 n] 111 * blk bt [.int .i64 3, .int .i64 O, .int .i64 N, .int .i64 M, .string DT] 83) hT).mono ?_
  rintro e v1 ⟨v, rfl, a1, n1, hn1, rfl, hx⟩
  rw [HACT.out] at hx ⊢
  have hy := hx.new #[.slice a1 D.bytes.length n1, .int .i64 0, .int .i64 0] 87
  generalize hb9 : v1.heap.size = b9 at hy
  have hA := hy.perm (B := F * vec 5 1 (.slice ga D.synced gc) D.synced (bvs G) * vec 5 1 (.slice aa D.bytes.length ac) D.bytes.length (bvs D.bytes) * dk b D2 * vec 5 1 (.slice a1 D.bytes.length n1) D.bytes.length (bvs D.bytes) * blk bt [.int .i64 3, .int .i64 O, .int .i64 N, .int .i64 M, .string DT] 83 * blk b9 [.slice a1 D.bytes.length n1, .int .i64 0, .int .i64 0] 87 * blk bh [.slice ga D.synced gc, .slice aa D.bytes.length ac, .int .i64 n] 111) (by ac_rfl)
  have q0 := hA.rot3.cell (i := 0) (v := .int .i64 3) rfl
  have q1 := hA.rot3.cell (i := 1) (v := .int .i64 O) rfl
  have q2 := hA.rot3.cell (i := 2) (v := .int .i64 N) rfl
  have q3 := hA.rot3.cell (i := 3) (v := .int .i64 M) rfl
  have q4 := hA.rot3.cell (i := 4) (v := .string DT) rfl
  have g0 := hA.cell (i := 0) (v := .slice ga D.synced gc) rfl
  have g1 := hA.cell (i := 1) (v := .slice aa D.bytes.length ac) rfl
  have g2 := hA.cell (i := 2) (v := .int .i64 n) rfl
  have f2 := hA.free 2
  clear hx hy hT hn1
  go_wp2_with fail
  go_region_held3 (fun wr => wr.cell? ⟨b9, 0, none⟩ = some (.slice a1 D.bytes.length n1) ∧ wr.cell? ⟨bh, 1, none⟩ = some (.slice aa D.bytes.length ac)) (first | exact ⟨hC.swap.cell rfl, hC.cell rfl⟩ | exact ⟨hA.swap.cell rfl, hA.cell rfl⟩)
    (first | (go_at_call 25; refine (ref0_same_true D.bytes a1 aa n1 ac (hA.drewN 1).rot4.rd (hA.drewN 1).rot6.rd hb).mono ?_; rintro e w5 ⟨rfl, m, rfl⟩; have hC := (hA.drewN 1).drewN m))
  all_goals
    go_wp2_with fail
    go_ret
    exact Ret.mk ⟨rfl, hk_fin (g := D.synced) HGL.out (X := vec 5 1 (.slice a1 D.bytes.length n1) D.bytes.length (bvs D.bytes) * blk bt [.int .i64 3, .int .i64 O, .int .i64 N, .int .i64 M, .string DT] 83 * blk b9 [.slice a1 D.bytes.length n1, .int .i64 0, .int .i64 0] 87) ((hA.drewN _).perm (by ac_rfl)) (h1.trans HGE.out) h2 (h3.trans HNE.out)⟩

set_option maxRecDepth 20000 in
set_option maxHeartbeats 6400000 in
theorem lasts_live2 {w0 w : World} {F : HP} {b bh : Nat} {D D2 : Dk} {E : Nat → Addr} (hE : Errs w0 E) (hD : D.Ok) (hm : D.arms.length < 8796093022207) {O N M : Int} {DT : ByteArray} (hS : (⟨2, O, N, M, DT⟩ : Stp).Ok) (h1 : D2.bytes.take D2.synced = D.bytes) (h2 : D2.bytes = D.bytes) (h3 : (D2.arms.length : Int) = D.arms.length)
    (hACT : D.act ⟨2, O, N, M, DT⟩ = (⟨[], 0, 0⟩, D2))
    (hs : Sat w0 w (F * hk bh (D.bytes.take D.synced) D.bytes D.arms.length * dk b D)) :
    Calls Tryd.prog 64 #[.pointer (some ⟨bh, 0, none⟩), .pointer (some ⟨b, 0, none⟩), .agg #[.int .i64 2, .int .i64 O, .int .i64 N, .int .i64 M, .string DT], .bool false, .bool false] w (Ret fun v w' => v = .bool true ∧ Sat w0 w' (F * hk bh (D2.bytes.take D2.synced) D2.bytes D2.arms.length * dk b D2)) := by
  obtain ⟨G, hGe⟩ : ∃ G, D.bytes.take D.synced = G := ⟨_, rfl⟩
  have hGl : G.length = D.synced := by rw [← hGe, List.length_take]; have := hD.synced; omega
  obtain ⟨n, hne⟩ : ∃ n : Int, (D.arms.length : Int) = n := ⟨_, rfl⟩
  rw [hGe, hne] at hs
  obtain ⟨gv, av, hs0⟩ := hs.swap.hk_open
  rw [hGl] at hs0
  obtain ⟨ga, gc, rfl, _, _, _⟩ := hs0.rot3.vec_rd
  obtain ⟨aa, ac, rfl, _, _, _⟩ := hs0.swap.vec_rd
  have hT0 := hs0.new #[.int .i64 2, .int .i64 O, .int .i64 N, .int .i64 M, .string DT] 83
  generalize hbt : w.heap.size = bt at hT0
  have hT := hT0.perm (B := F * vec 5 1 (.slice ga D.synced gc) D.synced (bvs G) * vec 5 1 (.slice aa D.bytes.length ac) D.bytes.length (bvs D.bytes) * blk bh [.slice ga D.synced gc, .slice aa D.bytes.length ac, .int .i64 n] 111 * blk bt [.int .i64 2, .int .i64 O, .int .i64 N, .int .i64 M, .string DT] 83 * dk b D) (by ac_rfl)
  have HE := Hid.mk' hE
  have HACT := Hid.mk' hACT
  have HGE := Hid.mk' hGe
  have HGL := Hid.mk' hGl
  have HNE := Hid.mk' hne
  have hb := hD.bytes
  clear hs hs0 hT0 hE hACT hGe hGl hne
  go_enter Tryd.func64, Tryd.ntmps64
  go_wp2_with fail
  refine (law12_act' HE.out hD (⟨2, O, N, M, DT⟩ : Stp) hS hm (b := b) (D := D) (F := F * vec 5 1 (.slice ga D.synced gc) D.synced (bvs G) * vec 5 1 (.slice aa D.bytes.length ac) D.bytes.length (bvs D.bytes) * blk bh [.slice ga D.synced gc, .slice aa D.bytes.length ac, .int .i64 n] 111 * blk bt [.int .i64 2, .int .i64 O, .int .i64 N, .int .i64 M, .string DT] 83) hT).mono ?_
  rintro e v1 ⟨v, rfl, a1, n1, hn1, rfl, hx⟩
  rw [HACT.out] at hx ⊢
  have hy := hx.new #[.slice a1 0 n1, .int .i64 0, .int .i64 0] 87
  generalize hb9 : v1.heap.size = b9 at hy
  have hA := hy.perm (B := F * vec 5 1 (.slice ga D.synced gc) D.synced (bvs G) * vec 5 1 (.slice aa D.bytes.length ac) D.bytes.length (bvs D.bytes) * dk b D2 * vec 5 1 (.slice a1 0 n1) 0 [] * blk bt [.int .i64 2, .int .i64 O, .int .i64 N, .int .i64 M, .string DT] 83 * blk b9 [.slice a1 0 n1, .int .i64 0, .int .i64 0] 87 * blk bh [.slice ga D.synced gc, .slice aa D.bytes.length ac, .int .i64 n] 111) (by ac_rfl)
  have q0 := hA.rot3.cell (i := 0) (v := .int .i64 2) rfl
  have q1 := hA.rot3.cell (i := 1) (v := .int .i64 O) rfl
  have q2 := hA.rot3.cell (i := 2) (v := .int .i64 N) rfl
  have q3 := hA.rot3.cell (i := 3) (v := .int .i64 M) rfl
  have q4 := hA.rot3.cell (i := 4) (v := .string DT) rfl
  have g0 := hA.cell (i := 0) (v := .slice ga D.synced gc) rfl
  have g1 := hA.cell (i := 1) (v := .slice aa D.bytes.length ac) rfl
  have g2 := hA.cell (i := 2) (v := .int .i64 n) rfl
  have f2 := hA.free 2
  clear hx hy hT hn1
  go_wp2_with fail
  refine (kit_copy D.bytes aa ac hA.rot6.rd hb).mono ?_
  rintro e w2 ⟨v, rfl, hx⟩
  have hB := (hA.glue hx).swap
  obtain ⟨ca, cc, rfl, _, _, _⟩ := hB.swap.vec_rd
  have f0 := hB.free 0
  have g0 := hB.cell (i := 0) (v := .slice ga D.synced gc) rfl
  clear hx
  go_wp2_with fail
  go_ret
  exact Ret.mk ⟨rfl, hk_fin (g := D.bytes.length) (G := D.bytes) (A := D.bytes) (n := n) (vg := .slice ca D.bytes.length cc) (va := .slice aa D.bytes.length ac) rfl (X := vec 5 1 (.slice a1 0 n1) 0 [] * blk bt [.int .i64 2, .int .i64 O, .int .i64 N, .int .i64 M, .string DT] 83 * blk b9 [.slice a1 0 n1, .int .i64 0, .int .i64 0] 87 * vec 5 1 (.slice ga D.synced gc) D.synced (bvs G)) ((hB.store 0 (.slice ca D.bytes.length cc)).perm (by simp only [List.set_cons_zero]; ac_rfl)) h1 h2 (h3.trans HNE.out)⟩

set_option maxRecDepth 20000 in
set_option maxHeartbeats 6400000 in
theorem lasts_live1 {w0 w : World} {F : HP} {b bh : Nat} {D D2 : Dk} {E : Nat → Addr} (hE : Errs w0 E) (hD : D.Ok) (hm : D.arms.length < 8796093022207) {O N M : Int} {DT : ByteArray} (hS : (⟨1, O, N, M, DT⟩ : Stp).Ok) (hsz : D.bytes.length + DT.size ≤ 142936511610880) (h1 : D2.bytes.take D2.synced = D.bytes.take D.synced) (h2 : D2.bytes = D.bytes ++ DT.data.toList) (h3 : (D2.arms.length : Int) = D.arms.length)
    (hACT : D.act ⟨1, O, N, M, DT⟩ = (⟨[], 0, 0⟩, D2))
    (hs : Sat w0 w (F * hk bh (D.bytes.take D.synced) D.bytes D.arms.length * dk b D)) :
    Calls Tryd.prog 64 #[.pointer (some ⟨bh, 0, none⟩), .pointer (some ⟨b, 0, none⟩), .agg #[.int .i64 1, .int .i64 O, .int .i64 N, .int .i64 M, .string DT], .bool false, .bool false] w (Ret fun v w' => v = .bool true ∧ Sat w0 w' (F * hk bh (D2.bytes.take D2.synced) D2.bytes D2.arms.length * dk b D2)) := by
  obtain ⟨G, hGe⟩ : ∃ G, D.bytes.take D.synced = G := ⟨_, rfl⟩
  have hGl : G.length = D.synced := by rw [← hGe, List.length_take]; have := hD.synced; omega
  obtain ⟨n, hne⟩ : ∃ n : Int, (D.arms.length : Int) = n := ⟨_, rfl⟩
  rw [hGe, hne] at hs
  obtain ⟨gv, av, hs0⟩ := hs.swap.hk_open
  rw [hGl] at hs0
  obtain ⟨ga, gc, rfl, _, _, _⟩ := hs0.rot3.vec_rd
  obtain ⟨aa, ac, rfl, _, _, _⟩ := hs0.swap.vec_rd
  have hT0 := hs0.new #[.int .i64 1, .int .i64 O, .int .i64 N, .int .i64 M, .string DT] 83
  generalize hbt : w.heap.size = bt at hT0
  have hT := hT0.perm (B := F * vec 5 1 (.slice ga D.synced gc) D.synced (bvs G) * vec 5 1 (.slice aa D.bytes.length ac) D.bytes.length (bvs D.bytes) * blk bh [.slice ga D.synced gc, .slice aa D.bytes.length ac, .int .i64 n] 111 * blk bt [.int .i64 1, .int .i64 O, .int .i64 N, .int .i64 M, .string DT] 83 * dk b D) (by ac_rfl)
  have HE := Hid.mk' hE
  have HACT := Hid.mk' hACT
  have HGE := Hid.mk' hGe
  have HGL := Hid.mk' hGl
  have HNE := Hid.mk' hne
  have hb := hD.bytes
  clear hs hs0 hT0 hE hACT hGe hGl hne
  have HML := Hid.mk' (show DT.data.toList.length = DT.size from rfl)
  go_enter Tryd.func64, Tryd.ntmps64
  go_wp2_with fail
  refine (law12_act' HE.out hD (⟨1, O, N, M, DT⟩ : Stp) hS hm (b := b) (D := D) (F := F * vec 5 1 (.slice ga D.synced gc) D.synced (bvs G) * vec 5 1 (.slice aa D.bytes.length ac) D.bytes.length (bvs D.bytes) * blk bh [.slice ga D.synced gc, .slice aa D.bytes.length ac, .int .i64 n] 111 * blk bt [.int .i64 1, .int .i64 O, .int .i64 N, .int .i64 M, .string DT] 83) hT).mono ?_
  rintro e v1 ⟨v, rfl, a1, n1, hn1, rfl, hx⟩
  rw [HACT.out] at hx ⊢
  have hy := hx.new #[.slice a1 0 n1, .int .i64 0, .int .i64 0] 87
  generalize hb9 : v1.heap.size = b9 at hy
  have hA := hy.perm (B := F * vec 5 1 (.slice ga D.synced gc) D.synced (bvs G) * vec 5 1 (.slice aa D.bytes.length ac) D.bytes.length (bvs D.bytes) * dk b D2 * vec 5 1 (.slice a1 0 n1) 0 [] * blk bt [.int .i64 1, .int .i64 O, .int .i64 N, .int .i64 M, .string DT] 83 * blk b9 [.slice a1 0 n1, .int .i64 0, .int .i64 0] 87 * blk bh [.slice ga D.synced gc, .slice aa D.bytes.length ac, .int .i64 n] 111) (by ac_rfl)
  have q0 := hA.rot3.cell (i := 0) (v := .int .i64 1) rfl
  have q1 := hA.rot3.cell (i := 1) (v := .int .i64 O) rfl
  have q2 := hA.rot3.cell (i := 2) (v := .int .i64 N) rfl
  have q3 := hA.rot3.cell (i := 3) (v := .int .i64 M) rfl
  have q4 := hA.rot3.cell (i := 4) (v := .string DT) rfl
  have g0 := hA.cell (i := 0) (v := .slice ga D.synced gc) rfl
  have g1 := hA.cell (i := 1) (v := .slice aa D.bytes.length ac) rfl
  have g2 := hA.cell (i := 2) (v := .int .i64 n) rfl
  have f2 := hA.free 2
  clear hx hy hT hn1
  go_wp2_with fail
  go_region_law ((refine step_append_string rfl _ _ 22 9 rfl 5 Tryd.underlying22 Tryd.underlying9 info_u8 _ D.bytes.length _ rfl (by exact (hA.drewN _).rot6) DT rfl (by simp only [maxLen]; omega) hsz ?_; intro v' w' hS; obtain ⟨so, cap', rfl, _, _, _⟩ := hS.vec_rd; have f1 := hS.swap.free 1; have g1' := hS.swap.cell (i := 1) (v := .slice aa D.bytes.length ac) rfl))
  all_goals
    go_wp2_with fail
    go_ret
    refine Ret.mk ⟨rfl, ?_⟩
    refine hk_fin (g := D.synced) (G := G) (A := D.bytes ++ DT.data.toList) (n := n) (vg := .slice ga D.synced gc) (va := .slice so (D.bytes.length + DT.size) cap') HGL.out (X := vec 5 1 (.slice a1 0 n1) 0 [] * blk bt [.int .i64 1, .int .i64 O, .int .i64 N, .int .i64 M, .string DT] 83 * blk b9 [.slice a1 0 n1, .int .i64 0, .int .i64 0] 87) ?_ (h1.trans HGE.out) h2 (h3.trans HNE.out)
    rw [List.length_append, HML.out, bvs_append]
    exact (hS.swap.store 1 (.slice so (D.bytes.length + DT.size) cap')).perm (by simp only [List.set_cons_succ, List.set_cons_zero]; ac_rfl)

set_option maxRecDepth 20000 in
set_option maxHeartbeats 6400000 in
theorem lasts_live6 {w0 w : World} {F : HP} {b bh : Nat} {D D2 : Dk} {E : Nat → Addr} (hE : Errs w0 E) (hD : D.Ok) (hm : D.arms.length < 8796093022207) {O N M : Int} {DT : ByteArray} (hS : (⟨6, O, N, M, DT⟩ : Stp).Ok) (hD2 : D2.Ok) (hm2 : D2.arms.length < 8796093022207) (hG : D.bytes.take D.synced <+: D2.bytes) (hB : D2.bytes <+: D.bytes) (h1 : D2.bytes.take D2.synced = D2.bytes) (h3 : (D2.arms.length : Int) = D.arms.length)
    (hACT : D.act ⟨6, O, N, M, DT⟩ = (⟨[], 0, 0⟩, D2))
    (hs : Sat w0 w (F * hk bh (D.bytes.take D.synced) D.bytes D.arms.length * dk b D)) :
    Calls Tryd.prog 64 #[.pointer (some ⟨bh, 0, none⟩), .pointer (some ⟨b, 0, none⟩), .agg #[.int .i64 6, .int .i64 O, .int .i64 N, .int .i64 M, .string DT], .bool false, .bool false] w (Ret fun v w' => v = .bool true ∧ Sat w0 w' (F * hk bh (D2.bytes.take D2.synced) D2.bytes D2.arms.length * dk b D2)) := by
  obtain ⟨G, hGe⟩ : ∃ G, D.bytes.take D.synced = G := ⟨_, rfl⟩
  have hGl : G.length = D.synced := by rw [← hGe, List.length_take]; have := hD.synced; omega
  obtain ⟨n, hne⟩ : ∃ n : Int, (D.arms.length : Int) = n := ⟨_, rfl⟩
  rw [hGe, hne] at hs
  obtain ⟨gv, av, hs0⟩ := hs.swap.hk_open
  rw [hGl] at hs0
  obtain ⟨ga, gc, rfl, _, _, _⟩ := hs0.rot3.vec_rd
  obtain ⟨aa, ac, rfl, _, _, _⟩ := hs0.swap.vec_rd
  have hT0 := hs0.new #[.int .i64 6, .int .i64 O, .int .i64 N, .int .i64 M, .string DT] 83
  generalize hbt : w.heap.size = bt at hT0
  have hT := hT0.perm (B := F * vec 5 1 (.slice ga D.synced gc) D.synced (bvs G) * vec 5 1 (.slice aa D.bytes.length ac) D.bytes.length (bvs D.bytes) * blk bh [.slice ga D.synced gc, .slice aa D.bytes.length ac, .int .i64 n] 111 * blk bt [.int .i64 6, .int .i64 O, .int .i64 N, .int .i64 M, .string DT] 83 * dk b D) (by ac_rfl)
  have HE := Hid.mk' hE
  have HACT := Hid.mk' hACT
  have HGE := Hid.mk' hGe
  have HGL := Hid.mk' hGl
  have HNE := Hid.mk' hne
  have hb := hD.bytes
  clear hs hs0 hT0 hE hACT hGe hGl hne
  rw [HGE.out] at hG
  go_enter Tryd.func64, Tryd.ntmps64
  go_wp2_with fail
  refine (law12_act' HE.out hD (⟨6, O, N, M, DT⟩ : Stp) hS hm (b := b) (D := D) (F := F * vec 5 1 (.slice ga D.synced gc) D.synced (bvs G) * vec 5 1 (.slice aa D.bytes.length ac) D.bytes.length (bvs D.bytes) * blk bh [.slice ga D.synced gc, .slice aa D.bytes.length ac, .int .i64 n] 111 * blk bt [.int .i64 6, .int .i64 O, .int .i64 N, .int .i64 M, .string DT] 83) hT).mono ?_
  rintro e v1 ⟨v, rfl, a1, n1, hn1, rfl, hx⟩
  rw [HACT.out] at hx ⊢
  have hy := hx.new #[.slice a1 0 n1, .int .i64 0, .int .i64 0] 87
  generalize hb9 : v1.heap.size = b9 at hy
  have hA := hy.perm (B := F * vec 5 1 (.slice ga D.synced gc) D.synced (bvs G) * vec 5 1 (.slice aa D.bytes.length ac) D.bytes.length (bvs D.bytes) * dk b D2 * vec 5 1 (.slice a1 0 n1) 0 [] * blk bt [.int .i64 6, .int .i64 O, .int .i64 N, .int .i64 M, .string DT] 83 * blk b9 [.slice a1 0 n1, .int .i64 0, .int .i64 0] 87 * blk bh [.slice ga D.synced gc, .slice aa D.bytes.length ac, .int .i64 n] 111) (by ac_rfl)
  have q0 := hA.rot3.cell (i := 0) (v := .int .i64 6) rfl
  have q1 := hA.rot3.cell (i := 1) (v := .int .i64 O) rfl
  have q2 := hA.rot3.cell (i := 2) (v := .int .i64 N) rfl
  have q3 := hA.rot3.cell (i := 3) (v := .int .i64 M) rfl
  have q4 := hA.rot3.cell (i := 4) (v := .string DT) rfl
  have g0 := hA.cell (i := 0) (v := .slice ga D.synced gc) rfl
  have g1 := hA.cell (i := 1) (v := .slice aa D.bytes.length ac) rfl
  have g2 := hA.cell (i := 2) (v := .int .i64 n) rfl
  have f2 := hA.free 2
  clear hx hy hT hn1
  have hz0 := hA.perm (B := F * dk b D2 * (vec 5 1 (.slice a1 0 n1) 0 [] * blk bt [.int .i64 6, .int .i64 O, .int .i64 N, .int .i64 M, .string DT] 83 * blk b9 [.slice a1 0 n1, .int .i64 0, .int .i64 0] 87) * vec 5 1 (.slice ga D.synced gc) D.synced (bvs G) * vec 5 1 (.slice aa D.bytes.length ac) D.bytes.length (bvs D.bytes) * blk bh [.slice ga D.synced gc, .slice aa D.bytes.length ac, .int .i64 n] 111) (by ac_rfl)
  have hz1 := (Sat.hk_shut' HGL.out hz0).perm (B := F * (vec 5 1 (.slice a1 0 n1) 0 [] * blk bt [.int .i64 6, .int .i64 O, .int .i64 N, .int .i64 M, .string DT] 83 * blk b9 [.slice a1 0 n1, .int .i64 0, .int .i64 0] 87) * hk bh G D.bytes n * dk b D2) (by ac_rfl)
  clear hz0
  go_wp2_with (go_at_call 123; refine (held_fell HE.out hD2 hm2 ⟨#[]⟩ hb (by show D.bytes.length + 0 ≤ _; omega) hG (by show D2.bytes <+: D.bytes ++ []; rw [List.append_nil]; exact hB) hz1).mono ?_; rintro e w7 ⟨v, rfl, rfl, hz2⟩)
  go_ret
  refine Ret.mk ⟨rfl, ?_⟩
  have hz3 := (hz2.perm (B := F * hk bh D2.bytes D2.bytes n * dk b D2 * (vec 5 1 (.slice a1 0 n1) 0 [] * blk bt [.int .i64 6, .int .i64 O, .int .i64 N, .int .i64 M, .string DT] 83 * blk b9 [.slice a1 0 n1, .int .i64 0, .int .i64 0] 87)) (by ac_rfl)).drop
  rw [h1, h3, HNE.out]
  exact hz3

set_option maxRecDepth 20000 in
set_option maxHeartbeats 6400000 in
theorem lasts_dying1 {w0 w : World} {F : HP} {b bh : Nat} {D D2 : Dk} {E : Nat → Addr} (hE : Errs w0 E) (hD : D.Ok) (hm : D.arms.length < 8796093022207) {O N M : Int} {DT : ByteArray} (hS : (⟨1, O, N, M, DT⟩ : Stp).Ok) {full : Bool} (hD2 : D2.Ok) (hm2 : D2.arms.length < 8796093022207) (hsz : D.bytes.length + DT.size ≤ 142936511610880) (hB : D2.bytes <+: D.bytes ++ DT.data.toList) (hG : D.bytes.take D.synced <+: D2.bytes) (h1 : D2.bytes.take D2.synced = D2.bytes) (h3 : (D2.arms.length : Int) + 1 = D.arms.length)
    (hACT : D.act ⟨1, O, N, M, DT⟩ = (⟨[], 0, 10⟩, D2))
    (hs : Sat w0 w (F * hk bh (D.bytes.take D.synced) D.bytes D.arms.length * dk b D)) :
    Calls Tryd.prog 64 #[.pointer (some ⟨bh, 0, none⟩), .pointer (some ⟨b, 0, none⟩), .agg #[.int .i64 1, .int .i64 O, .int .i64 N, .int .i64 M, .string DT], .bool false, .bool full] w (Ret fun v w' => v = .bool true ∧ Sat w0 w' (F * hk bh (D2.bytes.take D2.synced) D2.bytes D2.arms.length * dk b D2)) := by
  obtain ⟨G, hGe⟩ : ∃ G, D.bytes.take D.synced = G := ⟨_, rfl⟩
  have hGl : G.length = D.synced := by rw [← hGe, List.length_take]; have := hD.synced; omega
  obtain ⟨n, hne⟩ : ∃ n : Int, (D.arms.length : Int) = n := ⟨_, rfl⟩
  rw [hGe, hne] at hs
  obtain ⟨gv, av, hs0⟩ := hs.swap.hk_open
  rw [hGl] at hs0
  obtain ⟨ga, gc, rfl, _, _, _⟩ := hs0.rot3.vec_rd
  obtain ⟨aa, ac, rfl, _, _, _⟩ := hs0.swap.vec_rd
  have hT0 := hs0.new #[.int .i64 1, .int .i64 O, .int .i64 N, .int .i64 M, .string DT] 83
  generalize hbt : w.heap.size = bt at hT0
  have hT := hT0.perm (B := F * vec 5 1 (.slice ga D.synced gc) D.synced (bvs G) * vec 5 1 (.slice aa D.bytes.length ac) D.bytes.length (bvs D.bytes) * blk bh [.slice ga D.synced gc, .slice aa D.bytes.length ac, .int .i64 n] 111 * blk bt [.int .i64 1, .int .i64 O, .int .i64 N, .int .i64 M, .string DT] 83 * dk b D) (by ac_rfl)
  have HE := Hid.mk' hE
  have HACT := Hid.mk' hACT
  have HGE := Hid.mk' hGe
  have HGL := Hid.mk' hGl
  have HNE := Hid.mk' hne
  have hb := hD.bytes
  clear hs hs0 hT0 hE hACT hGe hGl hne
  rw [HGE.out] at hG
  obtain ⟨m, hmm⟩ : ∃ m : Int, n - 1 = m := ⟨_, rfl⟩
  have hw : IntKind.i64.wrap (n - 1) = m := by rw [IntKind.wrap_i64]; have := HNE.out; omega
  have hm0 : (0 : Int) ≤ m := by have := HNE.out; omega
  have HNM := Hid.mk' (show (D2.arms.length : Int) = m by have := HNE.out; omega)
  clear hmm h3
  go_enter Tryd.func64, Tryd.ntmps64
  go_wp2_with fail
  refine (law12_act' HE.out hD (⟨1, O, N, M, DT⟩ : Stp) hS hm (b := b) (D := D) (F := F * vec 5 1 (.slice ga D.synced gc) D.synced (bvs G) * vec 5 1 (.slice aa D.bytes.length ac) D.bytes.length (bvs D.bytes) * blk bh [.slice ga D.synced gc, .slice aa D.bytes.length ac, .int .i64 n] 111 * blk bt [.int .i64 1, .int .i64 O, .int .i64 N, .int .i64 M, .string DT] 83) hT).mono ?_
  rintro e v1 ⟨v, rfl, a1, n1, hn1, rfl, hx⟩
  rw [HACT.out] at hx ⊢
  have hy := hx.new #[.slice a1 0 n1, .int .i64 0, .int .i64 10] 87
  generalize hb9 : v1.heap.size = b9 at hy
  have hA := hy.perm (B := F * vec 5 1 (.slice ga D.synced gc) D.synced (bvs G) * vec 5 1 (.slice aa D.bytes.length ac) D.bytes.length (bvs D.bytes) * dk b D2 * vec 5 1 (.slice a1 0 n1) 0 [] * blk bt [.int .i64 1, .int .i64 O, .int .i64 N, .int .i64 M, .string DT] 83 * blk b9 [.slice a1 0 n1, .int .i64 0, .int .i64 10] 87 * blk bh [.slice ga D.synced gc, .slice aa D.bytes.length ac, .int .i64 n] 111) (by ac_rfl)
  have q0 := hA.rot3.cell (i := 0) (v := .int .i64 1) rfl
  have q1 := hA.rot3.cell (i := 1) (v := .int .i64 O) rfl
  have q2 := hA.rot3.cell (i := 2) (v := .int .i64 N) rfl
  have q3 := hA.rot3.cell (i := 3) (v := .int .i64 M) rfl
  have q4 := hA.rot3.cell (i := 4) (v := .string DT) rfl
  have g0 := hA.cell (i := 0) (v := .slice ga D.synced gc) rfl
  have g1 := hA.cell (i := 1) (v := .slice aa D.bytes.length ac) rfl
  have g2 := hA.cell (i := 2) (v := .int .i64 n) rfl
  have f2 := hA.free 2
  clear hx hy hT hn1
  have hA2 := hA.store 2 (.int .i64 m)
  have hz0 := hA2.perm (B := F * dk b D2 * (vec 5 1 (.slice a1 0 n1) 0 [] * blk bt [.int .i64 1, .int .i64 O, .int .i64 N, .int .i64 M, .string DT] 83 * blk b9 [.slice a1 0 n1, .int .i64 0, .int .i64 10] 87) * vec 5 1 (.slice ga D.synced gc) D.synced (bvs G) * vec 5 1 (.slice aa D.bytes.length ac) D.bytes.length (bvs D.bytes) * blk bh [.slice ga D.synced gc, .slice aa D.bytes.length ac, .int .i64 m] 111) (by simp only [List.set_cons_succ, List.set_cons_zero]; ac_rfl)
  have hz1 := (Sat.hk_shut' HGL.out hz0).perm (B := F * (vec 5 1 (.slice a1 0 n1) 0 [] * blk bt [.int .i64 1, .int .i64 O, .int .i64 N, .int .i64 M, .string DT] 83 * blk b9 [.slice a1 0 n1, .int .i64 0, .int .i64 10] 87) * hk bh G D.bytes m * dk b D2) (by ac_rfl)
  clear hz0
  go_wp2_with (go_at_call 123; refine (held_fell HE.out hD2 hm2 DT hb hsz hG hB hz1).mono ?_; rintro e w7 ⟨v, rfl, rfl, hz2⟩)
  go_ret
  refine Ret.mk ⟨rfl, ?_⟩
  have hz3 := (hz2.perm (B := F * hk bh D2.bytes D2.bytes m * dk b D2 * (vec 5 1 (.slice a1 0 n1) 0 [] * blk bt [.int .i64 1, .int .i64 O, .int .i64 N, .int .i64 M, .string DT] 83 * blk b9 [.slice a1 0 n1, .int .i64 0, .int .i64 10] 87)) (by ac_rfl)).drop
  rw [h1, HNM.out]
  exact hz3

set_option maxRecDepth 20000 in
set_option maxHeartbeats 6400000 in
theorem lasts_dying2 {w0 w : World} {F : HP} {b bh : Nat} {D D2 : Dk} {E : Nat → Addr} (hE : Errs w0 E) (hD : D.Ok) (hm : D.arms.length < 8796093022207) {O N M : Int} {DT : ByteArray} (hS : (⟨2, O, N, M, DT⟩ : Stp).Ok) {full : Bool} (hD2 : D2.Ok) (hm2 : D2.arms.length < 8796093022207) (hB : D2.bytes <+: D.bytes) (hG : D.bytes.take D.synced <+: D2.bytes) (h1 : D2.bytes.take D2.synced = D2.bytes) (h3 : (D2.arms.length : Int) + 1 = D.arms.length)
    (hACT : D.act ⟨2, O, N, M, DT⟩ = (⟨[], 0, 10⟩, D2))
    (hs : Sat w0 w (F * hk bh (D.bytes.take D.synced) D.bytes D.arms.length * dk b D)) :
    Calls Tryd.prog 64 #[.pointer (some ⟨bh, 0, none⟩), .pointer (some ⟨b, 0, none⟩), .agg #[.int .i64 2, .int .i64 O, .int .i64 N, .int .i64 M, .string DT], .bool false, .bool full] w (Ret fun v w' => v = .bool true ∧ Sat w0 w' (F * hk bh (D2.bytes.take D2.synced) D2.bytes D2.arms.length * dk b D2)) := by
  obtain ⟨G, hGe⟩ : ∃ G, D.bytes.take D.synced = G := ⟨_, rfl⟩
  have hGl : G.length = D.synced := by rw [← hGe, List.length_take]; have := hD.synced; omega
  obtain ⟨n, hne⟩ : ∃ n : Int, (D.arms.length : Int) = n := ⟨_, rfl⟩
  rw [hGe, hne] at hs
  obtain ⟨gv, av, hs0⟩ := hs.swap.hk_open
  rw [hGl] at hs0
  obtain ⟨ga, gc, rfl, _, _, _⟩ := hs0.rot3.vec_rd
  obtain ⟨aa, ac, rfl, _, _, _⟩ := hs0.swap.vec_rd
  have hT0 := hs0.new #[.int .i64 2, .int .i64 O, .int .i64 N, .int .i64 M, .string DT] 83
  generalize hbt : w.heap.size = bt at hT0
  have hT := hT0.perm (B := F * vec 5 1 (.slice ga D.synced gc) D.synced (bvs G) * vec 5 1 (.slice aa D.bytes.length ac) D.bytes.length (bvs D.bytes) * blk bh [.slice ga D.synced gc, .slice aa D.bytes.length ac, .int .i64 n] 111 * blk bt [.int .i64 2, .int .i64 O, .int .i64 N, .int .i64 M, .string DT] 83 * dk b D) (by ac_rfl)
  have HE := Hid.mk' hE
  have HACT := Hid.mk' hACT
  have HGE := Hid.mk' hGe
  have HGL := Hid.mk' hGl
  have HNE := Hid.mk' hne
  have hb := hD.bytes
  clear hs hs0 hT0 hE hACT hGe hGl hne
  rw [HGE.out] at hG
  obtain ⟨m, hmm⟩ : ∃ m : Int, n - 1 = m := ⟨_, rfl⟩
  have hw : IntKind.i64.wrap (n - 1) = m := by rw [IntKind.wrap_i64]; have := HNE.out; omega
  have hm0 : (0 : Int) ≤ m := by have := HNE.out; omega
  have HNM := Hid.mk' (show (D2.arms.length : Int) = m by have := HNE.out; omega)
  clear hmm h3
  go_enter Tryd.func64, Tryd.ntmps64
  go_wp2_with fail
  refine (law12_act' HE.out hD (⟨2, O, N, M, DT⟩ : Stp) hS hm (b := b) (D := D) (F := F * vec 5 1 (.slice ga D.synced gc) D.synced (bvs G) * vec 5 1 (.slice aa D.bytes.length ac) D.bytes.length (bvs D.bytes) * blk bh [.slice ga D.synced gc, .slice aa D.bytes.length ac, .int .i64 n] 111 * blk bt [.int .i64 2, .int .i64 O, .int .i64 N, .int .i64 M, .string DT] 83) hT).mono ?_
  rintro e v1 ⟨v, rfl, a1, n1, hn1, rfl, hx⟩
  rw [HACT.out] at hx ⊢
  have hy := hx.new #[.slice a1 0 n1, .int .i64 0, .int .i64 10] 87
  generalize hb9 : v1.heap.size = b9 at hy
  have hA := hy.perm (B := F * vec 5 1 (.slice ga D.synced gc) D.synced (bvs G) * vec 5 1 (.slice aa D.bytes.length ac) D.bytes.length (bvs D.bytes) * dk b D2 * vec 5 1 (.slice a1 0 n1) 0 [] * blk bt [.int .i64 2, .int .i64 O, .int .i64 N, .int .i64 M, .string DT] 83 * blk b9 [.slice a1 0 n1, .int .i64 0, .int .i64 10] 87 * blk bh [.slice ga D.synced gc, .slice aa D.bytes.length ac, .int .i64 n] 111) (by ac_rfl)
  have q0 := hA.rot3.cell (i := 0) (v := .int .i64 2) rfl
  have q1 := hA.rot3.cell (i := 1) (v := .int .i64 O) rfl
  have q2 := hA.rot3.cell (i := 2) (v := .int .i64 N) rfl
  have q3 := hA.rot3.cell (i := 3) (v := .int .i64 M) rfl
  have q4 := hA.rot3.cell (i := 4) (v := .string DT) rfl
  have g0 := hA.cell (i := 0) (v := .slice ga D.synced gc) rfl
  have g1 := hA.cell (i := 1) (v := .slice aa D.bytes.length ac) rfl
  have g2 := hA.cell (i := 2) (v := .int .i64 n) rfl
  have f2 := hA.free 2
  clear hx hy hT hn1
  have hA2 := hA.store 2 (.int .i64 m)
  have hz0 := hA2.perm (B := F * dk b D2 * (vec 5 1 (.slice a1 0 n1) 0 [] * blk bt [.int .i64 2, .int .i64 O, .int .i64 N, .int .i64 M, .string DT] 83 * blk b9 [.slice a1 0 n1, .int .i64 0, .int .i64 10] 87) * vec 5 1 (.slice ga D.synced gc) D.synced (bvs G) * vec 5 1 (.slice aa D.bytes.length ac) D.bytes.length (bvs D.bytes) * blk bh [.slice ga D.synced gc, .slice aa D.bytes.length ac, .int .i64 m] 111) (by simp only [List.set_cons_succ, List.set_cons_zero]; ac_rfl)
  have hz1 := (Sat.hk_shut' HGL.out hz0).perm (B := F * (vec 5 1 (.slice a1 0 n1) 0 [] * blk bt [.int .i64 2, .int .i64 O, .int .i64 N, .int .i64 M, .string DT] 83 * blk b9 [.slice a1 0 n1, .int .i64 0, .int .i64 10] 87) * hk bh G D.bytes m * dk b D2) (by ac_rfl)
  clear hz0
  go_wp2_with (go_at_call 123; refine (held_fell HE.out hD2 hm2 ⟨#[]⟩ hb (by show D.bytes.length + 0 ≤ _; omega) hG (by show D2.bytes <+: D.bytes ++ []; rw [List.append_nil]; exact hB) hz1).mono ?_; rintro e w7 ⟨v, rfl, rfl, hz2⟩)
  go_ret
  refine Ret.mk ⟨rfl, ?_⟩
  have hz3 := (hz2.perm (B := F * hk bh D2.bytes D2.bytes m * dk b D2 * (vec 5 1 (.slice a1 0 n1) 0 [] * blk bt [.int .i64 2, .int .i64 O, .int .i64 N, .int .i64 M, .string DT] 83 * blk b9 [.slice a1 0 n1, .int .i64 0, .int .i64 10] 87)) (by ac_rfl)).drop
  rw [h1, HNM.out]
  exact hz3

set_option maxRecDepth 20000 in
set_option maxHeartbeats 6400000 in
theorem lasts_dying3 {w0 w : World} {F : HP} {b bh : Nat} {D D2 : Dk} {E : Nat → Addr} (hE : Errs w0 E) (hD : D.Ok) (hm : D.arms.length < 8796093022207) {O N M : Int} {DT : ByteArray} (hS : (⟨3, O, N, M, DT⟩ : Stp).Ok) {full : Bool} (hD2 : D2.Ok) (hm2 : D2.arms.length < 8796093022207) (hB : D2.bytes <+: D.bytes) (hG : D.bytes.take D.synced <+: D2.bytes) (h1 : D2.bytes.take D2.synced = D2.bytes) (h3 : (D2.arms.length : Int) + 1 = D.arms.length)
    (hACT : D.act ⟨3, O, N, M, DT⟩ = (⟨[], 0, 10⟩, D2))
    (hs : Sat w0 w (F * hk bh (D.bytes.take D.synced) D.bytes D.arms.length * dk b D)) :
    Calls Tryd.prog 64 #[.pointer (some ⟨bh, 0, none⟩), .pointer (some ⟨b, 0, none⟩), .agg #[.int .i64 3, .int .i64 O, .int .i64 N, .int .i64 M, .string DT], .bool false, .bool full] w (Ret fun v w' => v = .bool true ∧ Sat w0 w' (F * hk bh (D2.bytes.take D2.synced) D2.bytes D2.arms.length * dk b D2)) := by
  obtain ⟨G, hGe⟩ : ∃ G, D.bytes.take D.synced = G := ⟨_, rfl⟩
  have hGl : G.length = D.synced := by rw [← hGe, List.length_take]; have := hD.synced; omega
  obtain ⟨n, hne⟩ : ∃ n : Int, (D.arms.length : Int) = n := ⟨_, rfl⟩
  rw [hGe, hne] at hs
  obtain ⟨gv, av, hs0⟩ := hs.swap.hk_open
  rw [hGl] at hs0
  obtain ⟨ga, gc, rfl, _, _, _⟩ := hs0.rot3.vec_rd
  obtain ⟨aa, ac, rfl, _, _, _⟩ := hs0.swap.vec_rd
  have hT0 := hs0.new #[.int .i64 3, .int .i64 O, .int .i64 N, .int .i64 M, .string DT] 83
  generalize hbt : w.heap.size = bt at hT0
  have hT := hT0.perm (B := F * vec 5 1 (.slice ga D.synced gc) D.synced (bvs G) * vec 5 1 (.slice aa D.bytes.length ac) D.bytes.length (bvs D.bytes) * blk bh [.slice ga D.synced gc, .slice aa D.bytes.length ac, .int .i64 n] 111 * blk bt [.int .i64 3, .int .i64 O, .int .i64 N, .int .i64 M, .string DT] 83 * dk b D) (by ac_rfl)
  have HE := Hid.mk' hE
  have HACT := Hid.mk' hACT
  have HGE := Hid.mk' hGe
  have HGL := Hid.mk' hGl
  have HNE := Hid.mk' hne
  have hb := hD.bytes
  clear hs hs0 hT0 hE hACT hGe hGl hne
  rw [HGE.out] at hG
  obtain ⟨m, hmm⟩ : ∃ m : Int, n - 1 = m := ⟨_, rfl⟩
  have hw : IntKind.i64.wrap (n - 1) = m := by rw [IntKind.wrap_i64]; have := HNE.out; omega
  have hm0 : (0 : Int) ≤ m := by have := HNE.out; omega
  have HNM := Hid.mk' (show (D2.arms.length : Int) = m by have := HNE.out; omega)
  clear hmm h3
  go_enter Tryd.func64, Tryd.ntmps64
  go_wp2_with fail
  refine (law12_act' HE.out hD (⟨3, O, N, M, DT⟩ : Stp) hS hm (b := b) (D := D) (F := F * vec 5 1 (.slice ga D.synced gc) D.synced (bvs G) * vec 5 1 (.slice aa D.bytes.length ac) D.bytes.length (bvs D.bytes) * blk bh [.slice ga D.synced gc, .slice aa D.bytes.length ac, .int .i64 n] 111 * blk bt [.int .i64 3, .int .i64 O, .int .i64 N, .int .i64 M, .string DT] 83) hT).mono ?_
  rintro e v1 ⟨v, rfl, a1, n1, hn1, rfl, hx⟩
  rw [HACT.out] at hx ⊢
  have hy := hx.new #[.slice a1 0 n1, .int .i64 0, .int .i64 10] 87
  generalize hb9 : v1.heap.size = b9 at hy
  have hA := hy.perm (B := F * vec 5 1 (.slice ga D.synced gc) D.synced (bvs G) * vec 5 1 (.slice aa D.bytes.length ac) D.bytes.length (bvs D.bytes) * dk b D2 * vec 5 1 (.slice a1 0 n1) 0 [] * blk bt [.int .i64 3, .int .i64 O, .int .i64 N, .int .i64 M, .string DT] 83 * blk b9 [.slice a1 0 n1, .int .i64 0, .int .i64 10] 87 * blk bh [.slice ga D.synced gc, .slice aa D.bytes.length ac, .int .i64 n] 111) (by ac_rfl)
  have q0 := hA.rot3.cell (i := 0) (v := .int .i64 3) rfl
  have q1 := hA.rot3.cell (i := 1) (v := .int .i64 O) rfl
  have q2 := hA.rot3.cell (i := 2) (v := .int .i64 N) rfl
  have q3 := hA.rot3.cell (i := 3) (v := .int .i64 M) rfl
  have q4 := hA.rot3.cell (i := 4) (v := .string DT) rfl
  have g0 := hA.cell (i := 0) (v := .slice ga D.synced gc) rfl
  have g1 := hA.cell (i := 1) (v := .slice aa D.bytes.length ac) rfl
  have g2 := hA.cell (i := 2) (v := .int .i64 n) rfl
  have f2 := hA.free 2
  clear hx hy hT hn1
  have hA2 := hA.store 2 (.int .i64 m)
  have hz0 := hA2.perm (B := F * dk b D2 * (vec 5 1 (.slice a1 0 n1) 0 [] * blk bt [.int .i64 3, .int .i64 O, .int .i64 N, .int .i64 M, .string DT] 83 * blk b9 [.slice a1 0 n1, .int .i64 0, .int .i64 10] 87) * vec 5 1 (.slice ga D.synced gc) D.synced (bvs G) * vec 5 1 (.slice aa D.bytes.length ac) D.bytes.length (bvs D.bytes) * blk bh [.slice ga D.synced gc, .slice aa D.bytes.length ac, .int .i64 m] 111) (by simp only [List.set_cons_succ, List.set_cons_zero]; ac_rfl)
  have hz1 := (Sat.hk_shut' HGL.out hz0).perm (B := F * (vec 5 1 (.slice a1 0 n1) 0 [] * blk bt [.int .i64 3, .int .i64 O, .int .i64 N, .int .i64 M, .string DT] 83 * blk b9 [.slice a1 0 n1, .int .i64 0, .int .i64 10] 87) * hk bh G D.bytes m * dk b D2) (by ac_rfl)
  clear hz0
  go_wp2_with (go_at_call 123; refine (held_fell HE.out hD2 hm2 ⟨#[]⟩ hb (by show D.bytes.length + 0 ≤ _; omega) hG (by show D2.bytes <+: D.bytes ++ []; rw [List.append_nil]; exact hB) hz1).mono ?_; rintro e w7 ⟨v, rfl, rfl, hz2⟩)
  go_ret
  refine Ret.mk ⟨rfl, ?_⟩
  have hz3 := (hz2.perm (B := F * hk bh D2.bytes D2.bytes m * dk b D2 * (vec 5 1 (.slice a1 0 n1) 0 [] * blk bt [.int .i64 3, .int .i64 O, .int .i64 N, .int .i64 M, .string DT] 83 * blk b9 [.slice a1 0 n1, .int .i64 0, .int .i64 10] 87)) (by ac_rfl)).drop
  rw [h1, HNM.out]
  exact hz3

end Go.Proofs.YtjhlelcopofkkaaDoor
