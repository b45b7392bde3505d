/- The laws' own 'act': one call, by the account of what a disk holds. -/
import Derived.Test.YtjhlelcopofkkaaDoorStp
namespace Go.Proofs.YtjhlelcopofkkaaDoor
open Go.RowKit

set_option maxRecDepth 20000 in
set_option maxHeartbeats 12800000 in
theorem law12_act {w0 w : World} {F : HP} {b : Nat} {D : Dk} {E : Nat → Addr} (hE : Errs w0 E) (hD : D.Ok) (s : Stp) (hS : s.Ok) (hm : D.arms.length < 8796093022207) (hs : Sat w0 w (F * dk b D)) :
    Calls Tryd.prog 47 #[.pointer (some ⟨b, 0, none⟩), s.val] w (Ret fun v w' => ∃ u, v = said u (D.act s).1 ∧ Sat w0 w' (F * dk b (D.act s).2 * vec 5 1 u (D.act s).1.list.length (bvs (D.act s).1.list))) := by
  obtain ⟨kind, on, n, m, data⟩ := s
  have hE' := Hid.mk' hE
  clear hE
  have hs1 := ((hs.new #[.int .i64 kind, .int .i64 on, .int .i64 n, .int .i64 m, .string data] 83).new #[.slice none 0 0, .int .i64 0, .int .i64 0] 87).perm (B := F * blk w.heap.size [.int .i64 kind, .int .i64 on, .int .i64 n, .int .i64 m, .string data] 83 * blk (w.heap.size + 1) [.slice none 0 0, .int .i64 0, .int .i64 0] 87 * dk b D) (by rw [World.size_alloc]; ac_rfl)
  have hn1 : -9223372036854775808 ≤ n := hS.n1
  have hn2 : n ≤ 9223372036854775807 := hS.n2
  have hdz : data.size ≤ 140737488351232 := hS.data
  show Calls Tryd.prog 47 #[.pointer (some ⟨b, 0, none⟩), .agg #[.int .i64 kind, .int .i64 on, .int .i64 n, .int .i64 m, .string data]] w _
  clear hS
  have HS0 := Hid.mk' hs
  clear hs
  generalize hbw : w.heap.size = bw at *
  by_cases h1 : kind = 1
  · subst h1
    have HA := Hid.mk' (show D.act ⟨1, on, n, m, data⟩ = (⟨[], 0, (D.append data.data.toList).2⟩, (D.append data.data.toList).1) from rfl)
    go_enter Tryd.func47, Tryd.ntmps47
    go_wp2_with fail
    refine (kit_bytes data hdz).mono ?_
    rintro e w2 ⟨v, rfl, hx⟩
    have hs2 := hs1.glue hx
    obtain ⟨po, pc, rfl, hpc, _, hpn⟩ := hs2.vec_rd
    have hs3 := hs2.swap
    go_wp2_with fail
    refine (disk_append hE'.out data.data.toList po pc hpc hpn hdz (fun w' A h => (h.perm (B := F * blk bw [.int .i64 1, .int .i64 on, .int .i64 n, .int .i64 m, .string data] 83 * blk (bw + 1) [.slice none 0 0, .int .i64 0, .int .i64 0] 87 * A * vec 5 1 (.slice po data.size pc) data.size (bvs data.data.toList)) (by ac_rfl)).rd) hD hs3).mono ?_
    rintro e w3 ⟨v, rfl, rfl, hs4⟩
    have hc := Dk.append_err D data.data.toList
    generalize D.append data.data.toList = R at *
    have hs5 := hs4.rot3
    have HN := Hid.mk' (kit_num (hE'.out.of0 hs4) R.2 hc)
    have c0 := hs5.cell (i := 0) (v := .slice none 0 0) rfl
    have c1 := hs5.cell (i := 1) (v := .int .i64 0) rfl
    have c2 := hs5.cell (i := 2) (v := .int .i64 0) rfl
    have f0 := hs5.free 0
    have f1 := hs5.free 1
    have f2 := hs5.free 2
    go_wp2_with (go_at_call 26; refine HN.out.mono ?_; rintro e w4 ⟨rfl, rfl⟩)
    have hs6 := ((hs5.store 0 (.slice none 0 0)).store 1 (.int .i64 0)).store 2 (.int .i64 (R.2 : Int))
    simp only [List.set_cons_zero, List.set_cons_succ] at hs6
    have d0 := hs6.cell (i := 0) (v := .slice none 0 0) rfl
    have d1 := hs6.cell (i := 1) (v := .int .i64 0) rfl
    have d2 := hs6.cell (i := 2) (v := .int .i64 (R.2 : Int)) rfl
    clear c0 c1 c2 f0 f1 f2
    generalize ((w3.setCell ⟨bw + 1, 0, none⟩ (.slice none 0 0)).setCell ⟨bw + 1, 1, none⟩ (.int .i64 0)).setCell ⟨bw + 1, 2, none⟩ (.int .i64 (R.2 : Int)) = W at hs6 d0 d1 d2 ⊢
    refine bodyPost_ret (v := .agg #[.slice none 0 0, .int .i64 0, .int .i64 (R.2 : Int)]) (by simp [results, Tryd.results47, go_sem, d0, d1, d2]) rfl (Ret.mk ⟨.slice none 0 0, ?_⟩)
    rw [HA.out]
    refine ⟨rfl, ((hs6.perm (B := F * dk b (R.1) * (blk bw [.int .i64 1, .int .i64 on, .int .i64 n, .int .i64 m, .string data] 83 * vec 5 1 (.slice po data.size pc) data.size (bvs data.data.toList) * blk (bw + 1) [.slice none 0 0, .int .i64 0, .int .i64 (R.2 : Int)] 87)) (by ac_rfl)).drop).vec_nil _ _⟩
  have h1b : (kind == 1) = false := beq_eq_false_iff_ne.2 h1
  by_cases h2 : kind = 2
  · subst h2
    have HA := Hid.mk' (show D.act ⟨2, on, n, m, data⟩ = (⟨[], 0, (D.sync).2⟩, (D.sync).1) from rfl)
    go_enter Tryd.func47, Tryd.ntmps47
    go_wp2_with fail
    refine (disk_sync hE'.out hD hs1).mono ?_
    rintro e w3 ⟨v, rfl, rfl, hs4⟩
    have hc := Dk.sync_err D
    generalize D.sync = R at *
    have hs5 := hs4.swap
    have HN := Hid.mk' (kit_num (hE'.out.of0 hs4) R.2 hc)
    have c0 := hs5.cell (i := 0) (v := .slice none 0 0) rfl
    have c1 := hs5.cell (i := 1) (v := .int .i64 0) rfl
    have c2 := hs5.cell (i := 2) (v := .int .i64 0) rfl
    have f0 := hs5.free 0
    have f1 := hs5.free 1
    have f2 := hs5.free 2
    go_wp2_with (go_at_call 26; refine HN.out.mono ?_; rintro e w4 ⟨rfl, rfl⟩)
    have hs6 := ((hs5.store 0 (.slice none 0 0)).store 1 (.int .i64 0)).store 2 (.int .i64 (R.2 : Int))
    simp only [List.set_cons_zero, List.set_cons_succ] at hs6
    have d0 := hs6.cell (i := 0) (v := .slice none 0 0) rfl
    have d1 := hs6.cell (i := 1) (v := .int .i64 0) rfl
    have d2 := hs6.cell (i := 2) (v := .int .i64 (R.2 : Int)) rfl
    clear c0 c1 c2 f0 f1 f2
    generalize ((w3.setCell ⟨bw + 1, 0, none⟩ (.slice none 0 0)).setCell ⟨bw + 1, 1, none⟩ (.int .i64 0)).setCell ⟨bw + 1, 2, none⟩ (.int .i64 (R.2 : Int)) = W at hs6 d0 d1 d2 ⊢
    refine bodyPost_ret (v := .agg #[.slice none 0 0, .int .i64 0, .int .i64 (R.2 : Int)]) (by simp [results, Tryd.results47, go_sem, d0, d1, d2]) rfl (Ret.mk ⟨.slice none 0 0, ?_⟩)
    rw [HA.out]
    refine ⟨rfl, ((hs6.perm (B := F * dk b (R.1) * (blk bw [.int .i64 2, .int .i64 on, .int .i64 n, .int .i64 m, .string data] 83 * blk (bw + 1) [.slice none 0 0, .int .i64 0, .int .i64 (R.2 : Int)] 87)) (by ac_rfl)).drop).vec_nil _ _⟩
  have h2b : (kind == 2) = false := beq_eq_false_iff_ne.2 h2
  by_cases h3 : kind = 3
  · subst h3
    have HA := Hid.mk' (show D.act ⟨3, on, n, m, data⟩ = (⟨if (D.gate id).2 = 0 then (D.gate id).1.bytes else [], 0, (D.gate id).2⟩, (D.gate id).1) from rfl)
    go_enter Tryd.func47, Tryd.ntmps47
    go_wp2_with fail
    refine (disk_readAll hE'.out hD hs1).mono ?_
    rintro e w3 ⟨v, rfl, u, rfl, hs4⟩
    have hc := Dk.gate_err D
    generalize (if (D.gate id).2 = 0 then (D.gate id).1.bytes else []) = l at *
    generalize D.gate id = R at *
    obtain ⟨uo, uc, rfl, _, _, _⟩ := hs4.vec_rd
    have hs5 := hs4.rot3
    have HN := Hid.mk' (kit_num (hE'.out.of0 hs4) R.2 hc)
    have c0 := hs5.cell (i := 0) (v := .slice none 0 0) rfl
    have c1 := hs5.cell (i := 1) (v := .int .i64 0) rfl
    have c2 := hs5.cell (i := 2) (v := .int .i64 0) rfl
    have f0 := hs5.free 0
    have f1 := hs5.free 1
    have f2 := hs5.free 2
    go_wp2_with (go_at_call 26; refine HN.out.mono ?_; rintro e w4 ⟨rfl, rfl⟩)
    have hs6 := ((hs5.store 0 (.slice uo l.length uc)).store 1 (.int .i64 0)).store 2 (.int .i64 (R.2 : Int))
    simp only [List.set_cons_zero, List.set_cons_succ] at hs6
    have d0 := hs6.cell (i := 0) (v := .slice uo l.length uc) rfl
    have d1 := hs6.cell (i := 1) (v := .int .i64 0) rfl
    have d2 := hs6.cell (i := 2) (v := .int .i64 (R.2 : Int)) rfl
    clear c0 c1 c2 f0 f1 f2
    generalize ((w3.setCell ⟨bw + 1, 0, none⟩ (.slice uo l.length uc)).setCell ⟨bw + 1, 1, none⟩ (.int .i64 0)).setCell ⟨bw + 1, 2, none⟩ (.int .i64 (R.2 : Int)) = W at hs6 d0 d1 d2 ⊢
    refine bodyPost_ret (v := .agg #[.slice uo l.length uc, .int .i64 0, .int .i64 (R.2 : Int)]) (by simp [results, Tryd.results47, go_sem, d0, d1, d2]) rfl (Ret.mk ⟨.slice uo l.length uc, ?_⟩)
    rw [HA.out]
    refine ⟨rfl, (hs6.perm (B := F * dk b (R.1) * vec 5 1 (.slice uo l.length uc) l.length (bvs l) * (blk bw [.int .i64 3, .int .i64 on, .int .i64 n, .int .i64 m, .string data] 83 * blk (bw + 1) [.slice uo l.length uc, .int .i64 0, .int .i64 (R.2 : Int)] 87)) (by ac_rfl)).drop⟩
  have h3b : (kind == 3) = false := beq_eq_false_iff_ne.2 h3
  by_cases h4 : kind = 4
  · subst h4
    have HA := Hid.mk' (show D.act ⟨4, on, n, m, data⟩ = (⟨[], 0, (D.trunc n).2⟩, (D.trunc n).1) from rfl)
    go_enter Tryd.func47, Tryd.ntmps47
    go_wp2_with fail
    refine (disk_truncate hE'.out hD hs1 n).mono ?_
    rintro e w3 ⟨v, rfl, rfl, hs4⟩
    have hc := Dk.trunc_err D n
    generalize D.trunc n = R at *
    have hs5 := hs4.swap
    have HN := Hid.mk' (kit_num (hE'.out.of0 hs4) R.2 hc)
    have c0 := hs5.cell (i := 0) (v := .slice none 0 0) rfl
    have c1 := hs5.cell (i := 1) (v := .int .i64 0) rfl
    have c2 := hs5.cell (i := 2) (v := .int .i64 0) rfl
    have f0 := hs5.free 0
    have f1 := hs5.free 1
    have f2 := hs5.free 2
    go_wp2_with (go_at_call 26; refine HN.out.mono ?_; rintro e w4 ⟨rfl, rfl⟩)
    have hs6 := ((hs5.store 0 (.slice none 0 0)).store 1 (.int .i64 0)).store 2 (.int .i64 (R.2 : Int))
    simp only [List.set_cons_zero, List.set_cons_succ] at hs6
    have d0 := hs6.cell (i := 0) (v := .slice none 0 0) rfl
    have d1 := hs6.cell (i := 1) (v := .int .i64 0) rfl
    have d2 := hs6.cell (i := 2) (v := .int .i64 (R.2 : Int)) rfl
    clear c0 c1 c2 f0 f1 f2
    generalize ((w3.setCell ⟨bw + 1, 0, none⟩ (.slice none 0 0)).setCell ⟨bw + 1, 1, none⟩ (.int .i64 0)).setCell ⟨bw + 1, 2, none⟩ (.int .i64 (R.2 : Int)) = W at hs6 d0 d1 d2 ⊢
    refine bodyPost_ret (v := .agg #[.slice none 0 0, .int .i64 0, .int .i64 (R.2 : Int)]) (by simp [results, Tryd.results47, go_sem, d0, d1, d2]) rfl (Ret.mk ⟨.slice none 0 0, ?_⟩)
    rw [HA.out]
    refine ⟨rfl, ((hs6.perm (B := F * dk b (R.1) * (blk bw [.int .i64 4, .int .i64 on, .int .i64 n, .int .i64 m, .string data] 83 * blk (bw + 1) [.slice none 0 0, .int .i64 0, .int .i64 (R.2 : Int)] 87)) (by ac_rfl)).drop).vec_nil _ _⟩
  have h4b : (kind == 4) = false := beq_eq_false_iff_ne.2 h4
  by_cases h5 : kind = 5
  · subst h5
    have HA := Hid.mk' (show D.act ⟨5, on, n, m, data⟩ = (⟨[], 0, 0⟩, D.arm n m) from rfl)
    go_enter Tryd.func47, Tryd.ntmps47
    go_wp2_with fail
    refine (disk_arm hs1 n m hm).mono ?_
    rintro e w3 ⟨v, rfl, rfl, hs4⟩
    generalize D.arm n m = R at *
    have hs5 := hs4.swap
    have c0 := hs5.cell (i := 0) (v := .slice none 0 0) rfl
    have c1 := hs5.cell (i := 1) (v := .int .i64 0) rfl
    have c2 := hs5.cell (i := 2) (v := .int .i64 0) rfl
    have f0 := hs5.free 0
    have f1 := hs5.free 1
    have f2 := hs5.free 2
    go_wp2_with fail
    have hs6 := ((hs5.store 0 (.slice none 0 0)).store 1 (.int .i64 0)).store 2 (.int .i64 0)
    simp only [List.set_cons_zero, List.set_cons_succ] at hs6
    have d0 := hs6.cell (i := 0) (v := .slice none 0 0) rfl
    have d1 := hs6.cell (i := 1) (v := .int .i64 0) rfl
    have d2 := hs6.cell (i := 2) (v := .int .i64 0) rfl
    clear c0 c1 c2 f0 f1 f2
    generalize ((w3.setCell ⟨bw + 1, 0, none⟩ (.slice none 0 0)).setCell ⟨bw + 1, 1, none⟩ (.int .i64 0)).setCell ⟨bw + 1, 2, none⟩ (.int .i64 0) = W at hs6 d0 d1 d2 ⊢
    refine bodyPost_ret (v := .agg #[.slice none 0 0, .int .i64 0, .int .i64 0]) (by simp [results, Tryd.results47, go_sem, d0, d1, d2]) rfl (Ret.mk ⟨.slice none 0 0, ?_⟩)
    rw [HA.out]
    refine ⟨rfl, ((hs6.perm (B := F * dk b (R) * (blk bw [.int .i64 5, .int .i64 on, .int .i64 n, .int .i64 m, .string data] 83 * blk (bw + 1) [.slice none 0 0, .int .i64 0, .int .i64 0] 87)) (by ac_rfl)).drop).vec_nil _ _⟩
  have h5b : (kind == 5) = false := beq_eq_false_iff_ne.2 h5
  by_cases h6 : kind = 6
  · subst h6
    have HA := Hid.mk' (show D.act ⟨6, on, n, m, data⟩ = (⟨[], 0, 0⟩, D.crash n) from rfl)
    go_enter Tryd.func47, Tryd.ntmps47
    go_wp2_with fail
    refine (disk_crash hs1 hD n hn1 hn2).mono ?_
    rintro e w3 ⟨v, rfl, rfl, hs4⟩
    generalize D.crash n = R at *
    have hs5 := hs4.swap
    have c0 := hs5.cell (i := 0) (v := .slice none 0 0) rfl
    have c1 := hs5.cell (i := 1) (v := .int .i64 0) rfl
    have c2 := hs5.cell (i := 2) (v := .int .i64 0) rfl
    have f0 := hs5.free 0
    have f1 := hs5.free 1
    have f2 := hs5.free 2
    go_wp2_with fail
    have hs6 := ((hs5.store 0 (.slice none 0 0)).store 1 (.int .i64 0)).store 2 (.int .i64 0)
    simp only [List.set_cons_zero, List.set_cons_succ] at hs6
    have d0 := hs6.cell (i := 0) (v := .slice none 0 0) rfl
    have d1 := hs6.cell (i := 1) (v := .int .i64 0) rfl
    have d2 := hs6.cell (i := 2) (v := .int .i64 0) rfl
    clear c0 c1 c2 f0 f1 f2
    generalize ((w3.setCell ⟨bw + 1, 0, none⟩ (.slice none 0 0)).setCell ⟨bw + 1, 1, none⟩ (.int .i64 0)).setCell ⟨bw + 1, 2, none⟩ (.int .i64 0) = W at hs6 d0 d1 d2 ⊢
    refine bodyPost_ret (v := .agg #[.slice none 0 0, .int .i64 0, .int .i64 0]) (by simp [results, Tryd.results47, go_sem, d0, d1, d2]) rfl (Ret.mk ⟨.slice none 0 0, ?_⟩)
    rw [HA.out]
    refine ⟨rfl, ((hs6.perm (B := F * dk b (R) * (blk bw [.int .i64 6, .int .i64 on, .int .i64 n, .int .i64 m, .string data] 83 * blk (bw + 1) [.slice none 0 0, .int .i64 0, .int .i64 0] 87)) (by ac_rfl)).drop).vec_nil _ _⟩
  have h6b : (kind == 6) = false := beq_eq_false_iff_ne.2 h6
  by_cases h8 : kind = 8
  · subst h8
    have HA := Hid.mk' (show D.act ⟨8, on, n, m, data⟩ = (⟨[], 0, 0⟩, D.revive) from rfl)
    go_enter Tryd.func47, Tryd.ntmps47
    go_wp2_with fail
    refine (disk_revive hs1).mono ?_
    rintro e w3 ⟨v, rfl, rfl, hs4⟩
    generalize D.revive = R at *
    have hs5 := hs4.swap
    have c0 := hs5.cell (i := 0) (v := .slice none 0 0) rfl
    have c1 := hs5.cell (i := 1) (v := .int .i64 0) rfl
    have c2 := hs5.cell (i := 2) (v := .int .i64 0) rfl
    have f0 := hs5.free 0
    have f1 := hs5.free 1
    have f2 := hs5.free 2
    go_wp2_with fail
    have hs6 := ((hs5.store 0 (.slice none 0 0)).store 1 (.int .i64 0)).store 2 (.int .i64 0)
    simp only [List.set_cons_zero, List.set_cons_succ] at hs6
    have d0 := hs6.cell (i := 0) (v := .slice none 0 0) rfl
    have d1 := hs6.cell (i := 1) (v := .int .i64 0) rfl
    have d2 := hs6.cell (i := 2) (v := .int .i64 0) rfl
    clear c0 c1 c2 f0 f1 f2
    generalize ((w3.setCell ⟨bw + 1, 0, none⟩ (.slice none 0 0)).setCell ⟨bw + 1, 1, none⟩ (.int .i64 0)).setCell ⟨bw + 1, 2, none⟩ (.int .i64 0) = W at hs6 d0 d1 d2 ⊢
    refine bodyPost_ret (v := .agg #[.slice none 0 0, .int .i64 0, .int .i64 0]) (by simp [results, Tryd.results47, go_sem, d0, d1, d2]) rfl (Ret.mk ⟨.slice none 0 0, ?_⟩)
    rw [HA.out]
    refine ⟨rfl, ((hs6.perm (B := F * dk b (R) * (blk bw [.int .i64 8, .int .i64 on, .int .i64 n, .int .i64 m, .string data] 83 * blk (bw + 1) [.slice none 0 0, .int .i64 0, .int .i64 0] 87)) (by ac_rfl)).drop).vec_nil _ _⟩
  have h8b : (kind == 8) = false := beq_eq_false_iff_ne.2 h8
  by_cases h7 : kind = 7
  · subst h7
    have hdd := disk_dead hs1
    cases hd : D.dead with
    | true =>
      have HA := Hid.mk' (show D.act ⟨7, on, n, m, data⟩ = (⟨[], 1, 0⟩, D) by show ((⟨[], if D.dead = true then 1 else 0, 0⟩ : Said), D) = _; rw [hd]; rfl)
      rw [hd] at hdd
      have HDD := Hid.mk' hdd
      clear hdd hs1 hd
      go_enter Tryd.func47, Tryd.ntmps47
      go_wp2_with (go_at_call 53; refine HDD.out.mono ?_; rintro e w4 ⟨rfl, rfl⟩)
      have hs6 := ((HS0.out.new #[.int .i64 7, .int .i64 on, .int .i64 n, .int .i64 m, .string data] 83).new #[.slice none 0 0, .int .i64 1, .int .i64 0] 87)
      rw [World.size_alloc, hbw] at hs6
      have d0 := hs6.cell (i := 0) (v := .slice none 0 0) rfl
      have d1 := hs6.cell (i := 1) (v := .int .i64 1) rfl
      have d2 := hs6.cell (i := 2) (v := .int .i64 0) rfl
      generalize (w.alloc (.cells #[.int .i64 7, .int .i64 on, .int .i64 n, .int .i64 m, .string data] 83)).alloc (.cells #[.slice none 0 0, .int .i64 1, .int .i64 0] 87) = W at hs6 d0 d1 d2 ⊢
      refine bodyPost_ret (v := .agg #[.slice none 0 0, .int .i64 1, .int .i64 0]) (by simp [results, Tryd.results47, go_sem, d0, d1, d2]) rfl (Ret.mk ⟨.slice none 0 0, ?_⟩)
      rw [HA.out]
      refine ⟨rfl, hs6.drop.drop.vec_nil _ _⟩
    | false =>
      have HA := Hid.mk' (show D.act ⟨7, on, n, m, data⟩ = (⟨[], 0, 0⟩, D) by show ((⟨[], if D.dead = true then 1 else 0, 0⟩ : Said), D) = _; rw [hd]; rfl)
      rw [hd] at hdd
      have HDD := Hid.mk' hdd
      clear hdd hs1 hd
      go_enter Tryd.func47, Tryd.ntmps47
      go_wp2_with (go_at_call 53; refine HDD.out.mono ?_; rintro e w4 ⟨rfl, rfl⟩)
      have hs6 := ((HS0.out.new #[.int .i64 7, .int .i64 on, .int .i64 n, .int .i64 m, .string data] 83).new #[.slice none 0 0, .int .i64 0, .int .i64 0] 87)
      rw [World.size_alloc, hbw] at hs6
      have d0 := hs6.cell (i := 0) (v := .slice none 0 0) rfl
      have d1 := hs6.cell (i := 1) (v := .int .i64 0) rfl
      have d2 := hs6.cell (i := 2) (v := .int .i64 0) rfl
      generalize (w.alloc (.cells #[.int .i64 7, .int .i64 on, .int .i64 n, .int .i64 m, .string data] 83)).alloc (.cells #[.slice none 0 0, .int .i64 0, .int .i64 0] 87) = W at hs6 d0 d1 d2 ⊢
      refine bodyPost_ret (v := .agg #[.slice none 0 0, .int .i64 0, .int .i64 0]) (by simp [results, Tryd.results47, go_sem, d0, d1, d2]) rfl (Ret.mk ⟨.slice none 0 0, ?_⟩)
      rw [HA.out]
      refine ⟨rfl, hs6.drop.drop.vec_nil _ _⟩
  have h7b : (kind == 7) = false := beq_eq_false_iff_ne.2 h7
  by_cases h9 : kind = 9
  · subst h9
    have HA := Hid.mk' (show D.act ⟨9, on, n, m, data⟩ = (⟨D.bytes, D.synced, 0⟩, D) from rfl)
    go_enter Tryd.func47, Tryd.ntmps47
    go_wp2_with fail
    refine (disk_look hD hs1).mono ?_
    rintro e w3 ⟨v, rfl, u, rfl, hs4⟩
    obtain ⟨uo, uc, rfl, _, _, _⟩ := hs4.vec_rd
    have hs5 := hs4.rot3
    have c0 := hs5.cell (i := 0) (v := .slice none 0 0) rfl
    have c1 := hs5.cell (i := 1) (v := .int .i64 0) rfl
    have c2 := hs5.cell (i := 2) (v := .int .i64 0) rfl
    have f0 := hs5.free 0
    have f1 := hs5.free 1
    have f2 := hs5.free 2
    go_wp2_with fail
    have hs6 := ((hs5.store 0 (.slice uo D.bytes.length uc)).store 1 (.int .i64 D.synced)).store 2 (.int .i64 0)
    simp only [List.set_cons_zero, List.set_cons_succ] at hs6
    have d0 := hs6.cell (i := 0) (v := .slice uo D.bytes.length uc) rfl
    have d1 := hs6.cell (i := 1) (v := .int .i64 D.synced) rfl
    have d2 := hs6.cell (i := 2) (v := .int .i64 0) rfl
    clear c0 c1 c2 f0 f1 f2
    generalize ((w3.setCell ⟨bw + 1, 0, none⟩ (.slice uo D.bytes.length uc)).setCell ⟨bw + 1, 1, none⟩ (.int .i64 D.synced)).setCell ⟨bw + 1, 2, none⟩ (.int .i64 0) = W at hs6 d0 d1 d2 ⊢
    refine bodyPost_ret (v := .agg #[.slice uo D.bytes.length uc, .int .i64 D.synced, .int .i64 0]) (by simp [results, Tryd.results47, go_sem, d0, d1, d2]) rfl (Ret.mk ⟨.slice uo D.bytes.length uc, ?_⟩)
    rw [HA.out]
    refine ⟨rfl, (hs6.perm (B := F * dk b (D) * vec 5 1 (.slice uo D.bytes.length uc) D.bytes.length (bvs D.bytes) * (blk bw [.int .i64 9, .int .i64 on, .int .i64 n, .int .i64 m, .string data] 83 * blk (bw + 1) [.slice uo D.bytes.length uc, .int .i64 D.synced, .int .i64 0] 87)) (by ac_rfl)).drop⟩
  have h9b : (kind == 9) = false := beq_eq_false_iff_ne.2 h9
  have HA := Hid.mk' (show D.act ⟨kind, on, n, m, data⟩ = (⟨[], 0, 0⟩, D) by unfold Dk.act; simp only [h1, h2, h3, h4, h5, h6, h7, h8, h9, if_false])
  clear h1 h2 h3 h4 h5 h6 h7 h8 h9
  clear hs1
  go_enter Tryd.func47, Tryd.ntmps47
  go_wp2_with fail
  have hs6 := ((HS0.out.new #[.int .i64 kind, .int .i64 on, .int .i64 n, .int .i64 m, .string data] 83).new #[.slice none 0 0, .int .i64 0, .int .i64 0] 87)
  rw [World.size_alloc, hbw] at hs6
  have d0 := hs6.cell (i := 0) (v := .slice none 0 0) rfl
  have d1 := hs6.cell (i := 1) (v := .int .i64 0) rfl
  have d2 := hs6.cell (i := 2) (v := .int .i64 0) rfl
  generalize (w.alloc (.cells #[.int .i64 kind, .int .i64 on, .int .i64 n, .int .i64 m, .string data] 83)).alloc (.cells #[.slice none 0 0, .int .i64 0, .int .i64 0] 87) = W at hs6 d0 d1 d2 ⊢
  refine bodyPost_ret (v := .agg #[.slice none 0 0, .int .i64 0, .int .i64 0]) (by simp [results, Tryd.results47, go_sem, d0, d1, d2]) rfl (Ret.mk ⟨.slice none 0 0, ?_⟩)
  rw [HA.out]
  refine ⟨rfl, hs6.drop.drop.vec_nil _ _⟩
end Go.Proofs.YtjhlelcopofkkaaDoor
