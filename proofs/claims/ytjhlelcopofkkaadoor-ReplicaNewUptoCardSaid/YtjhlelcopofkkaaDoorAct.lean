/- Steps of the laws of layer 12, in plain Lean. · The laws' own 'act': one call, by the account of what a disk holds. · The laws' own 'told': one call, by the account of what a disk holds. · The laws of layer 12: when two answers are the same; the step that looks; lists of steps that are read. -/
import Derived.Test.YtjhlelcopofkkaaDoorR12

/-! Stp -/
namespace Go.Proofs.YtjhlelcopofkkaaDoor
open Go.RowKit

structure Stp where
  kind : Int
  on : Int
  n : Int
  m : Int
  data : ByteArray
def Stp.val (s : Stp) : Value := .agg #[.int .i64 s.kind, .int .i64 s.on, .int .i64 s.n, .int .i64 s.m, .string s.data]
structure Stp.Ok (s : Stp) : Prop where
  n1 : -9223372036854775808 ≤ s.n
  n2 : s.n ≤ 9223372036854775807
  m1 : -9223372036854775808 ≤ s.m
  m2 : s.m ≤ 9223372036854775807
  data : s.data.size ≤ 140737488351232
/-- What a call has answered. -/
structure Said where
  list : List UInt8
  num : Int
  err : Nat
/-- One call. -/
def Dk.act (D : Dk) (s : Stp) : Said × Dk :=
  if s.kind = 1 then (⟨[], 0, (D.append s.data.data.toList).2⟩, (D.append s.data.data.toList).1)
  else if s.kind = 2 then (⟨[], 0, D.sync.2⟩, D.sync.1)
  else if s.kind = 3 then (⟨if (D.gate id).2 = 0 then (D.gate id).1.bytes else [], 0, (D.gate id).2⟩, (D.gate id).1)
  else if s.kind = 4 then (⟨[], 0, (D.trunc s.n).2⟩, (D.trunc s.n).1)
  else if s.kind = 5 then (⟨[], 0, 0⟩, D.arm s.n s.m)
  else if s.kind = 6 then (⟨[], 0, 0⟩, D.crash s.n)
  else if s.kind = 7 then (⟨[], if D.dead = true then 1 else 0, 0⟩, D)
  else if s.kind = 8 then (⟨[], 0, 0⟩, D.revive)
  else if s.kind = 9 then (⟨D.bytes, D.synced, 0⟩, D)
  else (⟨[], 0, 0⟩, D)
theorem Dk.Ok.act {D : Dk} (h : D.Ok) {s : Stp} (hs : s.Ok) : (D.act s).2.Ok := by
  unfold Dk.act
  split
  · exact h.append _
  split
  · exact h.sync
  split
  · exact h.gate (fun _ h => h)
  split
  · exact h.trunc _
  split
  · exact h.arm hs.n2 hs.m1 hs.m2
  split
  · exact h.crash _
  split
  · exact h
  split
  · exact h.revive
  split
  · exact h
  · exact h

theorem Dk.append_err (D : Dk) (p : List UInt8) : (D.append p).2 ≤ 13 := by
  have := D.gate_cases (·.putp p)
  unfold Dk.append
  split
  · split <;> simp
  · omega
theorem Dk.sync_err (D : Dk) : D.sync.2 ≤ 13 := by
  have := D.gate_cases id
  unfold Dk.sync
  split
  · simp
  · omega
theorem Dk.gate_err (D : Dk) : (D.gate id).2 ≤ 13 := by
  have := D.gate_cases id
  omega
theorem Dk.trunc_err (D : Dk) (n : Int) : (D.trunc n).2 ≤ 13 := by
  have := D.gate_cases id
  unfold Dk.trunc
  split
  · simp
  · split
    · simp
    · omega

/-- An answer as a value, and its list. -/
def said (u : Value) (S : Said) : Value := .agg #[u, .int .i64 S.num, .int .i64 (S.err : Int)]

end Go.Proofs.YtjhlelcopofkkaaDoor

/-! ActW -/
namespace Go.Proofs.YtjhlelcopofkkaaDoor
open Go.RowKit

set_option maxRecDepth 20000 in
set_option maxHeartbeats 12800000 in
theorem law12_act {w0 w : World} {F : HP} {b : Nat} {D : Dk} {E : Nat → Addr} (hE : Errs w0 E) (hD : D.Ok) (s : Stp) (hS : s.Ok) (hm : D.arms.length < 8796093022207) (hs : Sat w0 w (F * dk b D)) :
    Calls Tryd.prog 47 #[.pointer (some ⟨b, 0, none⟩), s.val] w (Ret fun v w' => ∃ u, v = said u (D.act s).1 ∧ Sat w0 w' (F * dk b (D.act s).2 * vec 5 1 u (D.act s).1.list.length (bvs (D.act s).1.list))) := by
  obtain ⟨kind, on, n, m, data⟩ := s
  have hE' := Hid.mk' hE
  clear hE
  have hs1 := ((hs.new #[.int .i64 kind, .int .i64 on, .int .i64 n, .int .i64 m, .string data] 83).new #[.slice none 0 0, .int .i64 0, .int .i64 0] 87).perm (B := F * blk w.heap.size [.int .i64 kind, .int .i64 on, .int .i64 n, .int .i64 m, .string data] 83 * blk (w.heap.size + 1) [.slice none 0 0, .int .i64 0, .int .i64 0] 87 * dk b D) (by rw [World.size_alloc]; ac_rfl)
  have hn1 : -9223372036854775808 ≤ n := hS.n1
  have hn2 : n ≤ 9223372036854775807 := hS.n2
  have hdz : data.size ≤ 140737488351232 := hS.data
  show Calls Tryd.prog 47 #[.pointer (some ⟨b, 0, none⟩), .agg #[.int .i64 kind, .int .i64 on, .int .i64 n, .int .i64 m, .string data]] w _
  clear hS
  have HS0 := Hid.mk' hs
  clear hs
  generalize hbw : w.heap.size = bw at *
  by_cases h1 : kind = 1
  · subst h1
    have HA := Hid.mk' (show D.act ⟨1, on, n, m, data⟩ = (⟨[], 0, (D.append data.data.toList).2⟩, (D.append data.data.toList).1) from rfl)
    go_enter Tryd.func47, Tryd.ntmps47
    go_wp2_with fail
    refine (kit_bytes data hdz).mono ?_
    rintro e w2 ⟨v, rfl, hx⟩
    have hs2 := hs1.glue hx
    obtain ⟨po, pc, rfl, hpc, _, hpn⟩ := hs2.vec_rd
    have hs3 := hs2.swap
    go_wp2_with fail
    refine (disk_append hE'.out data.data.toList po pc hpc hpn hdz (fun w' A h => (h.perm (B := F * blk bw [.int .i64 1, .int .i64 on, .int .i64 n, .int .i64 m, .string data] 83 * blk (bw + 1) [.slice none 0 0, .int .i64 0, .int .i64 0] 87 * A * vec 5 1 (.slice po data.size pc) data.size (bvs data.data.toList)) (by ac_rfl)).rd) hD hs3).mono ?_
    rintro e w3 ⟨v, rfl, rfl, hs4⟩
    have hc := Dk.append_err D data.data.toList
    generalize D.append data.data.toList = R at *
    have hs5 := hs4.rot3
    have HN := Hid.mk' (kit_num (hE'.out.of0 hs4) R.2 hc)
    have c0 := hs5.cell (i := 0) (v := .slice none 0 0) rfl
    have c1 := hs5.cell (i := 1) (v := .int .i64 0) rfl
    have c2 := hs5.cell (i := 2) (v := .int .i64 0) rfl
    have f0 := hs5.free 0
    have f1 := hs5.free 1
    have f2 := hs5.free 2
    go_wp2_with (go_at_call 26; refine HN.out.mono ?_; rintro e w4 ⟨rfl, rfl⟩)
    have hs6 := ((hs5.store 0 (.slice none 0 0)).store 1 (.int .i64 0)).store 2 (.int .i64 (R.2 : Int))
    simp only [List.set_cons_zero, List.set_cons_succ] at hs6
    have d0 := hs6.cell (i := 0) (v := .slice none 0 0) rfl
    have d1 := hs6.cell (i := 1) (v := .int .i64 0) rfl
    have d2 := hs6.cell (i := 2) (v := .int .i64 (R.2 : Int)) rfl
    clear c0 c1 c2 f0 f1 f2
    generalize ((w3.setCell ⟨bw + 1, 0, none⟩ (.slice none 0 0)).setCell ⟨bw + 1, 1, none⟩ (.int .i64 0)).setCell ⟨bw + 1, 2, none⟩ (.int .i64 (R.2 : Int)) = W at hs6 d0 d1 d2 ⊢
    refine bodyPost_ret (v := .agg #[.slice none 0 0, .int .i64 0, .int .i64 (R.2 : Int)]) (by simp [results, Tryd.results47, go_sem, d0, d1, d2]) rfl (Ret.mk ⟨.slice none 0 0, ?_⟩)
    rw [HA.out]
    refine ⟨rfl, ((hs6.perm (B := F * dk b (R.1) * (blk bw [.int .i64 1, .int .i64 on, .int .i64 n, .int .i64 m, .string data] 83 * vec 5 1 (.slice po data.size pc) data.size (bvs data.data.toList) * blk (bw + 1) [.slice none 0 0, .int .i64 0, .int .i64 (R.2 : Int)] 87)) (by ac_rfl)).drop).vec_nil _ _⟩
  have h1b : (kind == 1) = false := beq_eq_false_iff_ne.2 h1
  by_cases h2 : kind = 2
  · subst h2
    have HA := Hid.mk' (show D.act ⟨2, on, n, m, data⟩ = (⟨[], 0, (D.sync).2⟩, (D.sync).1) from rfl)
    go_enter Tryd.func47, Tryd.ntmps47
    go_wp2_with fail
    refine (disk_sync hE'.out hD hs1).mono ?_
    rintro e w3 ⟨v, rfl, rfl, hs4⟩
    have hc := Dk.sync_err D
    generalize D.sync = R at *
    have hs5 := hs4.swap
    have HN := Hid.mk' (kit_num (hE'.out.of0 hs4) R.2 hc)
    have c0 := hs5.cell (i := 0) (v := .slice none 0 0) rfl
    have c1 := hs5.cell (i := 1) (v := .int .i64 0) rfl
    have c2 := hs5.cell (i := 2) (v := .int .i64 0) rfl
    have f0 := hs5.free 0
    have f1 := hs5.free 1
    have f2 := hs5.free 2
    go_wp2_with (go_at_call 26; refine HN.out.mono ?_; rintro e w4 ⟨rfl, rfl⟩)
    have hs6 := ((hs5.store 0 (.slice none 0 0)).store 1 (.int .i64 0)).store 2 (.int .i64 (R.2 : Int))
    simp only [List.set_cons_zero, List.set_cons_succ] at hs6
    have d0 := hs6.cell (i := 0) (v := .slice none 0 0) rfl
    have d1 := hs6.cell (i := 1) (v := .int .i64 0) rfl
    have d2 := hs6.cell (i := 2) (v := .int .i64 (R.2 : Int)) rfl
    clear c0 c1 c2 f0 f1 f2
    generalize ((w3.setCell ⟨bw + 1, 0, none⟩ (.slice none 0 0)).setCell ⟨bw + 1, 1, none⟩ (.int .i64 0)).setCell ⟨bw + 1, 2, none⟩ (.int .i64 (R.2 : Int)) = W at hs6 d0 d1 d2 ⊢
    refine bodyPost_ret (v := .agg #[.slice none 0 0, .int .i64 0, .int .i64 (R.2 : Int)]) (by simp [results, Tryd.results47, go_sem, d0, d1, d2]) rfl (Ret.mk ⟨.slice none 0 0, ?_⟩)
    rw [HA.out]
    refine ⟨rfl, ((hs6.perm (B := F * dk b (R.1) * (blk bw [.int .i64 2, .int .i64 on, .int .i64 n, .int .i64 m, .string data] 83 * blk (bw + 1) [.slice none 0 0, .int .i64 0, .int .i64 (R.2 : Int)] 87)) (by ac_rfl)).drop).vec_nil _ _⟩
  have h2b : (kind == 2) = false := beq_eq_false_iff_ne.2 h2
  by_cases h3 : kind = 3
  · subst h3
    have HA := Hid.mk' (show D.act ⟨3, on, n, m, data⟩ = (⟨if (D.gate id).2 = 0 then (D.gate id).1.bytes else [], 0, (D.gate id).2⟩, (D.gate id).1) from rfl)
    go_enter Tryd.func47, Tryd.ntmps47
    go_wp2_with fail
    refine (disk_readAll hE'.out hD hs1).mono ?_
    rintro e w3 ⟨v, rfl, u, rfl, hs4⟩
    have hc := Dk.gate_err D
    generalize (if (D.gate id).2 = 0 then (D.gate id).1.bytes else []) = l at *
    generalize D.gate id = R at *
    obtain ⟨uo, uc, rfl, _, _, _⟩ := hs4.vec_rd
    have hs5 := hs4.rot3
    have HN := Hid.mk' (kit_num (hE'.out.of0 hs4) R.2 hc)
    have c0 := hs5.cell (i := 0) (v := .slice none 0 0) rfl
    have c1 := hs5.cell (i := 1) (v := .int .i64 0) rfl
    have c2 := hs5.cell (i := 2) (v := .int .i64 0) rfl
    have f0 := hs5.free 0
    have f1 := hs5.free 1
    have f2 := hs5.free 2
    go_wp2_with (go_at_call 26; refine HN.out.mono ?_; rintro e w4 ⟨rfl, rfl⟩)
    have hs6 := ((hs5.store 0 (.slice uo l.length uc)).store 1 (.int .i64 0)).store 2 (.int .i64 (R.2 : Int))
    simp only [List.set_cons_zero, List.set_cons_succ] at hs6
    have d0 := hs6.cell (i := 0) (v := .slice uo l.length uc) rfl
    have d1 := hs6.cell (i := 1) (v := .int .i64 0) rfl
    have d2 := hs6.cell (i := 2) (v := .int .i64 (R.2 : Int)) rfl
    clear c0 c1 c2 f0 f1 f2
    generalize ((w3.setCell ⟨bw + 1, 0, none⟩ (.slice uo l.length uc)).setCell ⟨bw + 1, 1, none⟩ (.int .i64 0)).setCell ⟨bw + 1, 2, none⟩ (.int .i64 (R.2 : Int)) = W at hs6 d0 d1 d2 ⊢
    refine bodyPost_ret (v := .agg #[.slice uo l.length uc, .int .i64 0, .int .i64 (R.2 : Int)]) (by simp [results, Tryd.results47, go_sem, d0, d1, d2]) rfl (Ret.mk ⟨.slice uo l.length uc, ?_⟩)
    rw [HA.out]
    refine ⟨rfl, (hs6.perm (B := F * dk b (R.1) * vec 5 1 (.slice uo l.length uc) l.length (bvs l) * (blk bw [.int .i64 3, .int .i64 on, .int .i64 n, .int .i64 m, .string data] 83 * blk (bw + 1) [.slice uo l.length uc, .int .i64 0, .int .i64 (R.2 : Int)] 87)) (by ac_rfl)).drop⟩
  have h3b : (kind == 3) = false := beq_eq_false_iff_ne.2 h3
  by_cases h4 : kind = 4
  · subst h4
    have HA := Hid.mk' (show D.act ⟨4, on, n, m, data⟩ = (⟨[], 0, (D.trunc n).2⟩, (D.trunc n).1) from rfl)
    go_enter Tryd.func47, Tryd.ntmps47
    go_wp2_with fail
    refine (disk_truncate hE'.out hD hs1 n).mono ?_
    rintro e w3 ⟨v, rfl, rfl, hs4⟩
    have hc := Dk.trunc_err D n
    generalize D.trunc n = R at *
    have hs5 := hs4.swap
    have HN := Hid.mk' (kit_num (hE'.out.of0 hs4) R.2 hc)
    have c0 := hs5.cell (i := 0) (v := .slice none 0 0) rfl
    have c1 := hs5.cell (i := 1) (v := .int .i64 0) rfl
    have c2 := hs5.cell (i := 2) (v := .int .i64 0) rfl
    have f0 := hs5.free 0
    have f1 := hs5.free 1
    have f2 := hs5.free 2
    go_wp2_with (go_at_call 26; refine HN.out.mono ?_; rintro e w4 ⟨rfl, rfl⟩)
    have hs6 := ((hs5.store 0 (.slice none 0 0)).store 1 (.int .i64 0)).store 2 (.int .i64 (R.2 : Int))
    simp only [List.set_cons_zero, List.set_cons_succ] at hs6
    have d0 := hs6.cell (i := 0) (v := .slice none 0 0) rfl
    have d1 := hs6.cell (i := 1) (v := .int .i64 0) rfl
    have d2 := hs6.cell (i := 2) (v := .int .i64 (R.2 : Int)) rfl
    clear c0 c1 c2 f0 f1 f2
    generalize ((w3.setCell ⟨bw + 1, 0, none⟩ (.slice none 0 0)).setCell ⟨bw + 1, 1, none⟩ (.int .i64 0)).setCell ⟨bw + 1, 2, none⟩ (.int .i64 (R.2 : Int)) = W at hs6 d0 d1 d2 ⊢
    refine bodyPost_ret (v := .agg #[.slice none 0 0, .int .i64 0, .int .i64 (R.2 : Int)]) (by simp [results, Tryd.results47, go_sem, d0, d1, d2]) rfl (Ret.mk ⟨.slice none 0 0, ?_⟩)
    rw [HA.out]
    refine ⟨rfl, ((hs6.perm (B := F * dk b (R.1) * (blk bw [.int .i64 4, .int .i64 on, .int .i64 n, .int .i64 m, .string data] 83 * blk (bw + 1) [.slice none 0 0, .int .i64 0, .int .i64 (R.2 : Int)] 87)) (by ac_rfl)).drop).vec_nil _ _⟩
  have h4b : (kind == 4) = false := beq_eq_false_iff_ne.2 h4
  by_cases h5 : kind = 5
  · subst h5
    have HA := Hid.mk' (show D.act ⟨5, on, n, m, data⟩ = (⟨[], 0, 0⟩, D.arm n m) from rfl)
    go_enter Tryd.func47, Tryd.ntmps47
    go_wp2_with fail
    refine (disk_arm hs1 n m hm).mono ?_
    rintro e w3 ⟨v, rfl, rfl, hs4⟩
    generalize D.arm n m = R at *
    have hs5 := hs4.swap
    have c0 := hs5.cell (i := 0) (v := .slice none 0 0) rfl
    have c1 := hs5.cell (i := 1) (v := .int .i64 0) rfl
    have c2 := hs5.cell (i := 2) (v := .int .i64 0) rfl
    have f0 := hs5.free 0
    have f1 := hs5.free 1
    have f2 := hs5.free 2
    go_wp2_with fail
    have hs6 := ((hs5.store 0 (.slice none 0 0)).store 1 (.int .i64 0)).store 2 (.int .i64 0)
    simp only [List.set_cons_zero, List.set_cons_succ] at hs6
    have d0 := hs6.cell (i := 0) (v := .slice none 0 0) rfl
    have d1 := hs6.cell (i := 1) (v := .int .i64 0) rfl
    have d2 := hs6.cell (i := 2) (v := .int .i64 0) rfl
    clear c0 c1 c2 f0 f1 f2
    generalize ((w3.setCell ⟨bw + 1, 0, none⟩ (.slice none 0 0)).setCell ⟨bw + 1, 1, none⟩ (.int .i64 0)).setCell ⟨bw + 1, 2, none⟩ (.int .i64 0) = W at hs6 d0 d1 d2 ⊢
    refine bodyPost_ret (v := .agg #[.slice none 0 0, .int .i64 0, .int .i64 0]) (by simp [results, Tryd.results47, go_sem, d0, d1, d2]) rfl (Ret.mk ⟨.slice none 0 0, ?_⟩)
    rw [HA.out]
    refine ⟨rfl, ((hs6.perm (B := F * dk b (R) * (blk bw [.int .i64 5, .int .i64 on, .int .i64 n, .int .i64 m, .string data] 83 * blk (bw + 1) [.slice none 0 0, .int .i64 0, .int .i64 0] 87)) (by ac_rfl)).drop).vec_nil _ _⟩
  have h5b : (kind == 5) = false := beq_eq_false_iff_ne.2 h5
  by_cases h6 : kind = 6
  · subst h6
    have HA := Hid.mk' (show D.act ⟨6, on, n, m, data⟩ = (⟨[], 0, 0⟩, D.crash n) from rfl)
    go_enter Tryd.func47, Tryd.ntmps47
    go_wp2_with fail
    refine (disk_crash hs1 hD n hn1 hn2).mono ?_
    rintro e w3 ⟨v, rfl, rfl, hs4⟩
    generalize D.crash n = R at *
    have hs5 := hs4.swap
    have c0 := hs5.cell (i := 0) (v := .slice none 0 0) rfl
    have c1 := hs5.cell (i := 1) (v := .int .i64 0) rfl
    have c2 := hs5.cell (i := 2) (v := .int .i64 0) rfl
    have f0 := hs5.free 0
    have f1 := hs5.free 1
    have f2 := hs5.free 2
    go_wp2_with fail
    have hs6 := ((hs5.store 0 (.slice none 0 0)).store 1 (.int .i64 0)).store 2 (.int .i64 0)
    simp only [List.set_cons_zero, List.set_cons_succ] at hs6
    have d0 := hs6.cell (i := 0) (v := .slice none 0 0) rfl
    have d1 := hs6.cell (i := 1) (v := .int .i64 0) rfl
    have d2 := hs6.cell (i := 2) (v := .int .i64 0) rfl
    clear c0 c1 c2 f0 f1 f2
    generalize ((w3.setCell ⟨bw + 1, 0, none⟩ (.slice none 0 0)).setCell ⟨bw + 1, 1, none⟩ (.int .i64 0)).setCell ⟨bw + 1, 2, none⟩ (.int .i64 0) = W at hs6 d0 d1 d2 ⊢
    refine bodyPost_ret (v := .agg #[.slice none 0 0, .int .i64 0, .int .i64 0]) (by simp [results, Tryd.results47, go_sem, d0, d1, d2]) rfl (Ret.mk ⟨.slice none 0 0, ?_⟩)
    rw [HA.out]
    refine ⟨rfl, ((hs6.perm (B := F * dk b (R) * (blk bw [.int .i64 6, .int .i64 on, .int .i64 n, .int .i64 m, .string data] 83 * blk (bw + 1) [.slice none 0 0, .int .i64 0, .int .i64 0] 87)) (by ac_rfl)).drop).vec_nil _ _⟩
  have h6b : (kind == 6) = false := beq_eq_false_iff_ne.2 h6
  by_cases h8 : kind = 8
  · subst h8
    have HA := Hid.mk' (show D.act ⟨8, on, n, m, data⟩ = (⟨[], 0, 0⟩, D.revive) from rfl)
    go_enter Tryd.func47, Tryd.ntmps47
    go_wp2_with fail
    refine (disk_revive hs1).mono ?_
    rintro e w3 ⟨v, rfl, rfl, hs4⟩
    generalize D.revive = R at *
    have hs5 := hs4.swap
    have c0 := hs5.cell (i := 0) (v := .slice none 0 0) rfl
    have c1 := hs5.cell (i := 1) (v := .int .i64 0) rfl
    have c2 := hs5.cell (i := 2) (v := .int .i64 0) rfl
    have f0 := hs5.free 0
    have f1 := hs5.free 1
    have f2 := hs5.free 2
    go_wp2_with fail
    have hs6 := ((hs5.store 0 (.slice none 0 0)).store 1 (.int .i64 0)).store 2 (.int .i64 0)
    simp only [List.set_cons_zero, List.set_cons_succ] at hs6
    have d0 := hs6.cell (i := 0) (v := .slice none 0 0) rfl
    have d1 := hs6.cell (i := 1) (v := .int .i64 0) rfl
    have d2 := hs6.cell (i := 2) (v := .int .i64 0) rfl
    clear c0 c1 c2 f0 f1 f2
    generalize ((w3.setCell ⟨bw + 1, 0, none⟩ (.slice none 0 0)).setCell ⟨bw + 1, 1, none⟩ (.int .i64 0)).setCell ⟨bw + 1, 2, none⟩ (.int .i64 0) = W at hs6 d0 d1 d2 ⊢
    refine bodyPost_ret (v := .agg #[.slice none 0 0, .int .i64 0, .int .i64 0]) (by simp [results, Tryd.results47, go_sem, d0, d1, d2]) rfl (Ret.mk ⟨.slice none 0 0, ?_⟩)
    rw [HA.out]
    refine ⟨rfl, ((hs6.perm (B := F * dk b (R) * (blk bw [.int .i64 8, .int .i64 on, .int .i64 n, .int .i64 m, .string data] 83 * blk (bw + 1) [.slice none 0 0, .int .i64 0, .int .i64 0] 87)) (by ac_rfl)).drop).vec_nil _ _⟩
  have h8b : (kind == 8) = false := beq_eq_false_iff_ne.2 h8
  by_cases h7 : kind = 7
  · subst h7
    have hdd := disk_dead hs1
    cases hd : D.dead with
    | true =>
      have HA := Hid.mk' (show D.act ⟨7, on, n, m, data⟩ = (⟨[], 1, 0⟩, D) by show ((⟨[], if D.dead = true then 1 else 0, 0⟩ : Said), D) = _; rw [hd]; rfl)
      rw [hd] at hdd
      have HDD := Hid.mk' hdd
      clear hdd hs1 hd
      go_enter Tryd.func47, Tryd.ntmps47
      go_wp2_with (go_at_call 53; refine HDD.out.mono ?_; rintro e w4 ⟨rfl, rfl⟩)
      have hs6 := ((HS0.out.new #[.int .i64 7, .int .i64 on, .int .i64 n, .int .i64 m, .string data] 83).new #[.slice none 0 0, .int .i64 1, .int .i64 0] 87)
      rw [World.size_alloc, hbw] at hs6
      have d0 := hs6.cell (i := 0) (v := .slice none 0 0) rfl
      have d1 := hs6.cell (i := 1) (v := .int .i64 1) rfl
      have d2 := hs6.cell (i := 2) (v := .int .i64 0) rfl
      generalize (w.alloc (.cells #[.int .i64 7, .int .i64 on, .int .i64 n, .int .i64 m, .string data] 83)).alloc (.cells #[.slice none 0 0, .int .i64 1, .int .i64 0] 87) = W at hs6 d0 d1 d2 ⊢
      refine bodyPost_ret (v := .agg #[.slice none 0 0, .int .i64 1, .int .i64 0]) (by simp [results, Tryd.results47, go_sem, d0, d1, d2]) rfl (Ret.mk ⟨.slice none 0 0, ?_⟩)
      rw [HA.out]
      refine ⟨rfl, hs6.drop.drop.vec_nil _ _⟩
    | false =>
      have HA := Hid.mk' (show D.act ⟨7, on, n, m, data⟩ = (⟨[], 0, 0⟩, D) by show ((⟨[], if D.dead = true then 1 else 0, 0⟩ : Said), D) = _; rw [hd]; rfl)
      rw [hd] at hdd
      have HDD := Hid.mk' hdd
      clear hdd hs1 hd
      go_enter Tryd.func47, Tryd.ntmps47
      go_wp2_with (go_at_call 53; refine HDD.out.mono ?_; rintro e w4 ⟨rfl, rfl⟩)
      have hs6 := ((HS0.out.new #[.int .i64 7, .int .i64 on, .int .i64 n, .int .i64 m, .string data] 83).new #[.slice none 0 0, .int .i64 0, .int .i64 0] 87)
      rw [World.size_alloc, hbw] at hs6
      have d0 := hs6.cell (i := 0) (v := .slice none 0 0) rfl
      have d1 := hs6.cell (i := 1) (v := .int .i64 0) rfl
      have d2 := hs6.cell (i := 2) (v := .int .i64 0) rfl
      generalize (w.alloc (.cells #[.int .i64 7, .int .i64 on, .int .i64 n, .int .i64 m, .string data] 83)).alloc (.cells #[.slice none 0 0, .int .i64 0, .int .i64 0] 87) = W at hs6 d0 d1 d2 ⊢
      refine bodyPost_ret (v := .agg #[.slice none 0 0, .int .i64 0, .int .i64 0]) (by simp [results, Tryd.results47, go_sem, d0, d1, d2]) rfl (Ret.mk ⟨.slice none 0 0, ?_⟩)
      rw [HA.out]
      refine ⟨rfl, hs6.drop.drop.vec_nil _ _⟩
  have h7b : (kind == 7) = false := beq_eq_false_iff_ne.2 h7
  by_cases h9 : kind = 9
  · subst h9
    have HA := Hid.mk' (show D.act ⟨9, on, n, m, data⟩ = (⟨D.bytes, D.synced, 0⟩, D) from rfl)
    go_enter Tryd.func47, Tryd.ntmps47
    go_wp2_with fail
    refine (disk_look hD hs1).mono ?_
    rintro e w3 ⟨v, rfl, u, rfl, hs4⟩
    obtain ⟨uo, uc, rfl, _, _, _⟩ := hs4.vec_rd
    have hs5 := hs4.rot3
    have c0 := hs5.cell (i := 0) (v := .slice none 0 0) rfl
    have c1 := hs5.cell (i := 1) (v := .int .i64 0) rfl
    have c2 := hs5.cell (i := 2) (v := .int .i64 0) rfl
    have f0 := hs5.free 0
    have f1 := hs5.free 1
    have f2 := hs5.free 2
    go_wp2_with fail
    have hs6 := ((hs5.store 0 (.slice uo D.bytes.length uc)).store 1 (.int .i64 D.synced)).store 2 (.int .i64 0)
    simp only [List.set_cons_zero, List.set_cons_succ] at hs6
    have d0 := hs6.cell (i := 0) (v := .slice uo D.bytes.length uc) rfl
    have d1 := hs6.cell (i := 1) (v := .int .i64 D.synced) rfl
    have d2 := hs6.cell (i := 2) (v := .int .i64 0) rfl
    clear c0 c1 c2 f0 f1 f2
    generalize ((w3.setCell ⟨bw + 1, 0, none⟩ (.slice uo D.bytes.length uc)).setCell ⟨bw + 1, 1, none⟩ (.int .i64 D.synced)).setCell ⟨bw + 1, 2, none⟩ (.int .i64 0) = W at hs6 d0 d1 d2 ⊢
    refine bodyPost_ret (v := .agg #[.slice uo D.bytes.length uc, .int .i64 D.synced, .int .i64 0]) (by simp [results, Tryd.results47, go_sem, d0, d1, d2]) rfl (Ret.mk ⟨.slice uo D.bytes.length uc, ?_⟩)
    rw [HA.out]
    refine ⟨rfl, (hs6.perm (B := F * dk b (D) * vec 5 1 (.slice uo D.bytes.length uc) D.bytes.length (bvs D.bytes) * (blk bw [.int .i64 9, .int .i64 on, .int .i64 n, .int .i64 m, .string data] 83 * blk (bw + 1) [.slice uo D.bytes.length uc, .int .i64 D.synced, .int .i64 0] 87)) (by ac_rfl)).drop⟩
  have h9b : (kind == 9) = false := beq_eq_false_iff_ne.2 h9
  have HA := Hid.mk' (show D.act ⟨kind, on, n, m, data⟩ = (⟨[], 0, 0⟩, D) by unfold Dk.act; simp only [h1, h2, h3, h4, h5, h6, h7, h8, h9, if_false])
  clear h1 h2 h3 h4 h5 h6 h7 h8 h9
  clear hs1
  go_enter Tryd.func47, Tryd.ntmps47
  go_wp2_with fail
  have hs6 := ((HS0.out.new #[.int .i64 kind, .int .i64 on, .int .i64 n, .int .i64 m, .string data] 83).new #[.slice none 0 0, .int .i64 0, .int .i64 0] 87)
  rw [World.size_alloc, hbw] at hs6
  have d0 := hs6.cell (i := 0) (v := .slice none 0 0) rfl
  have d1 := hs6.cell (i := 1) (v := .int .i64 0) rfl
  have d2 := hs6.cell (i := 2) (v := .int .i64 0) rfl
  generalize (w.alloc (.cells #[.int .i64 kind, .int .i64 on, .int .i64 n, .int .i64 m, .string data] 83)).alloc (.cells #[.slice none 0 0, .int .i64 0, .int .i64 0] 87) = W at hs6 d0 d1 d2 ⊢
  refine bodyPost_ret (v := .agg #[.slice none 0 0, .int .i64 0, .int .i64 0]) (by simp [results, Tryd.results47, go_sem, d0, d1, d2]) rfl (Ret.mk ⟨.slice none 0 0, ?_⟩)
  rw [HA.out]
  refine ⟨rfl, hs6.drop.drop.vec_nil _ _⟩
end Go.Proofs.YtjhlelcopofkkaaDoor

/-! ToldW -/
namespace Go.Proofs.YtjhlelcopofkkaaDoor
open Go.RowKit

set_option maxRecDepth 20000 in
set_option maxHeartbeats 12800000 in
theorem law12_told {w0 w : World} {F : HP} {b : Nat} {D : Dk} (hD : D.Ok) (s : Stp) (hS : s.Ok) (hm : D.arms.length < 8796093022207) (hs : Sat w0 w (F * rk b D)) :
    Calls Tryd.prog 49 #[.pointer (some ⟨b, 0, none⟩), s.val] w (Ret fun v w' => ∃ u, v = said u (D.act s).1 ∧ Sat w0 w' (F * rk b (D.act s).2 * vec 5 1 u (D.act s).1.list.length (bvs (D.act s).1.list))) := by
  obtain ⟨kind, on, n, m, data⟩ := s
  have hs1 := ((hs.new #[.int .i64 kind, .int .i64 on, .int .i64 n, .int .i64 m, .string data] 83).new #[.slice none 0 0, .int .i64 0, .int .i64 0] 87).perm (B := F * blk w.heap.size [.int .i64 kind, .int .i64 on, .int .i64 n, .int .i64 m, .string data] 83 * blk (w.heap.size + 1) [.slice none 0 0, .int .i64 0, .int .i64 0] 87 * rk b D) (by rw [World.size_alloc]; ac_rfl)
  have hn1 : -9223372036854775808 ≤ n := hS.n1
  have hn2 : n ≤ 9223372036854775807 := hS.n2
  have hdz : data.size ≤ 140737488351232 := hS.data
  show Calls Tryd.prog 49 #[.pointer (some ⟨b, 0, none⟩), .agg #[.int .i64 kind, .int .i64 on, .int .i64 n, .int .i64 m, .string data]] w _
  clear hS
  have HS0 := Hid.mk' hs
  clear hs
  generalize hbw : w.heap.size = bw at *
  by_cases h1 : kind = 1
  · subst h1
    have HA := Hid.mk' (show D.act ⟨1, on, n, m, data⟩ = (⟨[], 0, (D.append data.data.toList).2⟩, (D.append data.data.toList).1) from rfl)
    go_enter Tryd.func49, Tryd.ntmps49
    go_wp2_with fail
    refine (kit_bytes data hdz).mono ?_
    rintro e w2 ⟨v, rfl, hx⟩
    have hs2 := hs1.glue hx
    obtain ⟨po, pc, rfl, hpc, _, hpn⟩ := hs2.vec_rd
    have hs3 := hs2.swap
    go_wp2_with fail
    refine (ref12_append data.data.toList po pc hpn hdz (fun w' A h => (h.perm (B := F * blk bw [.int .i64 1, .int .i64 on, .int .i64 n, .int .i64 m, .string data] 83 * blk (bw + 1) [.slice none 0 0, .int .i64 0, .int .i64 0] 87 * A * vec 5 1 (.slice po data.size pc) data.size (bvs data.data.toList)) (by ac_rfl)).rd) hD hs3 hm).mono ?_
    rintro e w3 ⟨v, rfl, rfl, hs4⟩
    have hc := Dk.append_err D data.data.toList
    generalize D.append data.data.toList = R at *
    have hs5 := hs4.rot3
    have c0 := hs5.cell (i := 0) (v := .slice none 0 0) rfl
    have c1 := hs5.cell (i := 1) (v := .int .i64 0) rfl
    have c2 := hs5.cell (i := 2) (v := .int .i64 0) rfl
    have f0 := hs5.free 0
    have f1 := hs5.free 1
    have f2 := hs5.free 2
    go_wp2_with fail
    have hs6 := ((hs5.store 0 (.slice none 0 0)).store 1 (.int .i64 0)).store 2 (.int .i64 (R.2 : Int))
    simp only [List.set_cons_zero, List.set_cons_succ] at hs6
    have d0 := hs6.cell (i := 0) (v := .slice none 0 0) rfl
    have d1 := hs6.cell (i := 1) (v := .int .i64 0) rfl
    have d2 := hs6.cell (i := 2) (v := .int .i64 (R.2 : Int)) rfl
    clear c0 c1 c2 f0 f1 f2
    generalize ((w3.setCell ⟨bw + 1, 0, none⟩ (.slice none 0 0)).setCell ⟨bw + 1, 1, none⟩ (.int .i64 0)).setCell ⟨bw + 1, 2, none⟩ (.int .i64 (R.2 : Int)) = W at hs6 d0 d1 d2 ⊢
    refine bodyPost_ret (v := .agg #[.slice none 0 0, .int .i64 0, .int .i64 (R.2 : Int)]) (by simp [results, Tryd.results49, go_sem, d0, d1, d2]) rfl (Ret.mk ⟨.slice none 0 0, ?_⟩)
    rw [HA.out]
    refine ⟨rfl, ((hs6.perm (B := F * rk b (R.1) * (blk bw [.int .i64 1, .int .i64 on, .int .i64 n, .int .i64 m, .string data] 83 * vec 5 1 (.slice po data.size pc) data.size (bvs data.data.toList) * blk (bw + 1) [.slice none 0 0, .int .i64 0, .int .i64 (R.2 : Int)] 87)) (by ac_rfl)).drop).vec_nil _ _⟩
  have h1b : (kind == 1) = false := beq_eq_false_iff_ne.2 h1
  by_cases h2 : kind = 2
  · subst h2
    have HA := Hid.mk' (show D.act ⟨2, on, n, m, data⟩ = (⟨[], 0, (D.sync).2⟩, (D.sync).1) from rfl)
    go_enter Tryd.func49, Tryd.ntmps49
    go_wp2_with fail
    refine (ref12_sync hD hs1 hm).mono ?_
    rintro e w3 ⟨v, rfl, rfl, hs4⟩
    have hc := Dk.sync_err D
    generalize D.sync = R at *
    have hs5 := hs4.swap
    have c0 := hs5.cell (i := 0) (v := .slice none 0 0) rfl
    have c1 := hs5.cell (i := 1) (v := .int .i64 0) rfl
    have c2 := hs5.cell (i := 2) (v := .int .i64 0) rfl
    have f0 := hs5.free 0
    have f1 := hs5.free 1
    have f2 := hs5.free 2
    go_wp2_with fail
    have hs6 := ((hs5.store 0 (.slice none 0 0)).store 1 (.int .i64 0)).store 2 (.int .i64 (R.2 : Int))
    simp only [List.set_cons_zero, List.set_cons_succ] at hs6
    have d0 := hs6.cell (i := 0) (v := .slice none 0 0) rfl
    have d1 := hs6.cell (i := 1) (v := .int .i64 0) rfl
    have d2 := hs6.cell (i := 2) (v := .int .i64 (R.2 : Int)) rfl
    clear c0 c1 c2 f0 f1 f2
    generalize ((w3.setCell ⟨bw + 1, 0, none⟩ (.slice none 0 0)).setCell ⟨bw + 1, 1, none⟩ (.int .i64 0)).setCell ⟨bw + 1, 2, none⟩ (.int .i64 (R.2 : Int)) = W at hs6 d0 d1 d2 ⊢
    refine bodyPost_ret (v := .agg #[.slice none 0 0, .int .i64 0, .int .i64 (R.2 : Int)]) (by simp [results, Tryd.results49, go_sem, d0, d1, d2]) rfl (Ret.mk ⟨.slice none 0 0, ?_⟩)
    rw [HA.out]
    refine ⟨rfl, ((hs6.perm (B := F * rk b (R.1) * (blk bw [.int .i64 2, .int .i64 on, .int .i64 n, .int .i64 m, .string data] 83 * blk (bw + 1) [.slice none 0 0, .int .i64 0, .int .i64 (R.2 : Int)] 87)) (by ac_rfl)).drop).vec_nil _ _⟩
  have h2b : (kind == 2) = false := beq_eq_false_iff_ne.2 h2
  by_cases h3 : kind = 3
  · subst h3
    have HA := Hid.mk' (show D.act ⟨3, on, n, m, data⟩ = (⟨if (D.gate id).2 = 0 then (D.gate id).1.bytes else [], 0, (D.gate id).2⟩, (D.gate id).1) from rfl)
    go_enter Tryd.func49, Tryd.ntmps49
    go_wp2_with fail
    refine (ref12_readAll hD hs1 hm).mono ?_
    rintro e w3 ⟨v, rfl, u, rfl, hs4⟩
    have hc := Dk.gate_err D
    generalize (if (D.gate id).2 = 0 then (D.gate id).1.bytes else []) = l at *
    generalize D.gate id = R at *
    obtain ⟨uo, uc, rfl, _, _, _⟩ := hs4.vec_rd
    have hs5 := hs4.rot3
    have c0 := hs5.cell (i := 0) (v := .slice none 0 0) rfl
    have c1 := hs5.cell (i := 1) (v := .int .i64 0) rfl
    have c2 := hs5.cell (i := 2) (v := .int .i64 0) rfl
    have f0 := hs5.free 0
    have f1 := hs5.free 1
    have f2 := hs5.free 2
    go_wp2_with fail
    have hs6 := ((hs5.store 0 (.slice uo l.length uc)).store 1 (.int .i64 0)).store 2 (.int .i64 (R.2 : Int))
    simp only [List.set_cons_zero, List.set_cons_succ] at hs6
    have d0 := hs6.cell (i := 0) (v := .slice uo l.length uc) rfl
    have d1 := hs6.cell (i := 1) (v := .int .i64 0) rfl
    have d2 := hs6.cell (i := 2) (v := .int .i64 (R.2 : Int)) rfl
    clear c0 c1 c2 f0 f1 f2
    generalize ((w3.setCell ⟨bw + 1, 0, none⟩ (.slice uo l.length uc)).setCell ⟨bw + 1, 1, none⟩ (.int .i64 0)).setCell ⟨bw + 1, 2, none⟩ (.int .i64 (R.2 : Int)) = W at hs6 d0 d1 d2 ⊢
    refine bodyPost_ret (v := .agg #[.slice uo l.length uc, .int .i64 0, .int .i64 (R.2 : Int)]) (by simp [results, Tryd.results49, go_sem, d0, d1, d2]) rfl (Ret.mk ⟨.slice uo l.length uc, ?_⟩)
    rw [HA.out]
    refine ⟨rfl, (hs6.perm (B := F * rk b (R.1) * vec 5 1 (.slice uo l.length uc) l.length (bvs l) * (blk bw [.int .i64 3, .int .i64 on, .int .i64 n, .int .i64 m, .string data] 83 * blk (bw + 1) [.slice uo l.length uc, .int .i64 0, .int .i64 (R.2 : Int)] 87)) (by ac_rfl)).drop⟩
  have h3b : (kind == 3) = false := beq_eq_false_iff_ne.2 h3
  by_cases h4 : kind = 4
  · subst h4
    have HA := Hid.mk' (show D.act ⟨4, on, n, m, data⟩ = (⟨[], 0, (D.trunc n).2⟩, (D.trunc n).1) from rfl)
    go_enter Tryd.func49, Tryd.ntmps49
    go_wp2_with fail
    refine (ref12_truncate hD hs1 hm n).mono ?_
    rintro e w3 ⟨v, rfl, rfl, hs4⟩
    have hc := Dk.trunc_err D n
    generalize D.trunc n = R at *
    have hs5 := hs4.swap
    have c0 := hs5.cell (i := 0) (v := .slice none 0 0) rfl
    have c1 := hs5.cell (i := 1) (v := .int .i64 0) rfl
    have c2 := hs5.cell (i := 2) (v := .int .i64 0) rfl
    have f0 := hs5.free 0
    have f1 := hs5.free 1
    have f2 := hs5.free 2
    go_wp2_with fail
    have hs6 := ((hs5.store 0 (.slice none 0 0)).store 1 (.int .i64 0)).store 2 (.int .i64 (R.2 : Int))
    simp only [List.set_cons_zero, List.set_cons_succ] at hs6
    have d0 := hs6.cell (i := 0) (v := .slice none 0 0) rfl
    have d1 := hs6.cell (i := 1) (v := .int .i64 0) rfl
    have d2 := hs6.cell (i := 2) (v := .int .i64 (R.2 : Int)) rfl
    clear c0 c1 c2 f0 f1 f2
    generalize ((w3.setCell ⟨bw + 1, 0, none⟩ (.slice none 0 0)).setCell ⟨bw + 1, 1, none⟩ (.int .i64 0)).setCell ⟨bw + 1, 2, none⟩ (.int .i64 (R.2 : Int)) = W at hs6 d0 d1 d2 ⊢
    refine bodyPost_ret (v := .agg #[.slice none 0 0, .int .i64 0, .int .i64 (R.2 : Int)]) (by simp [results, Tryd.results49, go_sem, d0, d1, d2]) rfl (Ret.mk ⟨.slice none 0 0, ?_⟩)
    rw [HA.out]
    refine ⟨rfl, ((hs6.perm (B := F * rk b (R.1) * (blk bw [.int .i64 4, .int .i64 on, .int .i64 n, .int .i64 m, .string data] 83 * blk (bw + 1) [.slice none 0 0, .int .i64 0, .int .i64 (R.2 : Int)] 87)) (by ac_rfl)).drop).vec_nil _ _⟩
  have h4b : (kind == 4) = false := beq_eq_false_iff_ne.2 h4
  by_cases h5 : kind = 5
  · subst h5
    have HA := Hid.mk' (show D.act ⟨5, on, n, m, data⟩ = (⟨[], 0, 0⟩, D.arm n m) from rfl)
    go_enter Tryd.func49, Tryd.ntmps49
    go_wp2_with fail
    refine (ref12_arm hs1 n m hm).mono ?_
    rintro e w3 ⟨v, rfl, rfl, hs4⟩
    generalize D.arm n m = R at *
    have hs5 := hs4.swap
    have c0 := hs5.cell (i := 0) (v := .slice none 0 0) rfl
    have c1 := hs5.cell (i := 1) (v := .int .i64 0) rfl
    have c2 := hs5.cell (i := 2) (v := .int .i64 0) rfl
    have f0 := hs5.free 0
    have f1 := hs5.free 1
    have f2 := hs5.free 2
    go_wp2_with fail
    have hs6 := ((hs5.store 0 (.slice none 0 0)).store 1 (.int .i64 0)).store 2 (.int .i64 0)
    simp only [List.set_cons_zero, List.set_cons_succ] at hs6
    have d0 := hs6.cell (i := 0) (v := .slice none 0 0) rfl
    have d1 := hs6.cell (i := 1) (v := .int .i64 0) rfl
    have d2 := hs6.cell (i := 2) (v := .int .i64 0) rfl
    clear c0 c1 c2 f0 f1 f2
    generalize ((w3.setCell ⟨bw + 1, 0, none⟩ (.slice none 0 0)).setCell ⟨bw + 1, 1, none⟩ (.int .i64 0)).setCell ⟨bw + 1, 2, none⟩ (.int .i64 0) = W at hs6 d0 d1 d2 ⊢
    refine bodyPost_ret (v := .agg #[.slice none 0 0, .int .i64 0, .int .i64 0]) (by simp [results, Tryd.results49, go_sem, d0, d1, d2]) rfl (Ret.mk ⟨.slice none 0 0, ?_⟩)
    rw [HA.out]
    refine ⟨rfl, ((hs6.perm (B := F * rk b (R) * (blk bw [.int .i64 5, .int .i64 on, .int .i64 n, .int .i64 m, .string data] 83 * blk (bw + 1) [.slice none 0 0, .int .i64 0, .int .i64 0] 87)) (by ac_rfl)).drop).vec_nil _ _⟩
  have h5b : (kind == 5) = false := beq_eq_false_iff_ne.2 h5
  by_cases h6 : kind = 6
  · subst h6
    have HA := Hid.mk' (show D.act ⟨6, on, n, m, data⟩ = (⟨[], 0, 0⟩, D.crash n) from rfl)
    go_enter Tryd.func49, Tryd.ntmps49
    go_wp2_with fail
    refine (ref12_crash hs1 hD n hn2).mono ?_
    rintro e w3 ⟨v, rfl, rfl, hs4⟩
    generalize D.crash n = R at *
    have hs5 := hs4.swap
    have c0 := hs5.cell (i := 0) (v := .slice none 0 0) rfl
    have c1 := hs5.cell (i := 1) (v := .int .i64 0) rfl
    have c2 := hs5.cell (i := 2) (v := .int .i64 0) rfl
    have f0 := hs5.free 0
    have f1 := hs5.free 1
    have f2 := hs5.free 2
    go_wp2_with fail
    have hs6 := ((hs5.store 0 (.slice none 0 0)).store 1 (.int .i64 0)).store 2 (.int .i64 0)
    simp only [List.set_cons_zero, List.set_cons_succ] at hs6
    have d0 := hs6.cell (i := 0) (v := .slice none 0 0) rfl
    have d1 := hs6.cell (i := 1) (v := .int .i64 0) rfl
    have d2 := hs6.cell (i := 2) (v := .int .i64 0) rfl
    clear c0 c1 c2 f0 f1 f2
    generalize ((w3.setCell ⟨bw + 1, 0, none⟩ (.slice none 0 0)).setCell ⟨bw + 1, 1, none⟩ (.int .i64 0)).setCell ⟨bw + 1, 2, none⟩ (.int .i64 0) = W at hs6 d0 d1 d2 ⊢
    refine bodyPost_ret (v := .agg #[.slice none 0 0, .int .i64 0, .int .i64 0]) (by simp [results, Tryd.results49, go_sem, d0, d1, d2]) rfl (Ret.mk ⟨.slice none 0 0, ?_⟩)
    rw [HA.out]
    refine ⟨rfl, ((hs6.perm (B := F * rk b (R) * (blk bw [.int .i64 6, .int .i64 on, .int .i64 n, .int .i64 m, .string data] 83 * blk (bw + 1) [.slice none 0 0, .int .i64 0, .int .i64 0] 87)) (by ac_rfl)).drop).vec_nil _ _⟩
  have h6b : (kind == 6) = false := beq_eq_false_iff_ne.2 h6
  by_cases h8 : kind = 8
  · subst h8
    have HA := Hid.mk' (show D.act ⟨8, on, n, m, data⟩ = (⟨[], 0, 0⟩, D.revive) from rfl)
    go_enter Tryd.func49, Tryd.ntmps49
    go_wp2_with fail
    refine (ref12_revive hs1).mono ?_
    rintro e w3 ⟨v, rfl, rfl, hs4⟩
    generalize D.revive = R at *
    have hs5 := hs4.swap
    have c0 := hs5.cell (i := 0) (v := .slice none 0 0) rfl
    have c1 := hs5.cell (i := 1) (v := .int .i64 0) rfl
    have c2 := hs5.cell (i := 2) (v := .int .i64 0) rfl
    have f0 := hs5.free 0
    have f1 := hs5.free 1
    have f2 := hs5.free 2
    go_wp2_with fail
    have hs6 := ((hs5.store 0 (.slice none 0 0)).store 1 (.int .i64 0)).store 2 (.int .i64 0)
    simp only [List.set_cons_zero, List.set_cons_succ] at hs6
    have d0 := hs6.cell (i := 0) (v := .slice none 0 0) rfl
    have d1 := hs6.cell (i := 1) (v := .int .i64 0) rfl
    have d2 := hs6.cell (i := 2) (v := .int .i64 0) rfl
    clear c0 c1 c2 f0 f1 f2
    generalize ((w3.setCell ⟨bw + 1, 0, none⟩ (.slice none 0 0)).setCell ⟨bw + 1, 1, none⟩ (.int .i64 0)).setCell ⟨bw + 1, 2, none⟩ (.int .i64 0) = W at hs6 d0 d1 d2 ⊢
    refine bodyPost_ret (v := .agg #[.slice none 0 0, .int .i64 0, .int .i64 0]) (by simp [results, Tryd.results49, go_sem, d0, d1, d2]) rfl (Ret.mk ⟨.slice none 0 0, ?_⟩)
    rw [HA.out]
    refine ⟨rfl, ((hs6.perm (B := F * rk b (R) * (blk bw [.int .i64 8, .int .i64 on, .int .i64 n, .int .i64 m, .string data] 83 * blk (bw + 1) [.slice none 0 0, .int .i64 0, .int .i64 0] 87)) (by ac_rfl)).drop).vec_nil _ _⟩
  have h8b : (kind == 8) = false := beq_eq_false_iff_ne.2 h8
  by_cases h7 : kind = 7
  · subst h7
    have hdd := ref12_dead hs1
    cases hd : D.dead with
    | true =>
      have HA := Hid.mk' (show D.act ⟨7, on, n, m, data⟩ = (⟨[], 1, 0⟩, D) by show ((⟨[], if D.dead = true then 1 else 0, 0⟩ : Said), D) = _; rw [hd]; rfl)
      rw [hd] at hdd
      have HDD := Hid.mk' hdd
      clear hdd hs1 hd
      go_enter Tryd.func49, Tryd.ntmps49
      go_wp2_with (go_at_call 116; refine HDD.out.mono ?_; rintro e w4 ⟨rfl, rfl⟩)
      have hs6 := ((HS0.out.new #[.int .i64 7, .int .i64 on, .int .i64 n, .int .i64 m, .string data] 83).new #[.slice none 0 0, .int .i64 1, .int .i64 0] 87)
      rw [World.size_alloc, hbw] at hs6
      have d0 := hs6.cell (i := 0) (v := .slice none 0 0) rfl
      have d1 := hs6.cell (i := 1) (v := .int .i64 1) rfl
      have d2 := hs6.cell (i := 2) (v := .int .i64 0) rfl
      generalize (w.alloc (.cells #[.int .i64 7, .int .i64 on, .int .i64 n, .int .i64 m, .string data] 83)).alloc (.cells #[.slice none 0 0, .int .i64 1, .int .i64 0] 87) = W at hs6 d0 d1 d2 ⊢
      refine bodyPost_ret (v := .agg #[.slice none 0 0, .int .i64 1, .int .i64 0]) (by simp [results, Tryd.results49, go_sem, d0, d1, d2]) rfl (Ret.mk ⟨.slice none 0 0, ?_⟩)
      rw [HA.out]
      refine ⟨rfl, hs6.drop.drop.vec_nil _ _⟩
    | false =>
      have HA := Hid.mk' (show D.act ⟨7, on, n, m, data⟩ = (⟨[], 0, 0⟩, D) by show ((⟨[], if D.dead = true then 1 else 0, 0⟩ : Said), D) = _; rw [hd]; rfl)
      rw [hd] at hdd
      have HDD := Hid.mk' hdd
      clear hdd hs1 hd
      go_enter Tryd.func49, Tryd.ntmps49
      go_wp2_with (go_at_call 116; refine HDD.out.mono ?_; rintro e w4 ⟨rfl, rfl⟩)
      have hs6 := ((HS0.out.new #[.int .i64 7, .int .i64 on, .int .i64 n, .int .i64 m, .string data] 83).new #[.slice none 0 0, .int .i64 0, .int .i64 0] 87)
      rw [World.size_alloc, hbw] at hs6
      have d0 := hs6.cell (i := 0) (v := .slice none 0 0) rfl
      have d1 := hs6.cell (i := 1) (v := .int .i64 0) rfl
      have d2 := hs6.cell (i := 2) (v := .int .i64 0) rfl
      generalize (w.alloc (.cells #[.int .i64 7, .int .i64 on, .int .i64 n, .int .i64 m, .string data] 83)).alloc (.cells #[.slice none 0 0, .int .i64 0, .int .i64 0] 87) = W at hs6 d0 d1 d2 ⊢
      refine bodyPost_ret (v := .agg #[.slice none 0 0, .int .i64 0, .int .i64 0]) (by simp [results, Tryd.results49, go_sem, d0, d1, d2]) rfl (Ret.mk ⟨.slice none 0 0, ?_⟩)
      rw [HA.out]
      refine ⟨rfl, hs6.drop.drop.vec_nil _ _⟩
  have h7b : (kind == 7) = false := beq_eq_false_iff_ne.2 h7
  by_cases h9 : kind = 9
  · subst h9
    have HA := Hid.mk' (show D.act ⟨9, on, n, m, data⟩ = (⟨D.bytes, D.synced, 0⟩, D) from rfl)
    go_enter Tryd.func49, Tryd.ntmps49
    go_wp2_with fail
    refine (ref12_look hD hs1).mono ?_
    rintro e w3 ⟨v, rfl, u, rfl, hs4⟩
    obtain ⟨uo, uc, rfl, _, _, _⟩ := hs4.vec_rd
    have hs5 := hs4.rot3
    have c0 := hs5.cell (i := 0) (v := .slice none 0 0) rfl
    have c1 := hs5.cell (i := 1) (v := .int .i64 0) rfl
    have c2 := hs5.cell (i := 2) (v := .int .i64 0) rfl
    have f0 := hs5.free 0
    have f1 := hs5.free 1
    have f2 := hs5.free 2
    go_wp2_with fail
    have hs6 := ((hs5.store 0 (.slice uo D.bytes.length uc)).store 1 (.int .i64 D.synced)).store 2 (.int .i64 0)
    simp only [List.set_cons_zero, List.set_cons_succ] at hs6
    have d0 := hs6.cell (i := 0) (v := .slice uo D.bytes.length uc) rfl
    have d1 := hs6.cell (i := 1) (v := .int .i64 D.synced) rfl
    have d2 := hs6.cell (i := 2) (v := .int .i64 0) rfl
    clear c0 c1 c2 f0 f1 f2
    generalize ((w3.setCell ⟨bw + 1, 0, none⟩ (.slice uo D.bytes.length uc)).setCell ⟨bw + 1, 1, none⟩ (.int .i64 D.synced)).setCell ⟨bw + 1, 2, none⟩ (.int .i64 0) = W at hs6 d0 d1 d2 ⊢
    refine bodyPost_ret (v := .agg #[.slice uo D.bytes.length uc, .int .i64 D.synced, .int .i64 0]) (by simp [results, Tryd.results49, go_sem, d0, d1, d2]) rfl (Ret.mk ⟨.slice uo D.bytes.length uc, ?_⟩)
    rw [HA.out]
    refine ⟨rfl, (hs6.perm (B := F * rk b (D) * vec 5 1 (.slice uo D.bytes.length uc) D.bytes.length (bvs D.bytes) * (blk bw [.int .i64 9, .int .i64 on, .int .i64 n, .int .i64 m, .string data] 83 * blk (bw + 1) [.slice uo D.bytes.length uc, .int .i64 D.synced, .int .i64 0] 87)) (by ac_rfl)).drop⟩
  have h9b : (kind == 9) = false := beq_eq_false_iff_ne.2 h9
  have HA := Hid.mk' (show D.act ⟨kind, on, n, m, data⟩ = (⟨[], 0, 0⟩, D) by unfold Dk.act; simp only [h1, h2, h3, h4, h5, h6, h7, h8, h9, if_false])
  clear h1 h2 h3 h4 h5 h6 h7 h8 h9
  clear hs1
  go_enter Tryd.func49, Tryd.ntmps49
  go_wp2_with fail
  have hs6 := ((HS0.out.new #[.int .i64 kind, .int .i64 on, .int .i64 n, .int .i64 m, .string data] 83).new #[.slice none 0 0, .int .i64 0, .int .i64 0] 87)
  rw [World.size_alloc, hbw] at hs6
  have d0 := hs6.cell (i := 0) (v := .slice none 0 0) rfl
  have d1 := hs6.cell (i := 1) (v := .int .i64 0) rfl
  have d2 := hs6.cell (i := 2) (v := .int .i64 0) rfl
  generalize (w.alloc (.cells #[.int .i64 kind, .int .i64 on, .int .i64 n, .int .i64 m, .string data] 83)).alloc (.cells #[.slice none 0 0, .int .i64 0, .int .i64 0] 87) = W at hs6 d0 d1 d2 ⊢
  refine bodyPost_ret (v := .agg #[.slice none 0 0, .int .i64 0, .int .i64 0]) (by simp [results, Tryd.results49, go_sem, d0, d1, d2]) rfl (Ret.mk ⟨.slice none 0 0, ?_⟩)
  rw [HA.out]
  refine ⟨rfl, hs6.drop.drop.vec_nil _ _⟩
end Go.Proofs.YtjhlelcopofkkaaDoor

/-! Same -/
namespace Go.Proofs.YtjhlelcopofkkaaDoor
open Go.RowKit

theorem act_len {D : Dk} (h : D.Ok) (s : Stp) : (D.act s).1.list.length ≤ 140737488351232 := by
  have hb := h.bytes
  have hg := (h.gate (L := id) (fun _ h => h)).bytes
  unfold Dk.act
  split
  · simp
  split
  · simp
  split
  · show (if (D.gate id).2 = 0 then (D.gate id).1.bytes else []).length ≤ _
    split
    · exact hg
    · simp
  split
  · simp
  split
  · simp
  split
  · simp
  split
  · simp
  split
  · simp
  split
  · exact hb
  · simp
theorem rest_len (D : Dk) : D.rest.length ≤ D.arms.length := by
  unfold Dk.rest
  split
  · simp
  · rename_i r he
    rw [he]; simp
  · rename_i k keep r he
    rw [he]; simp
theorem gate_arms (D : Dk) (L : Dk → Dk) (hL : ∀ D, (L D).arms = D.arms) : (D.gate L).1.arms.length ≤ D.arms.length := by
  cases hd : D.dead with
  | true => rw [Dk.gate_dead hd]; exact Nat.le_refl _
  | false =>
    have hr := rest_len D
    rw [Dk.gate_eq hd]
    split
    · show (L { D with arms := D.rest }).arms.length ≤ _
      rw [hL]
      exact hr
    · exact hr
theorem putp_arms (D : Dk) (p : List UInt8) : (D.putp p).arms = D.arms := by
  unfold Dk.putp
  split <;> rfl
theorem append_arms (D : Dk) (p : List UInt8) : (D.append p).1.arms.length ≤ D.arms.length := by
  have h := gate_arms D (·.putp p) (fun D => putp_arms D p)
  unfold Dk.append
  split
  · split
    · show ((D.gate (·.putp p)).1.putp p).arms.length ≤ _
      rw [putp_arms]; exact h
    · exact h
  · exact h
theorem sync_arms (D : Dk) : D.sync.1.arms.length ≤ D.arms.length := by
  have h := gate_arms D id (fun _ => rfl)
  unfold Dk.sync
  split
  · exact h
  · exact h
theorem trunc_arms (D : Dk) (n : Int) : (D.trunc n).1.arms.length ≤ D.arms.length := by
  have h := gate_arms D id (fun _ => rfl)
  unfold Dk.trunc
  split
  · exact Nat.le_refl _
  · split
    · exact h
    · exact h
theorem crash_arms (D : Dk) (n : Int) : (D.crash n).arms = D.arms := by
  unfold Dk.crash
  split <;> rfl
/-- How many arms wait grows by one at most. -/
theorem act_arms (D : Dk) (s : Stp) : (D.act s).2.arms.length ≤ D.arms.length + 1 := by
  unfold Dk.act
  split
  · have := append_arms D s.data.data.toList; simp only; omega
  split
  · have := sync_arms D; simp only; omega
  split
  · have := gate_arms D id (fun _ => rfl); simp only; omega
  split
  · have := trunc_arms D s.n; simp only; omega
  split
  · show (D.arms ++ [_]).length ≤ _
    simp
  split
  · show (D.crash s.n).arms.length ≤ _
    rw [crash_arms]; omega
  split
  · simp
  split
  · show D.arms.length ≤ _
    omega
  split
  · simp
  · simp

def Stp.looks : Stp := ⟨9, 0, 0, 0, ⟨#[]⟩⟩
theorem Stp.looks_ok : Stp.looks.Ok := ⟨by decide, by decide, by decide, by decide, by decide⟩
set_option maxHeartbeats 1600000 in
theorem law12_look {w : World} : Calls Tryd.prog 50 #[] w (Ret fun v w' => v = Stp.looks.val ∧ Sat w w' 1) := by
  have hs6 := ((Sat.refl w).new #[.int .i64 9, .int .i64 0, .int .i64 0, .int .i64 0, .string ⟨#[]⟩] 83)
  have HS := Hid.mk' hs6
  clear hs6
  go_enter Tryd.func50, Tryd.ntmps50
  go_wp2_with fail
  refine bodyPost_ret (v := Stp.looks.val) (by simp [results, Tryd.results50, go_sem, Stp.looks, Stp.val]) rfl (Ret.mk ⟨rfl, ?_⟩)
  exact HS.out.drop

set_option maxHeartbeats 3200000 in
theorem law12_same_true {w : World} (S : Said) (a1 a2 : Option Addr) (c1 c2 : Nat) (h1 : Rd w a1 (bvs S.list)) (h2 : Rd w a2 (bvs S.list)) (hl : S.list.length ≤ 140737488351232) :
    Calls Tryd.prog 48 #[said (.slice a1 S.list.length c1) S, said (.slice a2 S.list.length c2) S] w (Ret fun v w' => v = .bool true ∧ Sat w w' 1) := by
  obtain ⟨l, N, e⟩ := S
  show Calls Tryd.prog 48 #[.agg #[.slice a1 l.length c1, .int .i64 N, .int .i64 (e : Int)], .agg #[.slice a2 l.length c2, .int .i64 N, .int .i64 (e : Int)]] w _
  have hs := ((Sat.refl w).new #[.slice a1 l.length c1, .int .i64 N, .int .i64 (e : Int)] 87).new #[.slice a2 l.length c2, .int .i64 N, .int .i64 (e : Int)] 87
  have HC := Hid.mk' (ref0_sameBytes l l a1 a2 c1 c2 (h1.mono hs.below) (h2.mono hs.below) hl)
  rw [decide_eq_true rfl] at HC
  have HS := Hid.mk' hs
  have e1 : (N == N) = true := beq_self_eq_true _
  have e2 : ((e : Int) == (e : Int)) = true := beq_self_eq_true _
  clear hs h1 h2
  go_enter Tryd.func48, Tryd.ntmps48
  go_wp2_with (go_at_call 25; refine HC.out.mono ?_; rintro e' w' ⟨rfl, m, rfl⟩)
  go_ret
  exact Ret.mk ⟨rfl, ((HS.out.drewN m).drop.drop)⟩

/-- The cells of steps. -/
def stpCells (s : Stp) : List Value := [.int .i64 s.kind, .int .i64 s.on, .int .i64 s.n, .int .i64 s.m, .string s.data]
def stps (l : List Stp) : List Value := l.flatMap stpCells
theorem stps_get {l : List Stp} {k : Nat} (h : k < l.length) : ∀ j, j < 5 → (stps l)[5 * k + j]? = (stpCells l[k])[j]? := by
  induction l generalizing k with
  | nil => simp at h
  | cons x l ih =>
    intro j hj
    have e : stps (x :: l) = stpCells x ++ stps l := rfl
    rw [e]
    cases k with
    | zero =>
      rw [List.getElem?_append_left (by simp [stpCells]; omega)]
      simp
    | succ k =>
      rw [List.getElem?_append_right (by simp [stpCells]; omega)]
      have := ih (k := k) (by simpa using h) j hj
      simp only [stpCells, List.length_cons, List.length_nil, List.getElem_cons_succ] at this ⊢
      rw [show 5 * (k + 1) + j - (0 + 1 + 1 + 1 + 1 + 1) = 5 * k + j by omega]
      exact this
theorem stps_length (l : List Stp) : (stps l).length = 5 * l.length := by
  induction l with
  | nil => rfl
  | cons x l ih =>
    have e : stps (x :: l) = stpCells x ++ stps l := rfl
    rw [e, List.length_append, ih]
    simp [stpCells]; omega
/-- One step, read. -/
theorem stps_rd {w : World} {ao : Option Addr} {l : List Stp} (h : Rd w ao (stps l)) {k : Nat} (hk : k < l.length) : ∃ b o, ao = some ⟨b, o, none⟩ ∧ w.cell? ⟨b, o + k * 5, none⟩ = some (.int .i64 l[k].kind) ∧ w.cell? ⟨b, o + k * 5 + 1, none⟩ = some (.int .i64 l[k].on) ∧
    w.cell? ⟨b, o + k * 5 + 2, none⟩ = some (.int .i64 l[k].n) ∧ w.cell? ⟨b, o + k * 5 + 3, none⟩ = some (.int .i64 l[k].m) ∧ w.cell? ⟨b, o + k * 5 + 4, none⟩ = some (.string l[k].data) := by
  obtain ⟨b, o, e, hc⟩ := h.addr (by intro e; have := stps_length l; rw [e] at this; simp at this; omega)
  have hg : ∀ j (hj : j < 5), w.cell? ⟨b, o + k * 5 + j, none⟩ = (stpCells l[k])[j]? := fun j hj => by
    have h1 := stps_get hk j hj
    have h2 : (stpCells l[k])[j]? = some ((stpCells l[k])[j]'(by simp [stpCells]; omega)) := List.getElem?_eq_getElem _
    rw [h2] at h1 ⊢
    have := hc _ _ h1
    rwa [show o + (5 * k + j) = o + k * 5 + j by omega] at this
  exact ⟨b, o, e, hg 0 (by omega), hg 1 (by omega), hg 2 (by omega), hg 3 (by omega), hg 4 (by omega)⟩
end Go.Proofs.YtjhlelcopofkkaaDoor
