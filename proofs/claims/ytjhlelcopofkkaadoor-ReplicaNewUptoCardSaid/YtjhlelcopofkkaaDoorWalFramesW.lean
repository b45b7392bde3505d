/- The walk of the law WalFrames. -/
import Derived.Test.YtjhlelcopofkkaaDoorScan
namespace Go.Proofs.YtjhlelcopofkkaaDoor
open Go.RowKit

theorem run_eql_func_nil (f : Fn) (a b : Array Value) (w : World) : (binOp .eql 42 (.func f a b) .nilFunc).run Tryd.prog w = .ok (.bool false) w := by
  have h : ∀ d : Nat, (Op.equalIn (d + 1) 42 (.func f a b) .nilFunc).run Tryd.prog w = .ok false w := fun d => by simp [Op.equalIn, run_underlying Tryd.underlying42]
  simp only [binOp]
  simp [Op.equal, Op.maxDepth, h 9999]

theorem same_true' {w : World} (xs : List UInt8) (ao bo : Option Addr) (n m c d : Nat) (hn' : n = xs.length) (hm' : m = xs.length) (hr : Rd w ao (bvs xs)) (hq : Rd w bo (bvs xs)) (hn : xs.length ≤ 140737488351232) :
    Calls Tryd.prog 25 #[.slice ao n c, .slice bo m d] w (Drew (.bool true) w) := by
  subst hn'; subst hm'
  exact (ref0_sameBytes xs xs ao bo c d hr hq hn).mono fun e w' h => by rw [decide_eq_true rfl] at h; exact h

/-- The four cells that the rounds turn. -/
def boxes (bn bo bb br n : Nat) (ov : Bool) (r : Nat) : HP := 1 * blk bb [.bool false] 4 * blk br [.int .i64 r] 3 * blk bn [.int .i64 n] 3 * blk bo [.bool ov] 4

set_option maxRecDepth 20000 in
set_option maxHeartbeats 6400000 in
theorem law13_each {w1 w : World} (fr pre rest : List (List UInt8)) (p : List UInt8) (hfr : fr = pre ++ p :: rest) (hp1 : 1 ≤ p.length) (hp2 : p.length ≤ 8192) (hfl : fr.length ≤ 16777216)
    (g cap bn bo bb br be bw bs : Nat) (r : Nat) (st : Int) (eo wo : Option Addr) (ecap wcap : Nat)
    (he : w1.cell? ⟨be, 0, none⟩ = some (.slice eo fr.length ecap)) (her : Rd w1 eo (ints (ends 0 fr))) (hwn : w1.cell? ⟨bw, 0, none⟩ = some (.slice wo fr.length wcap)) (hwr : RdL w1 wo fr) (hst : w1.cell? ⟨bs, 0, none⟩ = some (.int .i64 st))
    (hs : Sat w1 w (boxes bn bo bb br pre.length false r * vec 5 1 (.slice (some ⟨g, 0, none⟩) p.length cap) p.length (bvs p))) :
    Calls Tryd.prog 31 #[.int .i64 ((size pre : Int) + 8 + p.length), .slice (some ⟨g, 0, none⟩) p.length cap, .pointer (some ⟨bo, 0, none⟩), .pointer (some ⟨bn, 0, none⟩), .pointer (some ⟨be, 0, none⟩), .pointer (some ⟨bw, 0, none⟩), .pointer (some ⟨bb, 0, none⟩), .pointer (some ⟨br, 0, none⟩), .pointer (some ⟨bs, 0, none⟩)] w
      (Ret fun v w2 => v = .bool (!(decide (r = 0 ∧ (pre.length : Int) + 1 = st))) ∧ Sat w1 w2 (boxes bn bo bb br (pre.length + 1) (decide (r = 0 ∧ (pre.length : Int) + 1 = st)) r)) := by
  have hlt : pre.length < fr.length := by rw [hfr, List.length_append, List.length_cons]; omega
  have hpk : fr[pre.length] = p := by simp [hfr]
  obtain ⟨hla, ⟨ea, ena, _⟩ | ⟨ga, cap', sp, ea, _, _, _, hs1⟩⟩ := hs.vec_cases
  · omega
  cases ea
  have c_e : w.cell? ⟨be, 0, none⟩ = some (.slice eo fr.length ecap) := (hs.below.cell (World.block_lt_of_cell? _ _ he)).trans he
  have c_w : w.cell? ⟨bw, 0, none⟩ = some (.slice wo fr.length wcap) := (hs.below.cell (World.block_lt_of_cell? _ _ hwn)).trans hwn
  obtain ⟨b1, o1, a1, cw, rfl, hc1, hl1, hr1, hno1⟩ := hwr.cell hlt
  obtain ⟨b2, o2, rfl, hc2⟩ := her.addr (by intro e; have := ints_length (ends 0 fr); rw [e, ends_length] at this; simp at this; omega)
  have hcw : w.cell? ⟨b1, o1 + pre.length, none⟩ = some (.slice a1 p.length cw) := by rw [hpk] at hc1; exact (hs.below.cell (World.block_lt_of_cell? _ _ hc1)).trans hc1
  have hce : w.cell? ⟨b2, o2 + pre.length, none⟩ = some (.int .i64 ((size pre : Int) + 8 + p.length)) := by
    have hge := ends_get 0 fr pre.length hlt
    rw [size_take_succ _ _ hlt, hpk, show fr.take pre.length = pre by simp [hfr], Nat.zero_add] at hge
    have := hc2 _ _ (ints_get hge)
    exact (hs.below.cell (World.block_lt_of_cell? _ _ this)).trans this
  have hrp : Rd w a1 (bvs p) := by rw [hpk] at hr1; exact hr1.mono hs.below
  have hst' := Hid.mk' hst
  have HL := Hid.mk' (bvs_length p)
  unfold boxes at hs1
  have c_o : w.cell? ⟨bo, 0, none⟩ = some (.bool false) := hs1.swap.cell (i := 0) rfl
  have c_n : w.cell? ⟨bn, 0, none⟩ = some (.int .i64 pre.length) := hs1.rot3.cell (i := 0) rfl
  have f_b : w.frozen? ⟨bb, 0, none⟩ = false := hs1.rot5.free 0
  have hsame := Hid.mk' (same_true' p (some ⟨g, 0, none⟩) a1 _ _ cap cw rfl rfl hs.rd hrp (by omega))
  clear hs hr1 hc1 hc2 her hwr he hwn hst hpk hl1 hno1 hfr
  go_enter Tryd.func31, Tryd.ntmps31
  go_wp2_with (go_at_call 25; refine (hsame.out).mono ?_; rintro e w' ⟨rfl, m, rfl⟩)
  have hs2 := hs1.drewN m
  generalize w.drewN m = w2 at hs2 ⊢
  clear hs1 hsame c_o c_n f_b hrp hcw hce c_e c_w
  go_loopw [12] (fun i wr => ∃ k : Nat, k ≤ p.length ∧ i = .int .i64 k ∧ ∃ ns : List Int, Hid (ns.length = p.length) ∧ Sat w1 wr (1 * blk bb [.bool false] 4 * blk br [.int .i64 r] 3 * blk bn [.int .i64 pre.length] 3 * blk bo [.bool false] 4 * blk g (ns.map (Value.int .u8) ++ sp) 5)) (fun i _ => p.length - (intOf i).toNat)
  case atStart => exact ⟨0, by omega, rfl, p.map (fun b => (b.toNat : Int)), by show _ = _; rw [List.length_map], by rw [List.map_map]; exact hs2⟩
  case round =>
    clear hs2
    obtain ⟨k, hk, rfl, ns, hns, hS⟩ := hrel
    by_cases hlk : k < p.length
    · have hkn : k < ns.length := by rw [hns.out]; exact hlk
      have hcell : wr.cell? ⟨g, k, none⟩ = some (.int .u8 ns[k]) := hS.cell (by rw [List.getElem?_append_left (by simpa using hkn)]; simp [hkn])
      have hfree : wr.frozen? ⟨g, k, none⟩ = false := hS.free k
      go_wp2_with fail
      refine ⟨⟨k + 1, by omega, rfl, ns.set k (bits BinOp.xor IntKind.u8 ns[k] 255), by show _ = _; rw [List.length_set]; exact hns.out, ?_⟩, by simp [intOf]; omega⟩
      rw [List.map_set, ← List.set_append_left _ _ (by simpa using hkn)]
      exact hS.store k _
    · have h0 := hS.drop
      clear hS
      have n1 : bn ≠ bo := h0.blk_ne
      have n2 : br ≠ bo := h0.swap.drop.blk_ne
      have n3 : br ≠ bn := h0.drop.blk_ne
      have c_n : wr.cell? ⟨bn, 0, none⟩ = some (.int .i64 pre.length) := h0.swap.cell (i := 0) rfl
      have c_r : wr.cell? ⟨br, 0, none⟩ = some (.int .i64 r) := h0.rot3.cell (i := 0) rfl
      have c_o : wr.cell? ⟨bo, 0, none⟩ = some (.bool false) := h0.cell (i := 0) rfl
      have f_n : wr.frozen? ⟨bn, 0, none⟩ = false := h0.swap.free 0
      have f_o : wr.frozen? ⟨bo, 0, none⟩ = false := h0.free 0
      have hsb : bs < w1.heap.size := World.block_lt_of_cell? _ _ hst'.out
      have n4 : bs ≠ bn := by have := h0.swap.base; omega
      have c_s : wr.cell? ⟨bs, 0, none⟩ = some (.int .i64 st) := (h0.below.cell hsb).trans hst'.out
      have HS := Hid.mk' (show ∀ v : Bool, Sat w1 ((wr.setCell ⟨bn, 0, none⟩ (.int .i64 ((pre.length : Int) + 1))).setCell ⟨bo, 0, none⟩ (.bool v)) (boxes bn bo bb br (pre.length + 1) v r) from fun v => (h0.swap.store 0 _).swap.store 0 _)
      clear h0
      by_cases hr0 : r = 0
      · subst hr0
        by_cases hq : (pre.length : Int) + 1 = st
        · have HD := Hid.mk' (show decide ((pre.length : Int) + 1 = st) = true from decide_eq_true hq)
          have hqb : ((pre.length : Int) + 1 == st) = true := by rw [hq]; simp
          clear hq
          go_wp2_with fail
          go_ret
          refine Ret.mk ⟨?_, ?_⟩
          · simp only [HD.out]; rfl
          · simp only [HD.out]; exact HS.out true
        · have HD := Hid.mk' (show decide ((pre.length : Int) + 1 = st) = false from decide_eq_false hq)
          have hqb : ((pre.length : Int) + 1 == st) = false := beq_eq_false_iff_ne.2 hq
          clear hq
          go_wp2_with fail
          go_ret
          refine Ret.mk ⟨?_, ?_⟩
          · simp only [HD.out]; rfl
          · simp only [HD.out]; exact HS.out false
      · have HD := Hid.mk' (show decide (r = 0 ∧ (pre.length : Int) + 1 = st) = false from decide_eq_false (fun h => hr0 h.1))
        have hq' : ((r : Int) == 0) = false := beq_eq_false_iff_ne.2 (by omega)
        go_wp2_with fail
        go_ret
        refine Ret.mk ⟨?_, ?_⟩
        · first | rfl | (rw [HD.out]; rfl)
        · first | exact HS.out false | (rw [HD.out]; exact HS.out false)

/-- The number in a box. -/
def rdInt (w : World) (b : Nat) : Nat := match w.cell? ⟨b, 0, none⟩ with | some (.int _ z) => z.toNat | _ => 0

theorem rdInt_eq {w : World} {b : Nat} {k : IntKind} {z : Int} (h : w.cell? ⟨b, 0, none⟩ = some (.int k z)) : rdInt w b = z.toNat := by
  unfold rdInt
  rw [h]

theorem law13_each_enter : ∀ args w, (callFunc 31 args).run Tryd.prog w = .ok (.enter 31 args) w := by
  intro args w
  exact Tryd.call31 args w

/-- A whole walk over the frames. -/
theorem law13_rounds {w1 : World} (hT : CrcTab w1) (xs : List UInt8) (ao : Option Addr) (c : Nat) (hr : Rd w1 ao (bvs xs)) (hc : xs.length ≤ c) (hn : xs.length ≤ 16777216) (bd : Nat) (hd : w1.cell? ⟨bd, 0, none⟩ = some (.slice ao xs.length c))
    (bn bo bb br be bw bs : Nat) (r : Nat) (st : Int) (eo wo : Option Addr) (ecap wcap : Nat)
    (he : w1.cell? ⟨be, 0, none⟩ = some (.slice eo (frames xs).length ecap)) (her : Rd w1 eo (ints (ends 0 (frames xs)))) (hwn : w1.cell? ⟨bw, 0, none⟩ = some (.slice wo (frames xs).length wcap)) (hwr : RdL w1 wo (frames xs)) (hst : w1.cell? ⟨bs, 0, none⟩ = some (.int .i64 st))
    (w : World) (hs : Sat w1 w (boxes bn bo bb br 0 false r)) :
    Calls Tryd.prog 95 #[.func (.func 31) #[] #[.pointer (some ⟨bo, 0, none⟩), .pointer (some ⟨bn, 0, none⟩), .pointer (some ⟨be, 0, none⟩), .pointer (some ⟨bw, 0, none⟩), .pointer (some ⟨bb, 0, none⟩), .pointer (some ⟨br, 0, none⟩), .pointer (some ⟨bs, 0, none⟩)], .pointer (some ⟨bd, 0, none⟩)] w
      (Ret fun v w' => v = .tuple #[] ∧ ∃ (m : Nat) (ov : Bool), Sat w1 w' (boxes bn bo bb br m ov r) ∧ (m = (frames xs).length ∨ (r = 0 ∧ (m : Int) = st))) := by
  have hmem := @frames_mem xs
  have hsz := size_frames xs
  have hlz := len_le_size (frames xs)
  refine frames_yield (gf := 31) xs bd ao c hn hc law13_each_enter (fun pre w' => Sat w1 w' (boxes bn bo bb br pre.length false r))
    (fun w' => ∃ (m : Nat) (ov : Bool), Sat w1 w' (boxes bn bo bb br m ov r) ∧ (m = (frames xs).length ∨ (r = 0 ∧ (m : Int) = st))) ?_ ?_ ?_ ?_ w hs
  · intro pre w' h
    exact ⟨hT.mono h.below, hr.mono h.below, (h.below.cell (World.block_lt_of_cell? _ _ hd)).trans hd⟩
  · intro pre w' n h
    exact h.drewN n
  · intro pre p rest w2 w3 a cap h hf hp
    have hpm := hmem p (by rw [hf]; simp)
    have h3 := h.glue hp
    have hx := h3.vec_cases
    obtain ⟨hla, ⟨ea, ena, _⟩ | ⟨g, cap', sp, ea, _, _, _, _⟩⟩ := hx
    · omega
    cases ea
    refine (law13_each (frames xs) pre rest p hf hpm.1 hpm.2 (by omega) g cap bn bo bb br be bw bs r st eo wo ecap wcap he her hwn hwr hst h3).mono ?_
    rintro e w4 ⟨v, rfl, rfl, h4⟩
    refine Ret.mk ?_
    by_cases hd : r = 0 ∧ (pre.length : Int) + 1 = st
    · rw [decide_eq_true hd] at h4 ⊢
      exact Or.inr ⟨rfl, _, _, h4, Or.inr ⟨hd.1, by rw [← hd.2]; rfl⟩⟩
    · rw [decide_eq_false hd] at h4 ⊢
      refine Or.inl ⟨rfl, ?_⟩
      rw [List.length_append]
      exact h4
  · intro w' h
    exact ⟨_, _, h, Or.inl rfl⟩

set_option maxRecDepth 20000 in
set_option maxHeartbeats 6400000 in
theorem walk_walFrames {w : World} (hT : CrcTab w) (xs : List UInt8) (ao : Option Addr) (c : Nat) (hr : Rd w ao (bvs xs)) (hc : xs.length ≤ c) (hn : xs.length ≤ 16777216) (stop : Int) :
    Calls Tryd.prog 4 #[.agg #[.slice ao xs.length c, .int .i64 stop]] w (Ret fun v w' => v = .bool true ∧ Sat w w' 1) := by
  have HT := Hid.mk' hT
  have HR := Hid.mk' hr
  have hmf : ∀ (fn : Fn) (first cap : Array Value) (w : World), (Instr.makeFunc fn first cap).run Tryd.prog w = .ok (.func fn first cap) w := fun _ _ _ _ => rfl
  have hfn := @run_eql_func_nil
  have hs0 := (Sat.refl w).new #[.slice ao xs.length c, .int .i64 stop] 34
  clear hT hr
  go_enter Tryd.func4, Tryd.ntmps4
  go_wp2_with fail
  refine (kit_copy xs ao c (HR.out.mono hs0.below) (by omega)).mono ?_
  rintro e w1 ⟨vw, rfl, hx⟩
  have hs1 := hs0.glue hx
  obtain ⟨aw, cw, rfl, hlw, hrw, hnow⟩ := hs1.vec_rd
  clear hx hs0
  go_wp2_with fail
  refine (ref13_ends xs aw cw hrw (by omega) hlw).mono ?_
  rintro e w2 ⟨ve, rfl, hx⟩
  have hs2 := hs1.glue hx
  obtain ⟨eo, ecap, rfl, hle, hre, hnoe⟩ := hs2.vec_rd
  clear hx hs1
  go_wp2_with fail
  have hs3 := hs2.new #[.slice eo (frames xs).length ecap] 35
  clear hs2
  generalize w2.heap.size = be at hs3 ⊢
  generalize w2.alloc _ = w3 at hs3 ⊢
  refine (ref13_scan xs aw cw (hs3.rot3.swap.drop.rd) (by omega) hlw).mono ?_
  rintro e w4 ⟨v4, rfl, vp, rfl, hx⟩
  have hs4 := hs3.glue hx
  obtain ⟨wo, wcap, rfl, hlp, hrp, hnop⟩ := hs4.vecs_rd
  clear hx hs3 hre
  have hs5 := hs4.new #[.slice wo (frames xs).length wcap] 37
  have k1 := hs5.rot6.cell (i := 1) (v := .int .i64 stop) rfl
  have k2 := hs5.rot3.cell (i := 0) (v := .slice eo (frames xs).length ecap) rfl
  have hsz := size_frames xs
  have hlz := len_le_size (frames xs)
  have hs6 := hs5.new #[.int .i64 (pick stop ((frames xs).length + 2))] 3
  have k3 := hs6.rot7.cell (i := 0) (v := .slice ao xs.length c) rfl
  go_wp2_with (first | (go_at_call 29; go_loud (refine (kit_pick _ _ (by omega) (by omega)).mono ?_); rintro e w' ⟨rfl, rfl⟩; clear k1 k2) | (fail))
  clear k3
  rw [World.size_alloc] at hs6
  generalize pick stop _ = st at hs6 ⊢
  have n5 : w4.heap.size ≠ w4.heap.size + 1 := by omega
  generalize w4.heap.size = bw at hs6 n5 ⊢
  generalize bw + 1 = bs at hs6 n5 ⊢
  generalize World.alloc _ _ = w6 at hs6 ⊢
  clear hs5 hs4
  refine (wal_frames _ ao xs.length c rfl).mono ?_
  rintro e w7 ⟨vf, rfl, bd, rfl, hx⟩
  have f_s := (hx.below.cell (World.block_lt_of_cell? _ _ (hs6.cell (i := 0) rfl))).trans (hs6.cell (i := 0) rfl)
  have f_w := (hx.below.cell (World.block_lt_of_cell? _ _ (hs6.swap.cell (i := 0) rfl))).trans (hs6.swap.cell (i := 0) rfl)
  have f_e := (hx.below.cell (World.block_lt_of_cell? _ _ (hs6.rot4.cell (i := 0) rfl))).trans (hs6.rot4.cell (i := 0) rfl)
  have f_x := (hx.below.cell (World.block_lt_of_cell? _ _ (hs6.rot7.cell (i := 0) rfl))).trans (hs6.rot7.cell (i := 0) rfl)
  have r_e : Rd w7 eo (ints (ends 0 (frames xs))) := hs6.rot5.rd.mono hx.below
  have r_w : RdL w7 wo (frames xs) := by
    obtain ⟨_, _, e, _, h, _⟩ := hs6.rot3.vecs_rd
    cases e
    exact h.mono hx.below
  have r_0 : Rd w7 aw (bvs xs) := hs6.rot6.rd.mono hx.below
  have r_x : Rd w7 ao (bvs xs) := (HR.out.mono hs6.below).mono hx.below
  have f_d := hx.cell (i := 0) (v := .slice ao xs.length c) rfl
  have hcrc : CrcTab w7 := (HT.out.mono hs6.below).mono hx.below
  have hs7 := (hs6.glue hx)
  have HS7 := Hid.mk' (show Below w.heap.size w w7 from hs7.below)
  have hB := ((((Sat.refl w7).new #[.int .i64 0] 3).new #[.int .i64 0] 3).new #[.bool false] 4).new #[.bool false] 4
  clear hx hs6 hs7 hrp hnop hnoe hnow hrw
  go_wp2_with fail
  simp only [World.size_alloc] at hB
  have n1 : w7.heap.size ≠ w7.heap.size + 1 := by omega
  have hB' : Sat w7 ((((w7.alloc (.cells #[.int .i64 0] 3)).alloc (.cells #[.int .i64 0] 3)).alloc (.cells #[.bool false] 4)).alloc (.cells #[.bool false] 4)) (boxes w7.heap.size (w7.heap.size + 1 + 1) (w7.heap.size + 1 + 1 + 1) (w7.heap.size + 1) 0 false 0) := hB.perm (by unfold boxes; ac_rfl)
  clear hB n1
  generalize w7.heap.size + 1 + 1 + 1 = bb at hB' ⊢
  generalize w7.heap.size + 1 + 1 = bo at hB' ⊢
  generalize w7.heap.size + 1 = br at hB' ⊢
  obtain ⟨bn, hbn⟩ : ∃ bn, w7.heap.size = bn := ⟨_, rfl⟩
  rw [hbn] at hB' ⊢
  generalize World.alloc _ _ = w8 at hB' ⊢
  have hme := @frames_mem xs
  have HFE := Hid.mk' (fun r => law13_rounds hcrc xs ao c r_x hc hn bd f_d bn bo bb br be bw bs r st eo wo ecap wcap f_e r_e f_w r_w f_s)
  go_loopw [2] (fun v wr => v = .bool false ∧ ∃ (r n : Nat) (ov : Bool), r ≤ 2 ∧ Sat w7 wr (boxes bn bo bb br n ov r)) (fun _ wr => 2 - rdInt wr br)
  case atStart => exact ⟨rfl, 0, 0, false, by omega, hB'⟩
  case round =>
    clear hB'
    obtain ⟨rfl, r, n, ov, hr2, hS⟩ := hrel
    have m1 : bn ≠ bo := hS.blk_ne
    have m2 : br ≠ bo := hS.swap.drop.blk_ne
    have m3 : br ≠ bn := hS.drop.blk_ne
    have c_r : wr.cell? ⟨br, 0, none⟩ = some (.int .i64 r) := hS.rot3.cell (i := 0) rfl
    have f_n : wr.frozen? ⟨bn, 0, none⟩ = false := hS.swap.free 0
    have f_o : wr.frozen? ⟨bo, 0, none⟩ = false := hS.free 0
    have c_n : wr.cell? ⟨bn, 0, none⟩ = some (.int .i64 n) := hS.swap.cell (i := 0) rfl
    have c_o : wr.cell? ⟨bo, 0, none⟩ = some (.bool ov) := hS.cell (i := 0) rfl
    by_cases hlt : r < 2
    · have HS := Hid.mk' (show Sat w7 ((wr.setCell ⟨bn, 0, none⟩ (.int .i64 0)).setCell ⟨bo, 0, none⟩ (.bool false)) (boxes bn bo bb br 0 false r) from (hS.swap.store 0 _).swap.store 0 _)
      clear hS
      go_wp2_with fail
      refine (HFE.out r _ HS.out).mono ?_
      rintro e w9 ⟨v, rfl, rfl, m, ov', hS9, hm⟩
      have c_b9 : w9.cell? ⟨bb, 0, none⟩ = some (.bool false) := hS9.rot4.cell (i := 0) rfl
      have c_r9 : w9.cell? ⟨br, 0, none⟩ = some (.int .i64 r) := hS9.rot3.cell (i := 0) rfl
      have c_n9 : w9.cell? ⟨bn, 0, none⟩ = some (.int .i64 m) := hS9.swap.cell (i := 0) rfl
      have f_r9 : w9.frozen? ⟨br, 0, none⟩ = false := hS9.rot3.free 0
      have c_e9 := (hS9.below.cell (World.block_lt_of_cell? _ _ f_e)).trans f_e
      have c_s9 := (hS9.below.cell (World.block_lt_of_cell? _ _ f_s)).trans f_s
      have HS9 := Hid.mk' (show Sat w7 (w9.setCell ⟨br, 0, none⟩ (.int .i64 ((r : Int) + 1))) (boxes bn bo bb br m ov' (r + 1)) from ((hS9.rot3.store 0 (.int .i64 ((r : Int) + 1))).rot3.rot3))
      have HM := Hid.mk' (show rdInt (w9.setCell ⟨br, 0, none⟩ (.int .i64 ((r : Int) + 1))) br = r + 1 from rdInt_eq (HS9.out.rot3.cell (i := 0) (v := .int .i64 ((r + 1 : Nat) : Int)) rfl))
      have HM0 := Hid.mk' (rdInt_eq c_r)
      have HR9 : (rdInt wr br : Nat) = r := by rw [rdInt_eq c_r]; omega
      clear hS9 c_r f_n f_o c_n c_o
      by_cases q : m = (frames xs).length
      · clear hm
        subst q
        have q1 : (((frames xs).length : Int) != ((frames xs).length : Int)) = false := bne_eq_false_iff_eq.2 rfl
        go_wp2_with fail
        refine ⟨⟨by first | rfl | trivial, r + 1, _, _, by omega, HS9.out⟩, ?_⟩
        rw [HM.out, HR9]
        omega
      · obtain ⟨hr0, hm⟩ := hm.resolve_left q
        have q1 : ((m : Int) != ((frames xs).length : Int)) = true := bne_iff_ne.2 (by omega)
        have q3 : ((r : Int) == 1) = false := beq_eq_false_iff_ne.2 (by omega)
        have HR0 := Hid.mk' hr0
        subst hm
        clear hr0 q
        have q2 : ((m : Int) != (m : Int)) = false := bne_eq_false_iff_eq.2 rfl
        go_wp2_with fail
        refine ⟨⟨by first | rfl | trivial, r + 1, _, _, by omega, HS9.out⟩, ?_⟩
        rw [HM.out, HR9]
        omega
    · have hr2' : r = 2 := by omega
      subst hr2'
      have c_x := (hS.below.cell (World.block_lt_of_cell? _ _ f_x)).trans f_x
      go_wp2_with fail
      refine (same_true' xs ao aw _ _ c cw rfl rfl (r_x.mono hS.below) (r_0.mono hS.below) (by omega)).mono ?_
      rintro e w' ⟨rfl, m, rfl⟩
      go_wp2
      go_ret
      exact Ret.mk ⟨rfl, (Sat.start w).ext (HS7.out.trans ((hS.drewN m).below.mono HS7.out.size))⟩
end Go.Proofs.YtjhlelcopofkkaaDoor
