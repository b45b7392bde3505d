/- wal.Scan: a range over wal.Frames. -/
import Derived.Test.YtjhlelcopofkkaaDoorInRound
namespace Go.Proofs.YtjhlelcopofkkaaDoor
open Go.RowKit
attribute [local go_sem] Oper.semAt_some

set_option maxRecDepth 20000 in
set_option maxHeartbeats 3200000 in
/-- The frames, handed to a loop's body round by round. -/
theorem frames_range {dp l : Nat} (xs : List UInt8) (b : Nat) (ao : Option Addr) (c : Nat) (hn : xs.length ≤ 16777216) (hc : xs.length ≤ c)
    (J : List (List UInt8) → World → Prop)
    (hJ : ∀ pre w, J pre w → CrcTab w ∧ Rd w ao (bvs xs) ∧ w.cell? ⟨b, 0, none⟩ = some (.slice ao xs.length c))
    (hD : ∀ pre w n, J pre w → J pre (w.drewN n))
    (hY : ∀ pre p rest w w' g cap, J pre w → frames xs = pre ++ p :: rest → Sat w w' (vec 5 1 (.slice (some ⟨g, 0, none⟩) p.length cap) p.length (bvs p)) →
      YieldAt Fence.wide (dp - 1) Tryd.prog l #[.int .i64 (size pre + 8 + p.length), .slice (some ⟨g, 0, none⟩) p.length cap] w' (fun e w2 => e = .returned (.bool true) ∧ J (pre ++ [p]) w2))
    (w : World) (h0 : J [] w) :
    CallsIn Fence.wide dp Tryd.prog 95 #[.func (.yield l) #[] #[], .pointer (some ⟨b, 0, none⟩)] w (fun e w' => (∃ v, e = .returned v) ∧ J (frames xs) w') := by
  refine callsIn_of_wp Tryd.func95 rfl trivial ?_ rfl
  simp only [Tryd.ntmps95, List.size_toArray, List.length_cons, List.length_nil, Nat.reduceAdd, Nat.reduceSub, Array.replicate_succ, Array.replicate_zero, List.push_toArray, List.append_toArray, List.nil_append, List.cons_append]
  gi_wp2
  gi_loopw [3] (fun i wr => ∃ (k : Nat) (pre : List (List UInt8)), i = .int .i64 k ∧ Walked xs pre k ∧ J pre wr) (fun i _ => xs.length - (intOf i).toNat)
  case atStart => exact ⟨0, [], rfl, Walked.start xs, h0⟩
  case round =>
    obtain ⟨k, pre, rfl, hW, hj⟩ := hrel
    have HJ := Hid.mk' (hJ pre _ hj)
    have hk := hW.le
    have hcell := HJ.out.2.2
    by_cases hlt : k < xs.length
    · obtain ⟨b1, o1, rfl, _⟩ := HJ.out.2.1.addr (by intro e; have := bvs_length xs; rw [e] at this; simp at this; omega)
      have hrd : Rd wr (some ⟨b1, o1 + k, none⟩) (bvs (xs.drop k)) := by rw [← bvs_drop]; exact HJ.out.2.1.drop k
      have HS := Hid.mk' (show Calls Tryd.prog 96 #[.slice (some ⟨b1, o1 + k, none⟩) (xs.length - k) (c - k)] wr (Drew (.int .i64 (snd (xs.drop k))) wr) from by
        have := wal_sound HJ.out.1 (xs.drop k) _ (c - k) hrd (by rw [List.length_drop]; omega) (by rw [List.length_drop]; omega)
        rw [List.length_drop] at this
        exact this)
      by_cases h0 : snd (xs.drop k) = 0
      · have HQ := Hid.mk' (show ∀ m, J (frames xs) (wr.drewN m) from fun m => by rw [hW.done h0]; exact hD _ _ _ hj)
        rw [h0] at HS
        clear h0 hW hj HJ hJ hD hY
        gi_wp2_with (refine ⟨trivial, (fun e => by cases e), ?_⟩; refine (callsIn_wide.2 HS.out).mono ?_; rintro e w' ⟨rfl, m, rfl⟩)
        refine bodyPost_ret (results_none rfl _ _ _) rfl ?_
        exact ⟨⟨_, rfl⟩, HQ.out m⟩
      · obtain ⟨n, hnn⟩ : ∃ n, snd (xs.drop k) = n := ⟨_, rfl⟩
        have h0' : ((n : Int) == 0) = false := beq_eq_false_iff_ne.2 (by omega)
        have hsl := snd_le h0
        rw [hnn, List.length_drop] at hsl
        rw [hnn] at HS
        have HNN := Hid.mk' hnn
        have HC := Hid.mk' (show ∀ (m : Nat) (w3 : World) (A : HP), Sat (wr.drewN m) w3 A → w3.cell? ⟨b, 0, none⟩ = some (.slice (some ⟨b1, o1, none⟩) xs.length c) from fun m w3 A h => ((hD _ _ m hj |> hJ pre _).2.2 |> fun e => (h.below.cell (World.block_lt_of_cell? _ _ e)).trans e))
        have HRD := Hid.mk' (show ∀ (m : Nat) (w3 : World) (A : HP), Sat (wr.drewN m) w3 A → Rd w3 (some ⟨b1, o1 + (k + 8), none⟩) (bvs ((xs.drop (k + 8)).take n)) from fun m w3 A h => ((hD _ _ m hj |> hJ pre _).2.1.mono h.below).sub (k + 8) n)
        have hpl : ((xs.drop (k + 8)).take n).length = n := by rw [List.length_take, List.length_drop]; omega
        have HPL := Hid.mk' (show (bvs ((xs.drop (k + 8)).take n)).length = n by rw [bvs_length, hpl])
        have hfr : frames xs = pre ++ (xs.drop (k + 8)).take n :: frames (xs.drop (k + (8 + n))) := by
          have := (hW.next h0).eq
          rw [hnn] at this
          rw [this]
          simp
        have HY := Hid.mk' (show ∀ (m : Nat) (w' : World) (g cap : Nat), Sat (wr.drewN m) w' (vec 5 1 (.slice (some ⟨g, 0, none⟩) n cap) n (bvs ((xs.drop (k + 8)).take n))) →
            YieldAt Fence.wide (dp - 1) Tryd.prog l #[.int .i64 ((k : Int) + (8 + (n : Int))), .slice (some ⟨g, 0, none⟩) n cap] w' (fun e w2 => e = .returned (.bool true) ∧ J (pre ++ [(xs.drop (k + 8)).take n]) w2) from fun m w' g cap h => by
          have := hY pre _ _ (wr.drewN m) w' g cap (hD _ _ m hj) hfr (by rw [hpl]; exact h)
          rw [hpl, ← hW.at_, show (k : Int) + 8 + (n : Int) = (k : Int) + (8 + (n : Int)) by omega] at this
          exact this)
        have HW := Hid.mk' hW
        clear hpl hfr hY hD hJ hj hW HJ hrd hnn h0
        gi_wp2_with (first | (refine ⟨trivial, (fun e => by cases e), ?_⟩; refine (callsIn_wide.2 HS.out).mono ?_; rintro e w' ⟨rfl, m, rfl⟩; have hs0 := Sat.refl (wr.drewN m)) | (gi_at_make; refine wpListIn_of_one' ?_; go_loud (refine sl_make rfl _ _ 22 rfl 5 (.int .u8 0) 1 rfl Tryd.underlying22 info_u8 .i64 .i64 _ _ n rfl rfl (by omega) (by omega) (by omega) (by simp only [maxLen]; omega) (by exact hs0) ?_); intro w3 hs5; refine ⟨rfl, ?_⟩; have hcell3 := HC.out m w3 _ hs5) | ((with_reducible refine gate_opIn (.call { callee := .builtin .copy, args := #[.tmp 14, .tmp 18], argTypes := #[22, 22] }) rfl ?_); refine wpListIn_of_one' ?_; go_loud (refine sl_copy rfl _ _ _ _ rfl 5 Tryd.underlying22 size_u8 _ _ _ _ _ _ rfl rfl _ 0 _ _ (by exact hs5) (bvs ((xs.drop (k + 8)).take n)) (by rw [HPL.out]; exact (Nat.min_eq_right (by omega)).symm) (fun _ => rfl) (by exact HRD.out m _ _ hs5) (by rw [HPL.out, List.length_replicate]; omega) (bvs_one _) ?_); intro w4 hs6; refine ⟨rfl, ?_⟩; rw [put_all (by rw [HPL.out, List.length_replicate])] at hs6; obtain ⟨fn, tmps, assign, body, hy, hR⟩ := HY.out m w4 _ n ((hs6.as_vec (n := n) (by rw [HPL.out, Nat.mul_one]) (by simp only [maxLen]; omega)).unone')))
        refine ⟨(fun e => by cases e), hR.mono ?_⟩
        have HNX := Hid.mk' (by have := HW.out.next (by rw [HNN.out]; omega); rw [HNN.out] at this; exact this)
        have hle := HNX.out.le
        rintro e w5 ⟨rfl, hj5⟩
        gi_wp2
        refine ⟨⟨k + (8 + n), pre ++ [(xs.drop (k + 8)).take n], by first | rfl | trivial, HNX.out, hj5⟩, by simp [intOf]; omega⟩
    · have hkk : k = xs.length := by omega
      subst hkk
      have HQ := Hid.mk' (show ∀ m, J (frames xs) (wr.drewN m) from fun m => by rw [hW.end_ (Nat.le_refl _)]; exact hD _ _ _ hj)
      have HS := Hid.mk' (show ∀ a c', Calls Tryd.prog 96 #[.slice a 0 c'] wr (Drew (.int .i64 0) wr) from fun a c' => by
        have := wal_sound HJ.out.1 [] a c' (Rd.nil _ _) (by simp) (by simp)
        rw [snd_short (by simp)] at this
        exact this)
      clear hW hj HJ hJ hD hY
      gi_wp2_with (refine ⟨trivial, (fun e => by cases e), ?_⟩; refine (callsIn_wide.2 (HS.out _ _)).mono ?_; rintro e w' ⟨rfl, m, rfl⟩)
      all_goals
        refine bodyPost_ret (results_none rfl _ _ _) rfl ?_
        exact ⟨⟨_, rfl⟩, HQ.out m⟩

/-- Between two rounds: what Scan's own cells hold. -/
def scanned (bd bs D l bl : Nat) (s : Value) (r : Loop) (pre : List (List UInt8)) : HP := fun h => ∃ (vs : List Value) (lv : Value),
  (1 * blk bd [s] 22 * obj D (.deferred (some [])) * bvl vs pre * obj l (.loop r) * blk bs [.int .i64 (size pre)] 3 * blk bl [lv] 37 * vec 22 1 lv pre.length vs) h
theorem scanned_open {w0 w : World} {bd bs D l bl : Nat} {s : Value} {r : Loop} {pre : List (List UInt8)} (hs : Sat w0 w (scanned bd bs D l bl s r pre)) : ∃ (vs : List Value) (lv : Value), vs.length = pre.length ∧
    Sat w0 w (1 * blk bd [s] 22 * obj D (.deferred (some [])) * bvl vs pre * obj l (.loop r) * blk bs [.int .i64 (size pre)] 3 * blk bl [lv] 37 * vec 22 1 lv pre.length vs) := by
  obtain ⟨x, ⟨vs, lv, hx⟩, hh⟩ := hs.held
  have h : Sat w0 w (1 * blk bd [s] 22 * obj D (.deferred (some [])) * bvl vs pre * obj l (.loop r) * blk bs [.int .i64 (size pre)] 3 * blk bl [lv] 37 * vec 22 1 lv pre.length vs) := ⟨hs.below, x, hx, hh⟩
  exact ⟨vs, lv, h.rot5.bvl_len, h⟩

set_option maxRecDepth 20000 in
set_option maxHeartbeats 3200000 in
theorem wal_scan {w : World} (hT : CrcTab w) (xs : List UInt8) (ao : Option Addr) (c : Nat) (hr : Rd w ao (bvs xs)) (hc : xs.length ≤ c) (hn : xs.length ≤ 16777216) :
    Calls Tryd.prog 39 #[.slice ao xs.length c] w (Ret fun v w' => ∃ u, v = .tuple #[u, .int .i64 (size (frames xs))] ∧ Sat w w' (vecs u (frames xs))) := by
  have HT := Hid.mk' hT
  have HR := Hid.mk' hr
  clear hT hr
  refine callsIn_wide.1 (callsIn_of_wp_marks (n := 3) Tryd.func39 rfl trivial ?_ rfl)
  simp only [Tryd.ntmps39, List.size_toArray, List.length_cons, List.length_nil, Nat.reduceAdd, Nat.reduceSub, Array.replicate_succ, Array.replicate_zero, List.push_toArray, List.append_toArray, List.nil_append, List.cons_append]
  have hs1 := ((Sat.refl w).new #[.slice none 0 0] 37).new #[.int .i64 0] 3
  gi_wp2_with (refine ⟨trivial, ?_⟩; refine (callsIn_wide.2 (wal_frames _ ao xs.length c rfl)).mono ?_; rintro e w2 ⟨v, rfl, bd, rfl, hx⟩; have hs2 := hs1.glue hx; clear hs1 hx)
  have hbs : (w.alloc (Obj.cells #[Value.slice none 0 0] 37)).heap.size = w.heap.size + 1 := World.size_alloc _ _
  rw [hbs] at hs2
  generalize w.heap.size + 1 = bs at hs2 ⊢
  have hbl : ∃ bl, w.heap.size = bl := ⟨_, rfl⟩
  obtain ⟨bl, hbl⟩ := hbl
  rw [hbl] at hs2 ⊢
  refine wpIn_range (gf := 95) (lb := #[.pointer (some ⟨bd, 0, none⟩)]) rfl Tryd.call95 ?_
  intro fn rec hrec
  refine CallsIn.mono (frames_range xs bd ao c hn hc (fun pre W' => Sat w W' (scanned bd bs w2.heap.size (w2.heap.size + 1) bl (.slice ao xs.length c) (rec .ready none) pre)) ?_ ?_ ?_ _ ?_) ?_
  · intro pre w' h
    obtain ⟨vs, lv, _, h1⟩ := scanned_open h
    exact ⟨HT.out.mono h1.below, HR.out.mono h1.below, h1.rot7.cell (i := 0) rfl⟩
  · intro pre w' n h
    exact h.drewN n
  · intro pre p rest w3 w4 g cap h hf hp
    obtain ⟨vs, lv, hvl, h1⟩ := scanned_open h
    have h2 := h1.glue hp
    have hl : w4.heap[w2.heap.size + 1]? = some (.loop (rec .ready none)) := h2.rot5.obj_heap.2
    have hpm := frames_mem (d := xs) p (by rw [hf]; simp)
    have hsz := size_frames xs
    have hlz := len_le_size (frames xs)
    have hpl : pre.length ≤ xs.length := by
      have : pre.length < (frames xs).length := by rw [hf, List.length_append, List.length_cons]; omega
      omega
    subst hrec
    clear h h1 hp
    refine yield_round hl rfl ?_
    generalize hrr : recOf fn _ _ _ _ _ = rec at *
    have h3 := h2.rot5.putObj (.loop (rec .busy none))
    have n1 : bs ≠ bl := h3.rot5.rot5.blk_ne
    have c_l := h3.rot4.cell (i := 0) (v := lv) rfl
    have HX := Hid.mk' hrr
    have HFIN := Hid.mk' (show ∀ (w' : World) (v' : Value), Sat w w' (1 * blk bd [.slice ao xs.length c] 22 * obj w2.heap.size (.deferred (some [])) * bvl vs pre * blk bs [.int .i64 (size pre)] 3 * blk bl [lv] 37 * vec 5 1 (.slice (some ⟨g, 0, none⟩) p.length cap) p.length (bvs p) * obj (w2.heap.size + 1) (.loop (rec .busy none)) * vec 22 1 v' (pre.length + 1) (vs ++ [.slice (some ⟨g, 0, none⟩) p.length cap])) →
        ((w'.setCell ⟨bl, 0, none⟩ v').setCell ⟨bs, 0, none⟩ (.int .i64 ((size pre : Int) + 8 + p.length))).heap[w2.heap.size + 1]? = some (.loop (rec .busy none)) ∧
        Sat w (((w'.setCell ⟨bl, 0, none⟩ v').setCell ⟨bs, 0, none⟩ (.int .i64 ((size pre : Int) + 8 + p.length))).putObj (w2.heap.size + 1) (.loop (rec .ready none))) (scanned bd bs w2.heap.size (w2.heap.size + 1) bl (.slice ao xs.length c) (rec .ready none) (pre ++ [p])) from by
      intro w' v' h
      have h4 := (h.rot4.store 0 v').rot5.store 0 (.int .i64 ((size pre : Int) + 8 + p.length))
      have h5 := h4.rot4
      refine ⟨h5.obj_heap.2, (h5.putObj (.loop (rec .ready none))).imp ?_⟩
      intro x hx
      refine ⟨vs ++ [.slice (some ⟨g, 0, none⟩) p.length cap], v', ?_⟩
      rw [bvl_snoc hvl, size_snoc, List.length_append, List.length_singleton]
      have e1 : ((size pre + (8 + p.length) : Nat) : Int) = (size pre : Int) + 8 + p.length := by omega
      rw [e1]
      have e2 : ∀ {A B : HP}, A = B → A x → B x := fun e h => e ▸ h
      exact e2 (by simp only [List.set_cons_zero]; ac_rfl) hx)
    have HMADE := Hid.mk' (show Rd ((w4.putObj (w2.heap.size + 1) (.loop (rec .busy none))).alloc (.cells #[.slice (some ⟨g, 0, none⟩) p.length cap] 22)) (some ⟨w4.heap.size, 0, none⟩) [.slice (some ⟨g, 0, none⟩) p.length cap] from by
      have := Rd.made (w4.putObj (w2.heap.size + 1) (.loop (rec .busy none))) [.slice (some ⟨g, 0, none⟩) p.length cap] 22 (0, 0)
      rw [World.putObj_size] at this
      exact this)
    clear hrr hf hvl
    gi_wp2_with (gi_at_builtin; refine wpListIn_of_one (by intro c h; cases h) ?_; go_loud (refine sl_append rfl _ _ 37 rfl 22 (.slice none 0 0) 1 24 Tryd.underlying37 info_bytes rfl (by decide) _ pre.length _ rfl (by exact h3.rot3.skip) _ 1 _ [.slice (some ⟨g, 0, none⟩) p.length cap] rfl rfl (by exact HMADE.out) (by intro u hu; simp at hu; subst hu; rfl) (by simp only [maxLen]; omega) (by omega) ?_); intro v' w' hS'; refine ⟨rfl, ?_⟩; obtain ⟨a5, cap5, rfl, _, _, _⟩ := hS'.vec_rd; have hfin := Hid.mk' (HFIN.out w' _ hS'); have c_l' := hS'.rot4.cell (i := 0) (v := lv) rfl; have f_l := hS'.rot4.free 0; have f_s := hS'.rot5.free 0; have c_s := hS'.rot5.cell (i := 0) (v := .int .i64 (size pre)) rfl)
    exact hfin.out
  · have h3 := (hs2.new_obj (.deferred (some []))).new_obj (.loop (rec .ready none))
    rw [World.size_alloc] at h3
    refine h3.imp ?_
    intro x hx
    refine ⟨[], .slice none 0 0, ?_⟩
    have e2 : ∀ {A B : HP}, A = B → A x → B x := fun e h => e ▸ h
    refine e2 ?_ hx
    show _ = 1 * blk bd [.slice ao xs.length c] 22 * obj w2.heap.size (.deferred (some [])) * 1 * obj (w2.heap.size + 1) (.loop (rec .ready none)) * blk bs [.int .i64 0] 3 * blk bl [.slice none 0 0] 37 * vec 22 1 (.slice none 0 0) 0 []
    show 1 * blk bl [.slice none 0 0] 37 * blk bs [.int .i64 0] 3 * (1 * blk bd [.slice ao xs.length c] 22) * obj w2.heap.size (.deferred (some [])) * obj (w2.heap.size + 1) (.loop (rec .ready none)) = _
    rw [vec_nil]
    simp only [HP.mul_one, HP.one_mul]
    ac_rfl
  · rintro e w5 ⟨hv, h⟩
    obtain ⟨vs, lv, hvl, h1⟩ := scanned_open h
    refine ⟨hv, h1.rot4.obj_heap.2, ?_⟩
    have h6 := h1.rot4.putObj (.loop (rec .exhausted none))
    have c_l := h6.rot3.cell (i := 0) (v := lv) rfl
    have c_s := h6.rot4.cell (i := 0) (v := .int .i64 (size (frames xs))) rfl
    clear hrec h1 h
    generalize w5.putObj (w2.heap.size + 1) (.loop (rec .exhausted none)) = w6 at h6 c_l c_s ⊢
    gi_wp2
    refine wpIn_wide.2 ?_
    go_quiet (fail)
    go_wp2
    have h7 := h6.drewN nq
    have hK := h7.rot6.obj_heap.2
    gi_wp2
    refine ⟨by simp, .inl ⟨_, _, rfl, run_takeDeferred hK, ?_⟩⟩
    have h8 := h7.rot6.putObj (.deferred none)
    refine ⟨_, results_tmp2 rfl _ _ _, Ret.mk ⟨lv, rfl, ?_⟩⟩
    refine (Sat.vecs_shut (F := 1) (vs := vs) ?_).unone'
    exact (h8.perm (B := 1 * vec 22 1 lv (frames xs).length vs * bvl vs (frames xs) * (blk bd [.slice ao xs.length c] 22 * blk bs [.int .i64 (size (frames xs))] 3 * blk bl [lv] 37 * obj (w2.heap.size + 1) (.loop (rec .exhausted none)) * obj w2.heap.size (.deferred none))) (by ac_rfl)).drop
end Go.Proofs.YtjhlelcopofkkaaDoor
