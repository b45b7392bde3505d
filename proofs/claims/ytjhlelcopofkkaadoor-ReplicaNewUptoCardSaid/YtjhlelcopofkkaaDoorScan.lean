/- The document's own Ends and Scan. · wal: what stands at the head; and the laws' own comparing of lists. · wal.Frames: a closure over the bytes, and what it does with a function that is handed to it. · One operation of a round's body of a range over a function, by a law for the same operation elsewhere. · wal.Scan: a range over wal.Frames. · The law WalTorn: the chapter's own example; the frames of payloads, one behind the other. · The laws' own 'joined': frames one behind the other. · The chapter's own example of a frame. -/
import Derived.Test.YtjhlelcopofkkaaDoorBase
import Derived.RangeFuncNested
import Derived.RangeFuncBound
import Derived.RangeFuncCalls
import Derived.RangeFuncLeaves
import Derived.Shelf.Abstract
import Derived.Shelf.RegionOpen
import Derived.WalkKit
import Derived.OwnWalkIn
import Derived.TacticsInMore
import Derived.LoopNIn
import Derived.LoopIn

/-! ScanR2 -/
namespace Go.Proofs.YtjhlelcopofkkaaDoor
open Go.RowKit

theorem fr8_zero {d : List UInt8} : fr8 d = 0 ↔ snd d = 0 := by
  unfold fr8
  split <;> omega
theorem fr8_snd {d : List UInt8} (h : snd d ≠ 0) : fr8 d = 8 + snd d := if_neg h

set_option maxRecDepth 20000 in
set_option maxHeartbeats 3200000 in
theorem ref13_ends {w : World} (xs : List UInt8) (ao : Option Addr) (c : Nat) (hr : Rd w ao (bvs xs)) (hn : xs.length ≤ 16777216) (hc : xs.length ≤ c) :
    Calls Tryd.prog 27 #[.slice ao xs.length c] w (Ret fun v w' => Sat w w' (vec 3 1 v (frames xs).length (ints (ends 0 (frames xs))))) := by
  have HR := Hid.mk' hr
  clear hr
  go_enter Tryd.func27, Tryd.ntmps27
  go_wp2
  go_loopw [3, 4] (fun l i wr => ∃ (k : Nat) (pre : List (List UInt8)), i = .int .i64 k ∧ Walked xs pre k ∧ Sat w wr (1 * vec 3 1 l pre.length (ints (ends 0 pre)))) (fun _ i _ => xs.length - (intOf i).toNat)
  case atStart => exact ⟨0, [], rfl, Walked.start xs, (Sat.refl w).vec_nil _ _⟩
  case round =>
    obtain ⟨k, pre, rfl, hW, hs⟩ := hrel
    have hk := hW.le
    have HW := Hid.mk' hW
    have hpl := len_le_size pre
    rw [← hW.at_] at hpl
    clear hW
    by_cases hlt : k < xs.length
    · by_cases h0 : fr8 (xs.drop k) = 0
      · go_wp2_with (go_at_call 93; refine (ref13_sound xs ao c (HR.out.mono hs.below) hn hc k (by omega)).mono ?_; rintro e w2 ⟨v, rfl, rfl, hx⟩; rw [h0])
        go_ret
        refine Ret.mk ?_
        have hs2 := hs.then1 hx
        rw [HW.out.done (fr8_zero.1 h0), HP.one_mul] at *
        exact hs2
      · have hne : snd (xs.drop k) ≠ 0 := fun e => h0 (fr8_zero.2 e)
        have hnx := HW.out.next hne
        have hfr := fr8_snd hne
        have hsl := snd_le hne
        rw [List.length_drop] at hsl
        obtain ⟨n, hnn⟩ : ∃ n, fr8 (xs.drop k) = n := ⟨_, rfl⟩
        rw [← hfr, hnn] at hnx
        have hn0 : 0 < n := by omega
        have h0' : ((n : Int) == 0) = false := beq_eq_false_iff_ne.2 (by omega)
        have hle := hnx.le
        have hen := ends_snoc 0 pre ((xs.drop (k + 8)).take (snd (xs.drop k)))
        have hlen : ((xs.drop (k + 8)).take (snd (xs.drop k))).length = snd (xs.drop k) := by rw [List.length_take, List.length_drop]; omega
        rw [hlen, ← HW.out.at_, show 0 + k + 8 + snd (xs.drop k) = k + n by omega] at hen
        have HEN := Hid.mk' (show ints (ends 0 (pre ++ [(xs.drop (k + 8)).take (snd (xs.drop k))])) = ints (ends 0 pre) ++ [.int .i64 ((k : Int) + (n : Int))] by rw [hen, ints_snoc, Int.natCast_add])
        have HNX := Hid.mk' hnx
        have HNN := Hid.mk' hnn
        clear hen hlen hnx hne hfr hsl h0 hnn
        go_wp2_with (first | (go_at_call 93; refine (ref13_sound xs ao c (HR.out.mono hs.below) hn hc k (by omega)).mono ?_; rintro e w2 ⟨v, rfl, rfl, hx⟩; rw [HNN.out]; have hs2 := hs.then1 hx; clear hx hs) | (at_builtin; go_loud (refine sl_append rfl _ _ 35 rfl 3 (.int .i64 0) 1 8 Tryd.underlying35 info_int rfl (by decide) _ pre.length _ rfl (by exact hs2.skip) _ 1 _ [.int .i64 ((k : Int) + (n : Int))] rfl rfl (by exact Rd.made _ _ _ _) (by intro u hu; simp at hu; subst hu; rfl) (by simp only [maxLen]; omega) (by omega) ?_); intro v' w' hS'))
        refine ⟨⟨k + n, pre ++ [_], by first | rfl | trivial, HNX.out, by rw [HEN.out, List.length_append]; exact hS'⟩, by simp [intOf]; omega⟩
    · go_wp2
      go_ret
      refine Ret.mk ?_
      rw [HW.out.end_ (by omega)]
      rw [HP.one_mul] at hs
      exact hs

set_option maxRecDepth 20000 in
set_option maxHeartbeats 1600000 in
theorem ref13_copied {w : World} (xs : List UInt8) (ao : Option Addr) (c : Nat) (hr : Rd w ao (bvs xs)) (hno : ao = none → xs.length = 0 ∧ c = 0) (hn : xs.length ≤ 16777216) :
    Calls Tryd.prog 94 #[.slice ao xs.length c] w (Ret fun v w' => Sat w w' (vec 5 1 v xs.length (bvs xs))) := by
  have HR := Hid.mk' hr
  have HNO := Hid.mk' hno
  have HL := Hid.mk' (bvs_length xs)
  have hs := (Sat.refl w).vec_nil 5 1
  clear hr hno
  go_enter Tryd.func94, Tryd.ntmps94
  go_wp2_with (at_builtin; go_loud (refine sl_append_any rfl _ _ 22 rfl 5 (.int .u8 0) 1 1 Tryd.underlying22 info_u8 rfl (by decide) _ 0 _ rfl (by exact hs) _ xs.length c (bvs xs) rfl HNO.out (by rw [HL.out, Nat.mul_one]) (by exact HR.out) (bvs_one _) (by simp only [maxLen]; omega) (by omega) ?_); intro v2 w2 hs2)
  go_ret
  rw [HP.one_mul, List.nil_append, Nat.zero_add] at hs2
  exact Ret.mk hs2

/-- The frame of a number lies where those ahead of it end. -/
theorem frs_at : ∀ (f : Nat) (d : List UInt8) (k : Nat) (h : k < (frs f d).length), (d.drop (size ((frs f d).take k) + 8)).take ((frs f d)[k]).length = (frs f d)[k] ∧ size ((frs f d).take k) + 8 + ((frs f d)[k]).length ≤ d.length := by
  intro f
  induction f with
  | zero => intro d k h; simp [frs] at h
  | succ f ih =>
    intro d k h
    by_cases e : snd d = 0
    · simp [frs, e] at h
    · have hl := snd_le e
      have hf : frs (f + 1) d = (d.drop 8).take (snd d) :: frs f (d.drop (8 + snd d)) := by rw [frs, if_neg e]
      have hpl : ((d.drop 8).take (snd d)).length = snd d := by rw [List.length_take, List.length_drop]; omega
      cases k with
      | zero =>
        simp only [hf, List.take_zero, List.getElem_cons_zero, size, Nat.zero_add, hpl]
        exact ⟨trivial, by omega⟩
      | succ k =>
        have hk : k < (frs f (d.drop (8 + snd d))).length := by rw [hf] at h; simpa using h
        obtain ⟨h1, h2⟩ := ih (d.drop (8 + snd d)) k hk
        simp only [hf, List.take_succ_cons, List.getElem_cons_succ, size, hpl]
        rw [List.length_drop] at h2
        rw [List.drop_drop] at h1
        refine ⟨?_, by omega⟩
        rw [show 8 + snd d + size (List.take k (frs f (List.drop (8 + snd d) d))) + 8 = 8 + snd d + (size (List.take k (frs f (List.drop (8 + snd d) d))) + 8) by omega]
        exact h1
theorem frames_at (d : List UInt8) (k : Nat) (h : k < (frames d).length) : (d.drop (size ((frames d).take k) + 8)).take ((frames d)[k]).length = (frames d)[k] ∧ size ((frames d).take k) + 8 + ((frames d)[k]).length ≤ d.length := frs_at _ _ _ _
theorem size_take_succ (ps : List (List UInt8)) (k : Nat) (h : k < ps.length) : size (ps.take (k + 1)) = size (ps.take k) + 8 + ps[k].length := by
  rw [take_snoc _ _ h, size_snoc]
  omega

set_option maxRecDepth 20000 in
set_option maxHeartbeats 3200000 in
theorem ref13_scan {w : World} (xs : List UInt8) (ao : Option Addr) (c : Nat) (hr : Rd w ao (bvs xs)) (hn : xs.length ≤ 16777216) (hc : xs.length ≤ c) :
    Calls Tryd.prog 28 #[.slice ao xs.length c] w (Ret fun v w' => ∃ u, v = .tuple #[u, .int .i64 (size (frames xs))] ∧ Sat w w' (vecs u (frames xs))) := by
  have HR := Hid.mk' hr
  have HL := Hid.mk' (bvs_length xs)
  have hall := frames_at xs
  have hmem := @frames_mem xs
  have hsz := size_frames xs
  have hlz := len_le_size (frames xs)
  have HE := Hid.mk' (ref13_ends xs ao c hr hn hc)
  have HG := Hid.mk' (fun k h => ends_get 0 (frames xs) k h)
  have HEL := Hid.mk' (ends_length 0 (frames xs))
  clear hr
  generalize frames xs = fr at *
  have HA := Hid.mk' hall
  have HM := Hid.mk' hmem
  clear hall hmem
  go_enter Tryd.func28, Tryd.ntmps28
  go_wp2_with (go_at_call 27; refine (HE.out).mono ?_; go_loud (rintro e w1 ⟨v, rfl, hs1⟩; obtain ⟨eo, ecap, rfl, ele, erd, eno⟩ := hs1.one'.vec_rd))
  go_loopw [5, 6, 7] (fun l a i wr => ∃ (k : Nat) (vs : List Value) (lv : Value), k ≤ fr.length ∧ vs.length = k ∧ a = .int .i64 (size (fr.take k)) ∧ i = .int .i64 k ∧ lv = l ∧ Sat w wr (vec 3 1 (.slice eo fr.length ecap) fr.length (ints (ends 0 fr)) * vec 22 1 lv k vs * bvl vs (fr.take k))) (fun _ _ i _ => fr.length - (intOf i).toNat)
  case atStart => exact ⟨0, [], _, by omega, rfl, rfl, rfl, rfl, by rw [List.take_zero, bvl_nil, HP.mul_one]; exact hs1.vec_nil _ _⟩
  case round =>
    obtain ⟨k, vs, l, hk, hvl, rfl, rfl, rfl, hs⟩ := hrel
    by_cases hlt : k < fr.length
    · have hA := HA.out k hlt
      have hS := size_take_succ fr k hlt
      have herd := (hs.perm (B := vec 22 1 l k vs * bvl vs (fr.take k) * vec 3 1 (.slice eo fr.length ecap) fr.length (ints (ends 0 fr))) (by ac_rfl)).rd
      obtain ⟨be, oe, rfl, hcells⟩ := herd.addr (by intro e; have := ints_length (ends 0 fr); rw [e, HEL.out] at this; simp at this; omega)
      obtain ⟨b, o, rfl, _⟩ := (HR.out).addr (by intro e; have := HL.out; rw [e] at this; simp at this; omega)
      have HC := Hid.mk' (show ∀ (w' : World) (F : HP), Sat w w' (F * vec 3 1 (.slice (some ⟨be, oe, none⟩) fr.length ecap) fr.length (ints (ends 0 fr))) → w'.cell? ⟨be, oe + k, none⟩ = some (.int .i64 ((size (fr.take k) : Int) + 8 + (fr[k].length : Int))) from by
        intro w' F h
        rcases h.rd with h | ⟨b', o', e, hc'⟩
        · have := ints_length (ends 0 fr)
          rw [h, HEL.out] at this
          simp at this
          omega
        · cases e
          rw [hc' k _ (ints_get (HG.out k hlt)), hS, Nat.zero_add]
          rfl)
      have hcell := HC.out wr _ (hs.perm (B := vec 22 1 l k vs * bvl vs (fr.take k) * vec 3 1 (.slice (some ⟨be, oe, none⟩) fr.length ecap) fr.length (ints (ends 0 fr))) (by ac_rfl))
      clear hcells herd
      have HRS := Hid.mk' (show Rd wr (some ⟨b, o + (size (fr.take k) + 8), none⟩) (bvs fr[k]) from by
        have := (HR.out.mono hs.below).sub (size (fr.take k) + 8) fr[k].length
        rw [hA.1] at this
        exact this)
      have hA2 := hA.2
      have hp1 := (HM.out _ (List.getElem_mem hlt)).1
      have HS := Hid.mk' hS
      have HT := Hid.mk' (take_snoc fr k hlt)
      clear hA hS hs1 erd eno HE
      generalize fr[k] = p at *
      generalize size (fr.take k) = S at *
      go_wp2_with (first | (go_at_call 94; go_loud (refine (ref13_copied p _ _ HRS.out (fun h => by cases h) (by omega)).mono ?_; rintro e w2 ⟨v2, rfl, hs2⟩); have hs3 := hs.glue hs2; clear hs hs2; obtain ⟨ao2, cap2, rfl, hle2, hrd2, hno2⟩ := hs3.vec_rd) | (at_builtin; go_loud (refine sl_append rfl _ _ 37 rfl 22 (.slice none 0 0) 1 24 Tryd.underlying37 info_bytes rfl (by decide) _ k _ rfl (by exact (hs3.perm (B := vec 3 1 (.slice (some ⟨be, oe, none⟩) fr.length ecap) fr.length (ints (ends 0 fr)) * bvl vs (fr.take k) * vec 5 1 (.slice ao2 p.length cap2) p.length (bvs p) * vec 22 1 l k vs) (by ac_rfl)).skip) _ 1 _ [.slice ao2 p.length cap2] rfl rfl (by exact Rd.made _ _ _ _) (by intro u hu; simp at hu; subst hu; rfl) (by simp only [maxLen]; omega) (by omega) ?_); intro v' w' hS'; have hcell' := HC.out w' _ (hS'.perm (B := bvl vs (fr.take k) * vec 5 1 (.slice ao2 p.length cap2) p.length (bvs p) * vec 22 1 v' (k + 1) (vs ++ [.slice ao2 p.length cap2]) * vec 3 1 (.slice (some ⟨be, oe, none⟩) fr.length ecap) fr.length (ints (ends 0 fr))) (by ac_rfl))))
      refine ⟨⟨k + 1, vs ++ [.slice ao2 p.length cap2], v', by omega, by simp [hvl], by rw [HS.out]; first | rfl | (congr 1; omega), by first | rfl | trivial, by first | rfl | trivial, ?_⟩, by simp [intOf]; omega⟩
      rw [HT.out, bvl_snoc (by rw [hvl, List.length_take]; omega)]
      exact hS'.perm (by ac_rfl)
    · have hkk : k = fr.length := by omega
      subst hkk
      have HTL := Hid.mk' (List.take_length (l := fr))
      go_wp2
      go_ret2
      refine Ret.mk ⟨l, congrArg (fun z => Value.tuple #[l, .int .i64 (size z : Int)]) HTL.out, ?_⟩
      refine (Sat.vecs_shut (F := 1) (vs := vs) ?_).unone'
      rw [HTL.out] at hs
      exact (hs.perm (B := 1 * vec 22 1 l fr.length vs * bvl vs fr * vec 3 1 (.slice eo fr.length ecap) fr.length (ints (ends 0 fr))) (by rw [HP.one_mul]; ac_rfl)).drop
end Go.Proofs.YtjhlelcopofkkaaDoor

/-! ScanW -/
namespace Go.Proofs.YtjhlelcopofkkaaDoor
open Go.RowKit

set_option maxRecDepth 20000 in
set_option maxHeartbeats 3200000 in
theorem wal_sound_in {w : World} (b o c l n n4 : Nat) (s : Int) (h8 : 8 ≤ l) (q1 : 1 ≤ n) (q2 : n ≤ 8192) (q3 : 8 + n ≤ l) (hl : l ≤ 16777216) (hlc : l ≤ c)
    (T1 : Hid (Calls Tryd.prog 137 #[.slice (some ⟨b, o, none⟩) l c] w (Drew (.int .u32 n) w)))
    (T2 : Hid (∀ m, Calls Tryd.prog 137 #[.slice (some ⟨b, o + 4, none⟩) (l - 4) (c - 4)] (w.drewN m) (Drew (.int .u32 n4) (w.drewN m))))
    (S : Hid (∀ m c1 c2, Calls Tryd.prog 89 #[.slice (some ⟨b, o, none⟩) 4 c1, .slice (some ⟨b, o + 8, none⟩) n c2] (w.drewN m) (Drew (.int .u32 s) (w.drewN m)))) :
    Calls Tryd.prog 96 #[.slice (some ⟨b, o, none⟩) l c] w (Drew (.int .i64 (if (n4 : Int) = s then (n : Nat) else (0 : Nat))) w) := by
  have hmay : mayB (n : Int) = true := decide_eq_true ⟨by omega, by omega⟩
  by_cases q4 : (n4 : Int) = s
  · have hq : (s != (n4 : Int)) = false := bne_eq_false_iff_eq.2 q4.symm
    rw [if_pos q4]
    have Q4 := Hid.mk' q4
    clear q4
    go_enter Tryd.func96, Tryd.ntmps96
    go_wp2_with (first | (go_at_call 137; refine (T1.out).mono ?_; clear T1; rintro e w' ⟨rfl, m, rfl⟩) | (go_at_call 87; refine (wal_mayBe _).mono ?_; rintro e w' ⟨rfl, rfl⟩; rw [hmay]))
    go_quiet (first | (go_at_call 89; go_loud (exact Drew.quiet_add (S.out _ _ _))) | (go_at_call 137; go_loud (exact Drew.quiet_add (T2.out _))))
    go_wp2
    go_ret
    exact ⟨rfl, _, World.drewN_drewN _ _ _⟩
  · have hq : (s != (n4 : Int)) = true := bne_iff_ne.2 (fun e => q4 e.symm)
    rw [if_neg q4]
    have Q4 := Hid.mk' q4
    clear q4
    go_enter Tryd.func96, Tryd.ntmps96
    go_wp2_with (first | (go_at_call 137; refine (T1.out).mono ?_; clear T1; rintro e w' ⟨rfl, m, rfl⟩) | (go_at_call 87; refine (wal_mayBe _).mono ?_; rintro e w' ⟨rfl, rfl⟩; rw [hmay]))
    go_quiet (first | (go_at_call 89; exact Drew.quiet_add (S.out _ _ _)) | (go_at_call 137; exact Drew.quiet_add (T2.out _)))
    go_wp2
    go_ret
    exact ⟨rfl, _, World.drewN_drewN _ _ _⟩

theorem wal_get32' {w : World} (b o c : Nat) (xs : List UInt8) (hr : Rd w (some ⟨b, o, none⟩) (bvs xs)) (hl : 4 ≤ xs.length) :
    Calls Tryd.prog 137 #[.slice (some ⟨b, o, none⟩) xs.length c] w (Drew (.int .u32 (be4n xs)) w) := by
  have hc : ∀ k (h : k < xs.length), w.cell? ⟨b, o + k, none⟩ = some (bv xs[k]) := by
    intro k hk
    rcases hr with h | ⟨b', o', e, hc⟩
    · have := bvs_length xs
      rw [h] at this
      simp at this
      omega
    · cases e
      exact hc k _ (bvs_get hk)
  have e := be4n_get hl
  refine (wal_get32 b o xs.length c _ _ _ _ hl (hc 0 (by omega)) (hc 1 (by omega)) (hc 2 (by omega)) (hc 3 (by omega))).mono ?_
  rintro e' w' ⟨rfl, m, rfl⟩
  exact ⟨congrArg _ (congrArg _ (by omega)), m, rfl⟩

set_option maxRecDepth 20000 in
set_option maxHeartbeats 3200000 in
theorem wal_sound {w : World} (hT : CrcTab w) (xs : List UInt8) (ao : Option Addr) (c : Nat) (hr : Rd w ao (bvs xs)) (hn : xs.length ≤ 16777216) (hc : xs.length ≤ c) :
    Calls Tryd.prog 96 #[.slice ao xs.length c] w (Drew (.int .i64 (snd xs)) w) := by
  by_cases h8 : xs.length < 8
  · have H0 := Hid.mk' (show snd xs = 0 from snd_short h8)
    clear hr
    go_enter Tryd.func96, Tryd.ntmps96
    go_wp2_with fail
    go_ret
    exact ⟨congrArg _ (ret_int (by rw [H0.out]; rfl)), 0, rfl⟩
  · obtain ⟨b, o, rfl, hcells⟩ := hr.addr (by intro e; have := bvs_length xs; rw [e] at this; simp at this; omega)
    clear hcells
    have hbe := be4n_lt xs
    have HT := Hid.mk' (wal_get32' b o c xs hr (by omega))
    by_cases q0 : 1 ≤ be4n xs ∧ be4n xs ≤ 8192
    · by_cases q3 : xs.length < 8 + be4n xs
      · have H0 := Hid.mk' (show snd xs = 0 from snd_bad (fun g => by have := g.2.2.1; omega))
        have hmay : mayB (be4n xs : Int) = true := decide_eq_true ⟨by omega, by omega⟩
        clear hr
        go_enter Tryd.func96, Tryd.ntmps96
        go_wp2_with (first | (go_at_call 137; refine (HT.out).mono ?_; rintro e w' ⟨rfl, m, rfl⟩) | (go_at_call 87; refine (wal_mayBe _).mono ?_; rintro e w' ⟨rfl, rfl⟩; rw [hmay]))
        go_ret
        exact ⟨congrArg _ (ret_int (by rw [H0.out]; rfl)), _, rfl⟩
      · have HT2 := Hid.mk' (show ∀ m, Calls Tryd.prog 137 #[.slice (some ⟨b, o + 4, none⟩) (xs.length - 4) (c - 4)] (w.drewN m) (Drew (.int .u32 (be4n (xs.drop 4))) (w.drewN m)) from fun m => by
          have h4 : Rd (w.drewN m) (some ⟨b, o + 4, none⟩) (bvs (xs.drop 4)) := by rw [← bvs_drop]; exact hr.drewN.drop 4
          have := wal_get32' b (o + 4) (c - 4) (xs.drop 4) h4 (by rw [List.length_drop]; omega)
          rw [List.length_drop] at this
          exact this)
        have hpl : ((xs.drop 8).take (be4n xs)).length = be4n xs := by rw [List.length_take, List.length_drop]; omega
        have hhl : (xs.take 4).length = 4 := by rw [List.length_take]; omega
        have HS := Hid.mk' (show ∀ m c1 c2, Calls Tryd.prog 89 #[.slice (some ⟨b, o, none⟩) 4 c1, .slice (some ⟨b, o + 8, none⟩) (be4n xs) c2] (w.drewN m) (Drew (.int .u32 (ru32 (crc (xs.take 4 ++ (xs.drop 8).take (be4n xs))))) (w.drewN m)) from fun m c1 c2 => by
          have h1 : Rd (w.drewN m) (some ⟨b, o, none⟩) (bvs (xs.take 4)) := by rw [← bvs_take]; exact hr.drewN.take 4
          have := wal_sum (w := w.drewN m) (hT.mono (below_drewN (Below.refl _ _) m)) (xs.take 4) ((xs.drop 8).take (be4n xs)) _ _ c1 c2 h1 (hr.drewN.sub 8 _) (by omega) (by omega)
          rw [hpl, hhl] at this
          exact this)
        have hgood : Good xs ↔ (be4n (xs.drop 4) : Int) = ru32 (crc (xs.take 4 ++ (xs.drop 8).take (be4n xs))) := by
          unfold Good
          exact ⟨fun h => by rw [← h.2.2.2]; rfl, fun h => ⟨by omega, by omega, by omega, (Int.ofNat.inj h).symm⟩⟩
        refine (wal_sound_in b o c xs.length _ _ _ (by omega) (by omega) (by omega) (by omega) hn hc HT HT2 HS).mono ?_
        rintro e w' ⟨rfl, m, rfl⟩
        refine ⟨?_, m, rfl⟩
        by_cases g : Good xs
        · rw [if_pos (hgood.1 g), snd_good g]
        · rw [if_neg (fun h => g (hgood.2 h)), snd_bad g]
    · have H0 := Hid.mk' (show snd xs = 0 from snd_bad (fun g => q0 ⟨g.1, g.2.1⟩))
      have hmay : mayB (be4n xs : Int) = false := decide_eq_false (fun h => q0 ⟨by omega, by omega⟩)
      clear hr q0
      go_enter Tryd.func96, Tryd.ntmps96
      go_wp2_with (first | (go_at_call 137; refine (HT.out).mono ?_; rintro e w' ⟨rfl, m, rfl⟩) | (go_at_call 87; refine (wal_mayBe _).mono ?_; rintro e w' ⟨rfl, rfl⟩; rw [hmay]))
      go_ret
      exact ⟨congrArg _ (ret_int (by rw [H0.out]; rfl)), _, rfl⟩

set_option maxRecDepth 20000 in
set_option maxHeartbeats 3200000 in
/-- Payload by payload. -/
theorem law13_same {w : World} (ps qs : List (List UInt8)) (ao bo : Option Addr) (c d : Nat) (hr : RdL w ao ps) (hq : RdL w bo qs) (hn : ps.length ≤ 16777216) (hm : qs.length ≤ 16777216) (hp : ∀ p ∈ ps, p.length ≤ 16777216) :
    Calls Tryd.prog 40 #[.slice ao ps.length c, .slice bo qs.length d] w (Drew (.bool (decide (ps = qs))) w) := by
  by_cases hlen : ps.length = qs.length
  · have hl2 : ((ps.length : Int) != (qs.length : Int)) = false := bne_eq_false_iff_eq.2 (by omega)
    have HL := Hid.mk' hlen
    go_enter Tryd.func40, Tryd.ntmps40
    go_wp2
    go_loopw [5] (fun i wr => ∃ k : Nat, k ≤ ps.length ∧ i = .int .i64 k ∧ ps.take k = qs.take k ∧ ∃ m, wr = w.drewN m) (fun i _ => ps.length - (intOf i).toNat)
    case atStart => exact ⟨0, by omega, rfl, rfl, 0, rfl⟩
    case round =>
      obtain ⟨k, hk, rfl, heq, m, rfl⟩ := hrel
      have HE := Hid.mk' heq
      clear heq
      by_cases hlt : k < ps.length
      · have hlt' : k < qs.length := by have := HL.out; omega
        obtain ⟨b1, o1, a1, c1, rfl, hc1, hl1, hr1, _⟩ := hr.cell hlt
        obtain ⟨b2, o2, a2, c2, rfl, hc2, hl2', hr2, _⟩ := hq.cell hlt'
        have HS := Hid.mk' (show ∀ n, Calls Tryd.prog 25 #[.slice a1 ps[k].length c1, .slice a2 qs[k].length c2] (w.drewN n) (Drew (.bool (decide (ps[k] = qs[k]))) (w.drewN n)) from fun n => ref0_sameBytes _ _ _ _ _ _ hr1.drewN hr2.drewN (by have := hp _ (List.getElem_mem hlt); omega))
        by_cases hx : ps[k] = qs[k]
        · have HX := Hid.mk' (show ps.take (k + 1) = qs.take (k + 1) by rw [take_snoc ps k hlt, take_snoc qs k hlt', HE.out, hx])
          rw [decide_eq_true hx] at HS
          clear hx
          go_wp2
          go_quiet (first | (go_at_call 25; exact Drew.quiet_add (HS.out _)))
          go_wp2
          refine ⟨⟨k + 1, by omega, rfl, HX.out, _, rfl⟩, by simp [intOf]; omega⟩
        · have HX := Hid.mk' (show ¬ ps = qs from fun e => hx (by subst e; rfl))
          rw [decide_eq_false hx] at HS
          clear hx
          go_wp2
          go_quiet (first | (go_at_call 25; exact Drew.quiet_add (HS.out _)))
          go_wp2
          go_ret
          exact ⟨congrArg _ (ret_bool (decide_eq_false HX.out).symm), _, rfl⟩
      · obtain rfl : k = ps.length := by omega
        go_wp2
        go_ret
        refine ⟨?_, _, rfl⟩
        have h := HE.out
        rw [List.take_length, HL.out, List.take_length] at h
        exact congrArg _ (ret_bool (decide_eq_true h).symm)
  · have hl2 : ((ps.length : Int) != (qs.length : Int)) = true := by rw [bne_iff_ne]; omega
    have HX := Hid.mk' (show ¬ ps = qs from fun e => hlen (congrArg _ e))
    go_enter Tryd.func40, Tryd.ntmps40
    go_wp2
    go_ret
    exact ⟨congrArg _ (ret_bool (decide_eq_false HX.out).symm), 0, rfl⟩
end Go.Proofs.YtjhlelcopofkkaaDoor

/-! Frames -/
namespace Go.Proofs.YtjhlelcopofkkaaDoor
open Go.RowKit

theorem wal_frames {w : World} (s : Value) (ao : Option Addr) (l c : Nat) (h : s = .slice ao l c) :
    Calls Tryd.prog 30 #[s] w (Ret fun v w' => ∃ b, v = .func (.func 95) #[] #[.pointer (some ⟨b, 0, none⟩)] ∧ Sat w w' (1 * blk b [s] 22)) := by
  subst h
  have hmf : ∀ (fn : Fn) (first cap : Array Value) (w : World), (Instr.makeFunc fn first cap).run Tryd.prog w = .ok (.func fn first cap) w := fun _ _ _ _ => rfl
  go_enter Tryd.func30, Tryd.ntmps30
  go_wp2
  go_ret
  exact Ret.mk ⟨_, rfl, (Sat.refl w).new _ _⟩

theorem put_all {cur cs : List Value} (h : cs.length = cur.length) : put cur 0 cs = cs := by
  simp only [put, List.take_zero, List.nil_append, Nat.zero_add]
  rw [List.drop_eq_nil_of_le (by omega), List.append_nil]

set_option maxRecDepth 20000 in
set_option maxHeartbeats 3200000 in
/-- Round by round: 'J pre' holds when 'pre' has been handed on and the next is wanted; 'Q' when the walk is over. -/
theorem frames_yield {gf : FuncId} {caps : Array Value} (xs : List UInt8) (b : Nat) (ao : Option Addr) (c : Nat) (hn : xs.length ≤ 16777216) (hc : xs.length ≤ c) (hg : ∀ args w, (callFunc gf args).run Tryd.prog w = .ok (.enter gf args) w)
    (J : List (List UInt8) → World → Prop) (Q : World → Prop)
    (hJ : ∀ pre w, J pre w → CrcTab w ∧ Rd w ao (bvs xs) ∧ w.cell? ⟨b, 0, none⟩ = some (.slice ao xs.length c))
    (hD : ∀ pre w n, J pre w → J pre (w.drewN n))
    (hY : ∀ pre p rest w w' a cap, J pre w → frames xs = pre ++ p :: rest → Sat w w' (vec 5 1 (.slice (some a) p.length cap) p.length (bvs p)) →
      Calls Tryd.prog gf (#[.int .i64 (size pre + 8 + p.length), .slice (some a) p.length cap] ++ caps) w' (Ret fun v w2 => (v = .bool true ∧ J (pre ++ [p]) w2) ∨ (v = .bool false ∧ Q w2)))
    (hE : ∀ w, J (frames xs) w → Q w)
    (w : World) (h0 : J [] w) :
    Calls Tryd.prog 95 #[.func (.func gf) #[] caps, .pointer (some ⟨b, 0, none⟩)] w (Ret fun v w' => v = .tuple #[] ∧ Q w') := by
  go_enter Tryd.func95, Tryd.ntmps95
  go_wp2
  go_loopw [3] (fun i wr => ∃ (k : Nat) (pre : List (List UInt8)), i = .int .i64 k ∧ Walked xs pre k ∧ J pre wr) (fun i _ => xs.length - (intOf i).toNat)
  case atStart => exact ⟨0, [], rfl, Walked.start xs, h0⟩
  case round =>
    obtain ⟨k, pre, rfl, hW, hj⟩ := hrel
    have HJ := Hid.mk' (hJ pre _ hj)
    have hk := hW.le
    have hcell := HJ.out.2.2
    by_cases hlt : k < xs.length
    · obtain ⟨b1, o1, rfl, _⟩ := HJ.out.2.1.addr (by intro e; have := bvs_length xs; rw [e] at this; simp at this; omega)
      have hrd : Rd wr (some ⟨b1, o1 + k, none⟩) (bvs (xs.drop k)) := by rw [← bvs_drop]; exact HJ.out.2.1.drop k
      have HS := Hid.mk' (show Calls Tryd.prog 96 #[.slice (some ⟨b1, o1 + k, none⟩) (xs.length - k) (c - k)] wr (Drew (.int .i64 (snd (xs.drop k))) wr) from by
        have := wal_sound HJ.out.1 (xs.drop k) _ (c - k) hrd (by rw [List.length_drop]; omega) (by rw [List.length_drop]; omega)
        rw [List.length_drop] at this
        exact this)
      by_cases h0 : snd (xs.drop k) = 0
      · have HQ := Hid.mk' (show ∀ m, Q (wr.drewN m) from fun m => hE _ (by rw [hW.done h0]; exact hD _ _ _ hj))
        rw [h0] at HS
        clear h0 hW hj HJ hJ hD hY hE
        go_wp2_with (go_at_call 96; refine (HS.out).mono ?_; rintro e w' ⟨rfl, m, rfl⟩)
        go_end0
        exact Ret.mk ⟨rfl, HQ.out m⟩
      · obtain ⟨n, hnn⟩ : ∃ n, snd (xs.drop k) = n := ⟨_, rfl⟩
        have h0' : ((n : Int) == 0) = false := beq_eq_false_iff_ne.2 (by omega)
        have hsl := snd_le h0
        rw [hnn, List.length_drop] at hsl
        rw [hnn] at HS
        have HNN := Hid.mk' hnn
        have HC := Hid.mk' (show ∀ (m : Nat) (w3 : World) (A : HP), Sat (wr.drewN m) w3 A → w3.cell? ⟨b, 0, none⟩ = some (.slice (some ⟨b1, o1, none⟩) xs.length c) from fun m w3 A h => ((hD _ _ m hj |> hJ pre _).2.2 |> fun e => (h.below.cell (World.block_lt_of_cell? _ _ e)).trans e))
        have HRD := Hid.mk' (show ∀ (m : Nat) (w3 : World) (A : HP), Sat (wr.drewN m) w3 A → Rd w3 (some ⟨b1, o1 + (k + 8), none⟩) (bvs ((xs.drop (k + 8)).take n)) from fun m w3 A h => ((hD _ _ m hj |> hJ pre _).2.1.mono h.below).sub (k + 8) n)
        have hpl : ((xs.drop (k + 8)).take n).length = n := by rw [List.length_take, List.length_drop]; omega
        have HPL := Hid.mk' (show (bvs ((xs.drop (k + 8)).take n)).length = n by rw [bvs_length, hpl])
        have hfr : frames xs = pre ++ (xs.drop (k + 8)).take n :: frames (xs.drop (k + (8 + n))) := by
          have := (hW.next h0).eq
          rw [hnn] at this
          rw [this]
          simp
        have HY := Hid.mk' (show ∀ (m : Nat) (w' : World) (g cap : Nat), Sat (wr.drewN m) w' (vec 5 1 (.slice (some ⟨g, 0, none⟩) n cap) n (bvs ((xs.drop (k + 8)).take n))) →
            Calls Tryd.prog gf (#[.int .i64 ((k : Int) + (8 + (n : Int))), .slice (some ⟨g, 0, none⟩) n cap] ++ caps) w' (Ret fun v w2 => (v = .bool true ∧ J (pre ++ [(xs.drop (k + 8)).take n]) w2) ∨ (v = .bool false ∧ Q w2)) from fun m w' g cap h => by
          have := hY pre _ _ (wr.drewN m) w' ⟨g, 0, none⟩ cap (hD _ _ m hj) hfr (by rw [hpl]; exact h)
          rw [hpl, ← hW.at_, show (k : Int) + 8 + (n : Int) = (k : Int) + (8 + (n : Int)) by omega] at this
          exact this)
        have HW := Hid.mk' hW
        clear hpl hfr hY hD hJ hj hW HJ hrd hnn h0
        go_wp2_with (first | (go_at_call 96; refine (HS.out).mono ?_; rintro e w' ⟨rfl, m, rfl⟩; have hs0 := Sat.refl (wr.drewN m)) | (at_make; go_loud (refine sl_make rfl _ _ 22 rfl 5 (.int .u8 0) 1 rfl Tryd.underlying22 info_u8 .i64 .i64 _ _ n rfl rfl (by omega) (by omega) (by omega) (by simp only [maxLen]; omega) (by exact hs0) ?_); intro w3 hs5; have hcell3 := HC.out m w3 _ hs5) | ((with_reducible refine gate_op (.call { callee := .builtin .copy, args := #[.tmp 14, .tmp 18], argTypes := #[22, 22] }) rfl ?_); go_loud (refine sl_copy rfl _ _ _ _ rfl 5 Tryd.underlying22 size_u8 _ _ _ _ _ _ rfl rfl _ 0 _ _ (by exact hs5) (bvs ((xs.drop (k + 8)).take n)) (by rw [HPL.out]; exact (Nat.min_eq_right (by omega)).symm) (fun _ => rfl) (by exact HRD.out m _ _ hs5) (by rw [HPL.out, List.length_replicate]; omega) (bvs_one _) ?_); intro w4 hs6))
        rw [put_all (by rw [HPL.out, List.length_replicate])] at hs6
        refine (HY.out m w4 _ n ((hs6.as_vec (n := n) (by rw [HPL.out, Nat.mul_one]) (by simp only [maxLen]; omega)).unone')).mono ?_
        have HNX := Hid.mk' (by have := HW.out.next (by rw [HNN.out]; omega); rw [HNN.out] at this; exact this)
        have hle := HNX.out.le
        rintro e w5 ⟨v, rfl, (⟨rfl, hj5⟩ | ⟨rfl, hq5⟩)⟩
        · go_wp2
          refine ⟨⟨k + (8 + n), pre ++ [(xs.drop (k + 8)).take n], by first | rfl | trivial, HNX.out, hj5⟩, by simp [intOf]; omega⟩
        · go_wp2
          go_end0
          exact Ret.mk ⟨rfl, hq5⟩
    · have hkk : k = xs.length := by omega
      subst hkk
      have HQ := Hid.mk' (show ∀ m, Q (wr.drewN m) from fun m => hE _ (by rw [hW.end_ (Nat.le_refl _)]; exact hD _ _ _ hj))
      have HS := Hid.mk' (show ∀ a c', Calls Tryd.prog 96 #[.slice a 0 c'] wr (Drew (.int .i64 0) wr) from fun a c' => by
        have := wal_sound HJ.out.1 [] a c' (Rd.nil _ _) (by simp) (by simp)
        rw [snd_short (by simp)] at this
        exact this)
      clear hW hj HJ hJ hD hY hE
      go_wp2_with (go_at_call 96; refine (HS.out _ _).mono ?_; rintro e w' ⟨rfl, m, rfl⟩)
      all_goals
        go_end0
        exact Ret.mk ⟨rfl, HQ.out m⟩
end Go.Proofs.YtjhlelcopofkkaaDoor

/-! InRound -/
namespace Go.Proofs.YtjhlelcopofkkaaDoor
open Go.RowKit
/-- One operation of a round's body, by a law for the same operation elsewhere. -/
theorem wpListIn_of_one {P : Program} {ops : Array Oper} {rest : List Oper} {o : Oper} {a : Act} {w : World} {Q : Exit → Act → World → Prop} {l n : Nat} (hnd : ∀ c, o.op ≠ .defer c)
    (h : wpList P ops (fun e a' w' => e = .normal ∧ wpListIn (Fence.wide.inRound l) n P ops Q rest a' w') [o] a w) : wpListIn (Fence.wide.inRound l) n P ops Q (o :: rest) a w := by
  unfold wpList at h
  unfold wpListIn
  by_cases hw : Region.wanted o (yielded ops a.tmps)
  · rw [if_pos hw] at h ⊢
    rcases h with h | ⟨_, a0, w0, h, _⟩
    · refine ⟨fun _ _ => trivial, ?_⟩
      have hsem : o.semAt (Fence.wide.inRound l).round a.eval = execOp a.eval o := Oper.semAt_some l _ o hnd
      rw [hsem]
      unfold Oper.wp at h
      generalize (execOp a.eval o).run P w = r at h ⊢
      cases r with
      | ok nx w' =>
        cases nx with
        | value v => exact h.2
        | skip => exact h.2
        | defer d => exact h.2
        | enter f args =>
          refine ⟨(fun e => by cases e), ?_⟩
          refine (CallsIn.inRound l (callsIn_wide.2 h)).mono ?_
          intro e w2 he
          cases e with
          | returned v => exact he.2
          | panicked c => exact absurd he.1 (by simp)
          | outgrown => obtain ⟨a0, w0, h0, _⟩ := he; cases h0
        | row row args =>
          refine ⟨(fun e => by cases e), fun c cs _ => ?_⟩
          obtain ⟨v, w2, hv, hs⟩ := h c cs
          exact ⟨v, w2, hv.2, stepsIn_wide.2 hs⟩
        | _ => exact h.elim
      | halt hh w' =>
        cases hh with
        | panic v => exact absurd h.1 (by simp)
        | _ => exact h.elim
    · cases h
  · rw [if_neg hw] at h ⊢
    exact ⟨fun _ _ => trivial, h.2⟩
/-- .. and of a fenced walk that fences nothing. -/
theorem wpListIn_of_one' {P : Program} {ops : Array Oper} {rest : List Oper} {o : Oper} {a : Act} {w : World} {Q : Exit → Act → World → Prop} {n : Nat}
    (h : wpList P ops (fun e a' w' => e = .normal ∧ wpListIn Fence.wide n P ops Q rest a' w') [o] a w) : wpListIn Fence.wide n P ops Q (o :: rest) a w := by
  unfold wpList at h
  unfold wpListIn
  by_cases hw : Region.wanted o (yielded ops a.tmps)
  · rw [if_pos hw] at h ⊢
    rcases h with h | ⟨_, a0, w0, h, _⟩
    · refine ⟨fun _ _ => trivial, ?_⟩
      have hsem : o.semAt Fence.wide.round a.eval = execOp a.eval o := rfl
      rw [hsem]
      unfold Oper.wp at h
      generalize (execOp a.eval o).run P w = r at h ⊢
      cases r with
      | ok nx w' =>
        cases nx with
        | value v => exact h.2
        | skip => exact h.2
        | defer d => exact h.2
        | enter f args =>
          refine ⟨(fun e => by cases e), ?_⟩
          refine (callsIn_wide.2 h).mono ?_
          intro e w2 he
          cases e with
          | returned v => exact he.2
          | panicked c => exact absurd he.1 (by simp)
          | outgrown => obtain ⟨a0, w0, h0, _⟩ := he; cases h0
        | row row args =>
          refine ⟨(fun e => by cases e), fun c cs _ => ?_⟩
          obtain ⟨v, w2, hv, hs⟩ := h c cs
          exact ⟨v, w2, hv.2, stepsIn_wide.2 hs⟩
        | _ => exact h.elim
      | halt hh w' =>
        cases hh with
        | panic v => exact absurd h.1 (by simp)
        | _ => exact h.elim
    · cases h
  · rw [if_neg hw] at h ⊢
    exact ⟨fun _ _ => trivial, h.2⟩
theorem Sat.putObj {w0 w : World} {F : HP} {b : Nat} {o : Obj} (hs : Sat w0 w (F * obj b o)) (o' : Obj) : Sat w0 (w.putObj b o') (F * obj b o') := by
  have hb := hs.obj_heap
  have hlt := (Array.getElem?_eq_some_iff.1 hb.2).1
  refine Sat.obj_put hs ?_ (World.putObj_heap_same hlt) (fun k _ hk => World.putObj_heap_other hk)
  exact hs.below.trans ⟨rfl, rfl, rfl, by simp, fun k hk => World.putObj_heap_other (by have := hb.1; omega)⟩

/-- The record of a loop, in a state. -/
def recOf (fn : FuncId) (tmps : Array Value) (ps : Array Tmp) (assign body : Code) (D : Nat) (st : LoopState) (pe : Option Code) : Loop :=
  { state := st, pending := pe, fn := fn, tmps := tmps, params := ps, assign := assign, body := body, defers := D }
/-- A RANGE OVER A FUNCTION WHOSE BODY NEVER LEAVES IT, at an outermost loop. -/
theorem wpIn_range {P : Program} {g : Operand} {ps : Array Tmp} {assign body : Code} {Q : Exit → Act → World → Prop} {a : Act} {w : World} {n : Nat} {gf : FuncId} {lb : Array Value}
    (hg : a.eval g = .func (.func gf) #[] lb) (eg : ∀ args w, (callFunc gf args).run P w = .ok (.enter gf args) w)
    (h : ∀ fn rec, rec = recOf fn a.tmps ps assign body w.heap.size → CallsIn Fence.wide (n - 1) P gf (#[.func (.yield (w.heap.size + 1)) #[] #[]] ++ lb) ((w.alloc (.deferred (some []))).alloc (.loop (rec .ready none)))
      (fun e w3 => (∃ v, e = .returned v) ∧ w3.heap[w.heap.size + 1]? = some (.loop (rec .ready none)) ∧
        Q .normal { a with defers := { target := .collected w.heap.size, args := #[] } :: a.defers } (w3.putObj (w.heap.size + 1) (.loop (rec .exhausted none))))) :
    (Code.rangeFunc g ps assign body).wpIn Fence.wide n P Q a w := by
  refine wpIn_rangeFunc ?_
  intro fn _
  have h1 : (Instr.enterLoop fn a.tmps ps assign body Fence.wide.round).run P w = .ok (w.heap.size + 1, [{ target := .collected w.heap.size, args := #[] }]) ((w.alloc (.deferred (some []))).alloc (.loop (recOf fn a.tmps ps assign body w.heap.size .ready none))) := run_enterLoop_outer _ _ _ _ _
  generalize hW : (w.alloc (.deferred (some []))).alloc (.loop (recOf fn a.tmps ps assign body w.heap.size .ready none)) = W1 at h1
  have h2 : (resolve a.eval (rangeCall g (w.heap.size + 1)) 0).run P W1 = .ok { target := .fn (.func gf) lb, args := #[.func (.yield (w.heap.size + 1)) #[] #[]] } W1 := by
    simp only [resolve, hg]
    simp [go_sem]
  have h3 : (invoke (.fn (.func gf) lb) #[.func (.yield (w.heap.size + 1)) #[] #[]]).run P W1 = .ok (.enter gf (#[.func (.yield (w.heap.size + 1)) #[] #[]] ++ lb)) W1 := by
    simp [invoke, go_sem, eg]
  refine ⟨_, _, _, _, _, _, _, _, h1, h2, fun _ _ => trivial, h3, fun e => (by cases e), ?_⟩
  have h4 := h fn _ rfl
  rw [hW] at h4
  refine h4.mono ?_
  rintro e w3 ⟨⟨v, rfl⟩, hl, hq⟩
  have hend : (Instr.endLoop (w.heap.size + 1)).run P w3 = .ok none (w3.putObj (w.heap.size + 1) (.loop (recOf fn a.tmps ps assign body w.heap.size .exhausted none))) := run_endLoop hl (by simp [recOf])
  exact ⟨none, _, hend, hq⟩
/-- One round. -/
theorem yield_round {P : Program} {ps : Array Tmp} {assign body : Code} {tmps : Array Value} {fn : FuncId} {D l m : Nat} {W : World} {args : Array Value} {R : Ending → World → Prop}
    (hl : W.heap[l]? = some (.loop (recOf fn tmps ps assign body D .ready none))) (hs : args.size = ps.size)
    (h : assign.wpIn (Fence.wide.inRound l) m P (Exit.then (fun a₁ w₁ => w₁.heap[l]? = some (.loop (recOf fn tmps ps assign body D .ready none)) ∧
      body.wpIn (Fence.wide.inRound l) m P (fun e _ w2 => e = .normal ∧ w2.heap[l]? = some (.loop (recOf fn tmps ps assign body D .busy none)) ∧ R (.returned (.bool true)) (w2.putObj l (.loop (recOf fn tmps ps assign body D .ready none)))) a₁
        (w₁.putObj l (.loop (recOf fn tmps ps assign body D .busy none)))) (fun _ _ _ => False)) { tmps := (ps.zip args).foldl (fun tmps (t, a) => tmps.setIfInBounds t a) tmps, defers := [] } W) :
    YieldAt Fence.wide m P l args W R := by
  refine ⟨fn, _, assign, body, run_yield hl hs, roundIn_of_wpIn trivial (wpIn_mono h ?_)⟩
  intro e a1 w1 hp
  cases e with
  | normal =>
    obtain ⟨hl1, hb⟩ := hp
    refine ⟨_, run_beginRound hl1 rfl, wpIn_mono hb ?_⟩
    rintro e a2 w2 ⟨rfl, hl2, hR⟩
    exact ⟨_, _, run_endRound none hl2, hR⟩
  | _ => exact hp.elim

theorem gate_opIn {F : Fence} {n : Nat} {P : Program} {ops : Array Oper} {rest : List Oper} {o : Oper} {a : Act} {w : World} {Q : Exit → Act → World → Prop} (X : Op) (_h : o.op = X) (g : wpListIn F n P ops Q (o :: rest) a w) : wpListIn F n P ops Q (o :: rest) a w := g
end Go.Proofs.YtjhlelcopofkkaaDoor

/-! ScanF -/
namespace Go.Proofs.YtjhlelcopofkkaaDoor
open Go.RowKit
attribute [local go_sem] Oper.semAt_some

set_option maxRecDepth 20000 in
set_option maxHeartbeats 3200000 in
/-- The frames, handed to a loop's body round by round. -/
theorem frames_range {dp l : Nat} (xs : List UInt8) (b : Nat) (ao : Option Addr) (c : Nat) (hn : xs.length ≤ 16777216) (hc : xs.length ≤ c)
    (J : List (List UInt8) → World → Prop)
    (hJ : ∀ pre w, J pre w → CrcTab w ∧ Rd w ao (bvs xs) ∧ w.cell? ⟨b, 0, none⟩ = some (.slice ao xs.length c))
    (hD : ∀ pre w n, J pre w → J pre (w.drewN n))
    (hY : ∀ pre p rest w w' g cap, J pre w → frames xs = pre ++ p :: rest → Sat w w' (vec 5 1 (.slice (some ⟨g, 0, none⟩) p.length cap) p.length (bvs p)) →
      YieldAt Fence.wide (dp - 1) Tryd.prog l #[.int .i64 (size pre + 8 + p.length), .slice (some ⟨g, 0, none⟩) p.length cap] w' (fun e w2 => e = .returned (.bool true) ∧ J (pre ++ [p]) w2))
    (w : World) (h0 : J [] w) :
    CallsIn Fence.wide dp Tryd.prog 95 #[.func (.yield l) #[] #[], .pointer (some ⟨b, 0, none⟩)] w (fun e w' => (∃ v, e = .returned v) ∧ J (frames xs) w') := by
  refine callsIn_of_wp Tryd.func95 rfl trivial ?_ rfl
  simp only [Tryd.ntmps95, List.size_toArray, List.length_cons, List.length_nil, Nat.reduceAdd, Nat.reduceSub, Array.replicate_succ, Array.replicate_zero, List.push_toArray, List.append_toArray, List.nil_append, List.cons_append]
  gi_wp2
  gi_loopw [3] (fun i wr => ∃ (k : Nat) (pre : List (List UInt8)), i = .int .i64 k ∧ Walked xs pre k ∧ J pre wr) (fun i _ => xs.length - (intOf i).toNat)
  case atStart => exact ⟨0, [], rfl, Walked.start xs, h0⟩
  case round =>
    obtain ⟨k, pre, rfl, hW, hj⟩ := hrel
    have HJ := Hid.mk' (hJ pre _ hj)
    have hk := hW.le
    have hcell := HJ.out.2.2
    by_cases hlt : k < xs.length
    · obtain ⟨b1, o1, rfl, _⟩ := HJ.out.2.1.addr (by intro e; have := bvs_length xs; rw [e] at this; simp at this; omega)
      have hrd : Rd wr (some ⟨b1, o1 + k, none⟩) (bvs (xs.drop k)) := by rw [← bvs_drop]; exact HJ.out.2.1.drop k
      have HS := Hid.mk' (show Calls Tryd.prog 96 #[.slice (some ⟨b1, o1 + k, none⟩) (xs.length - k) (c - k)] wr (Drew (.int .i64 (snd (xs.drop k))) wr) from by
        have := wal_sound HJ.out.1 (xs.drop k) _ (c - k) hrd (by rw [List.length_drop]; omega) (by rw [List.length_drop]; omega)
        rw [List.length_drop] at this
        exact this)
      by_cases h0 : snd (xs.drop k) = 0
      · have HQ := Hid.mk' (show ∀ m, J (frames xs) (wr.drewN m) from fun m => by rw [hW.done h0]; exact hD _ _ _ hj)
        rw [h0] at HS
        clear h0 hW hj HJ hJ hD hY
        gi_wp2_with (refine ⟨trivial, (fun e => by cases e), ?_⟩; refine (callsIn_wide.2 HS.out).mono ?_; rintro e w' ⟨rfl, m, rfl⟩)
        refine bodyPost_ret (results_none rfl _ _ _) rfl ?_
        exact ⟨⟨_, rfl⟩, HQ.out m⟩
      · obtain ⟨n, hnn⟩ : ∃ n, snd (xs.drop k) = n := ⟨_, rfl⟩
        have h0' : ((n : Int) == 0) = false := beq_eq_false_iff_ne.2 (by omega)
        have hsl := snd_le h0
        rw [hnn, List.length_drop] at hsl
        rw [hnn] at HS
        have HNN := Hid.mk' hnn
        have HC := Hid.mk' (show ∀ (m : Nat) (w3 : World) (A : HP), Sat (wr.drewN m) w3 A → w3.cell? ⟨b, 0, none⟩ = some (.slice (some ⟨b1, o1, none⟩) xs.length c) from fun m w3 A h => ((hD _ _ m hj |> hJ pre _).2.2 |> fun e => (h.below.cell (World.block_lt_of_cell? _ _ e)).trans e))
        have HRD := Hid.mk' (show ∀ (m : Nat) (w3 : World) (A : HP), Sat (wr.drewN m) w3 A → Rd w3 (some ⟨b1, o1 + (k + 8), none⟩) (bvs ((xs.drop (k + 8)).take n)) from fun m w3 A h => ((hD _ _ m hj |> hJ pre _).2.1.mono h.below).sub (k + 8) n)
        have hpl : ((xs.drop (k + 8)).take n).length = n := by rw [List.length_take, List.length_drop]; omega
        have HPL := Hid.mk' (show (bvs ((xs.drop (k + 8)).take n)).length = n by rw [bvs_length, hpl])
        have hfr : frames xs = pre ++ (xs.drop (k + 8)).take n :: frames (xs.drop (k + (8 + n))) := by
          have := (hW.next h0).eq
          rw [hnn] at this
          rw [this]
          simp
        have HY := Hid.mk' (show ∀ (m : Nat) (w' : World) (g cap : Nat), Sat (wr.drewN m) w' (vec 5 1 (.slice (some ⟨g, 0, none⟩) n cap) n (bvs ((xs.drop (k + 8)).take n))) →
            YieldAt Fence.wide (dp - 1) Tryd.prog l #[.int .i64 ((k : Int) + (8 + (n : Int))), .slice (some ⟨g, 0, none⟩) n cap] w' (fun e w2 => e = .returned (.bool true) ∧ J (pre ++ [(xs.drop (k + 8)).take n]) w2) from fun m w' g cap h => by
          have := hY pre _ _ (wr.drewN m) w' g cap (hD _ _ m hj) hfr (by rw [hpl]; exact h)
          rw [hpl, ← hW.at_, show (k : Int) + 8 + (n : Int) = (k : Int) + (8 + (n : Int)) by omega] at this
          exact this)
        have HW := Hid.mk' hW
        clear hpl hfr hY hD hJ hj hW HJ hrd hnn h0
        gi_wp2_with (first | (refine ⟨trivial, (fun e => by cases e), ?_⟩; refine (callsIn_wide.2 HS.out).mono ?_; rintro e w' ⟨rfl, m, rfl⟩; have hs0 := Sat.refl (wr.drewN m)) | (gi_at_make; refine wpListIn_of_one' ?_; go_loud (refine sl_make rfl _ _ 22 rfl 5 (.int .u8 0) 1 rfl Tryd.underlying22 info_u8 .i64 .i64 _ _ n rfl rfl (by omega) (by omega) (by omega) (by simp only [maxLen]; omega) (by exact hs0) ?_); intro w3 hs5; refine ⟨rfl, ?_⟩; have hcell3 := HC.out m w3 _ hs5) | ((with_reducible refine gate_opIn (.call { callee := .builtin .copy, args := #[.tmp 14, .tmp 18], argTypes := #[22, 22] }) rfl ?_); refine wpListIn_of_one' ?_; go_loud (refine sl_copy rfl _ _ _ _ rfl 5 Tryd.underlying22 size_u8 _ _ _ _ _ _ rfl rfl _ 0 _ _ (by exact hs5) (bvs ((xs.drop (k + 8)).take n)) (by rw [HPL.out]; exact (Nat.min_eq_right (by omega)).symm) (fun _ => rfl) (by exact HRD.out m _ _ hs5) (by rw [HPL.out, List.length_replicate]; omega) (bvs_one _) ?_); intro w4 hs6; refine ⟨rfl, ?_⟩; rw [put_all (by rw [HPL.out, List.length_replicate])] at hs6; obtain ⟨fn, tmps, assign, body, hy, hR⟩ := HY.out m w4 _ n ((hs6.as_vec (n := n) (by rw [HPL.out, Nat.mul_one]) (by simp only [maxLen]; omega)).unone')))
        refine ⟨(fun e => by cases e), hR.mono ?_⟩
        have HNX := Hid.mk' (by have := HW.out.next (by rw [HNN.out]; omega); rw [HNN.out] at this; exact this)
        have hle := HNX.out.le
        rintro e w5 ⟨rfl, hj5⟩
        gi_wp2
        refine ⟨⟨k + (8 + n), pre ++ [(xs.drop (k + 8)).take n], by first | rfl | trivial, HNX.out, hj5⟩, by simp [intOf]; omega⟩
    · have hkk : k = xs.length := by omega
      subst hkk
      have HQ := Hid.mk' (show ∀ m, J (frames xs) (wr.drewN m) from fun m => by rw [hW.end_ (Nat.le_refl _)]; exact hD _ _ _ hj)
      have HS := Hid.mk' (show ∀ a c', Calls Tryd.prog 96 #[.slice a 0 c'] wr (Drew (.int .i64 0) wr) from fun a c' => by
        have := wal_sound HJ.out.1 [] a c' (Rd.nil _ _) (by simp) (by simp)
        rw [snd_short (by simp)] at this
        exact this)
      clear hW hj HJ hJ hD hY
      gi_wp2_with (refine ⟨trivial, (fun e => by cases e), ?_⟩; refine (callsIn_wide.2 (HS.out _ _)).mono ?_; rintro e w' ⟨rfl, m, rfl⟩)
      all_goals
        refine bodyPost_ret (results_none rfl _ _ _) rfl ?_
        exact ⟨⟨_, rfl⟩, HQ.out m⟩

/-- Between two rounds: what Scan's own cells hold. -/
def scanned (bd bs D l bl : Nat) (s : Value) (r : Loop) (pre : List (List UInt8)) : HP := fun h => ∃ (vs : List Value) (lv : Value),
  (1 * blk bd [s] 22 * obj D (.deferred (some [])) * bvl vs pre * obj l (.loop r) * blk bs [.int .i64 (size pre)] 3 * blk bl [lv] 37 * vec 22 1 lv pre.length vs) h
theorem scanned_open {w0 w : World} {bd bs D l bl : Nat} {s : Value} {r : Loop} {pre : List (List UInt8)} (hs : Sat w0 w (scanned bd bs D l bl s r pre)) : ∃ (vs : List Value) (lv : Value), vs.length = pre.length ∧
    Sat w0 w (1 * blk bd [s] 22 * obj D (.deferred (some [])) * bvl vs pre * obj l (.loop r) * blk bs [.int .i64 (size pre)] 3 * blk bl [lv] 37 * vec 22 1 lv pre.length vs) := by
  obtain ⟨x, ⟨vs, lv, hx⟩, hh⟩ := hs.held
  have h : Sat w0 w (1 * blk bd [s] 22 * obj D (.deferred (some [])) * bvl vs pre * obj l (.loop r) * blk bs [.int .i64 (size pre)] 3 * blk bl [lv] 37 * vec 22 1 lv pre.length vs) := ⟨hs.below, x, hx, hh⟩
  exact ⟨vs, lv, h.rot5.bvl_len, h⟩

set_option maxRecDepth 20000 in
set_option maxHeartbeats 3200000 in
theorem wal_scan {w : World} (hT : CrcTab w) (xs : List UInt8) (ao : Option Addr) (c : Nat) (hr : Rd w ao (bvs xs)) (hc : xs.length ≤ c) (hn : xs.length ≤ 16777216) :
    Calls Tryd.prog 39 #[.slice ao xs.length c] w (Ret fun v w' => ∃ u, v = .tuple #[u, .int .i64 (size (frames xs))] ∧ Sat w w' (vecs u (frames xs))) := by
  have HT := Hid.mk' hT
  have HR := Hid.mk' hr
  clear hT hr
  refine callsIn_wide.1 (callsIn_of_wp_marks (n := 3) Tryd.func39 rfl trivial ?_ rfl)
  simp only [Tryd.ntmps39, List.size_toArray, List.length_cons, List.length_nil, Nat.reduceAdd, Nat.reduceSub, Array.replicate_succ, Array.replicate_zero, List.push_toArray, List.append_toArray, List.nil_append, List.cons_append]
  have hs1 := ((Sat.refl w).new #[.slice none 0 0] 37).new #[.int .i64 0] 3
  gi_wp2_with (refine ⟨trivial, ?_⟩; refine (callsIn_wide.2 (wal_frames _ ao xs.length c rfl)).mono ?_; rintro e w2 ⟨v, rfl, bd, rfl, hx⟩; have hs2 := hs1.glue hx; clear hs1 hx)
  have hbs : (w.alloc (Obj.cells #[Value.slice none 0 0] 37)).heap.size = w.heap.size + 1 := World.size_alloc _ _
  rw [hbs] at hs2
  generalize w.heap.size + 1 = bs at hs2 ⊢
  have hbl : ∃ bl, w.heap.size = bl := ⟨_, rfl⟩
  obtain ⟨bl, hbl⟩ := hbl
  rw [hbl] at hs2 ⊢
  refine wpIn_range (gf := 95) (lb := #[.pointer (some ⟨bd, 0, none⟩)]) rfl Tryd.call95 ?_
  intro fn rec hrec
  refine CallsIn.mono (frames_range xs bd ao c hn hc (fun pre W' => Sat w W' (scanned bd bs w2.heap.size (w2.heap.size + 1) bl (.slice ao xs.length c) (rec .ready none) pre)) ?_ ?_ ?_ _ ?_) ?_
  · intro pre w' h
    obtain ⟨vs, lv, _, h1⟩ := scanned_open h
    exact ⟨HT.out.mono h1.below, HR.out.mono h1.below, h1.rot7.cell (i := 0) rfl⟩
  · intro pre w' n h
    exact h.drewN n
  · intro pre p rest w3 w4 g cap h hf hp
    obtain ⟨vs, lv, hvl, h1⟩ := scanned_open h
    have h2 := h1.glue hp
    have hl : w4.heap[w2.heap.size + 1]? = some (.loop (rec .ready none)) := h2.rot5.obj_heap.2
    have hpm := frames_mem (d := xs) p (by rw [hf]; simp)
    have hsz := size_frames xs
    have hlz := len_le_size (frames xs)
    have hpl : pre.length ≤ xs.length := by
      have : pre.length < (frames xs).length := by rw [hf, List.length_append, List.length_cons]; omega
      omega
    subst hrec
    clear h h1 hp
    refine yield_round hl rfl ?_
    generalize hrr : recOf fn _ _ _ _ _ = rec at *
    have h3 := h2.rot5.putObj (.loop (rec .busy none))
    have n1 : bs ≠ bl := h3.rot5.rot5.blk_ne
    have c_l := h3.rot4.cell (i := 0) (v := lv) rfl
    have HX := Hid.mk' hrr
    have HFIN := Hid.mk' (show ∀ (w' : World) (v' : Value), Sat w w' (1 * blk bd [.slice ao xs.length c] 22 * obj w2.heap.size (.deferred (some [])) * bvl vs pre * blk bs [.int .i64 (size pre)] 3 * blk bl [lv] 37 * vec 5 1 (.slice (some ⟨g, 0, none⟩) p.length cap) p.length (bvs p) * obj (w2.heap.size + 1) (.loop (rec .busy none)) * vec 22 1 v' (pre.length + 1) (vs ++ [.slice (some ⟨g, 0, none⟩) p.length cap])) →
        ((w'.setCell ⟨bl, 0, none⟩ v').setCell ⟨bs, 0, none⟩ (.int .i64 ((size pre : Int) + 8 + p.length))).heap[w2.heap.size + 1]? = some (.loop (rec .busy none)) ∧
        Sat w (((w'.setCell ⟨bl, 0, none⟩ v').setCell ⟨bs, 0, none⟩ (.int .i64 ((size pre : Int) + 8 + p.length))).putObj (w2.heap.size + 1) (.loop (rec .ready none))) (scanned bd bs w2.heap.size (w2.heap.size + 1) bl (.slice ao xs.length c) (rec .ready none) (pre ++ [p])) from by
      intro w' v' h
      have h4 := (h.rot4.store 0 v').rot5.store 0 (.int .i64 ((size pre : Int) + 8 + p.length))
      have h5 := h4.rot4
      refine ⟨h5.obj_heap.2, (h5.putObj (.loop (rec .ready none))).imp ?_⟩
      intro x hx
      refine ⟨vs ++ [.slice (some ⟨g, 0, none⟩) p.length cap], v', ?_⟩
      rw [bvl_snoc hvl, size_snoc, List.length_append, List.length_singleton]
      have e1 : ((size pre + (8 + p.length) : Nat) : Int) = (size pre : Int) + 8 + p.length := by omega
      rw [e1]
      have e2 : ∀ {A B : HP}, A = B → A x → B x := fun e h => e ▸ h
      exact e2 (by simp only [List.set_cons_zero]; ac_rfl) hx)
    have HMADE := Hid.mk' (show Rd ((w4.putObj (w2.heap.size + 1) (.loop (rec .busy none))).alloc (.cells #[.slice (some ⟨g, 0, none⟩) p.length cap] 22)) (some ⟨w4.heap.size, 0, none⟩) [.slice (some ⟨g, 0, none⟩) p.length cap] from by
      have := Rd.made (w4.putObj (w2.heap.size + 1) (.loop (rec .busy none))) [.slice (some ⟨g, 0, none⟩) p.length cap] 22 (0, 0)
      rw [World.putObj_size] at this
      exact this)
    clear hrr hf hvl
    gi_wp2_with (gi_at_builtin; refine wpListIn_of_one (by intro c h; cases h) ?_; go_loud (refine sl_append rfl _ _ 37 rfl 22 (.slice none 0 0) 1 24 Tryd.underlying37 info_bytes rfl (by decide) _ pre.length _ rfl (by exact h3.rot3.skip) _ 1 _ [.slice (some ⟨g, 0, none⟩) p.length cap] rfl rfl (by exact HMADE.out) (by intro u hu; simp at hu; subst hu; rfl) (by simp only [maxLen]; omega) (by omega) ?_); intro v' w' hS'; refine ⟨rfl, ?_⟩; obtain ⟨a5, cap5, rfl, _, _, _⟩ := hS'.vec_rd; have hfin := Hid.mk' (HFIN.out w' _ hS'); have c_l' := hS'.rot4.cell (i := 0) (v := lv) rfl; have f_l := hS'.rot4.free 0; have f_s := hS'.rot5.free 0; have c_s := hS'.rot5.cell (i := 0) (v := .int .i64 (size pre)) rfl)
    exact hfin.out
  · have h3 := (hs2.new_obj (.deferred (some []))).new_obj (.loop (rec .ready none))
    rw [World.size_alloc] at h3
    refine h3.imp ?_
    intro x hx
    refine ⟨[], .slice none 0 0, ?_⟩
    have e2 : ∀ {A B : HP}, A = B → A x → B x := fun e h => e ▸ h
    refine e2 ?_ hx
    show _ = 1 * blk bd [.slice ao xs.length c] 22 * obj w2.heap.size (.deferred (some [])) * 1 * obj (w2.heap.size + 1) (.loop (rec .ready none)) * blk bs [.int .i64 0] 3 * blk bl [.slice none 0 0] 37 * vec 22 1 (.slice none 0 0) 0 []
    show 1 * blk bl [.slice none 0 0] 37 * blk bs [.int .i64 0] 3 * (1 * blk bd [.slice ao xs.length c] 22) * obj w2.heap.size (.deferred (some [])) * obj (w2.heap.size + 1) (.loop (rec .ready none)) = _
    rw [vec_nil]
    simp only [HP.mul_one, HP.one_mul]
    ac_rfl
  · rintro e w5 ⟨hv, h⟩
    obtain ⟨vs, lv, hvl, h1⟩ := scanned_open h
    refine ⟨hv, h1.rot4.obj_heap.2, ?_⟩
    have h6 := h1.rot4.putObj (.loop (rec .exhausted none))
    have c_l := h6.rot3.cell (i := 0) (v := lv) rfl
    have c_s := h6.rot4.cell (i := 0) (v := .int .i64 (size (frames xs))) rfl
    clear hrec h1 h
    generalize w5.putObj (w2.heap.size + 1) (.loop (rec .exhausted none)) = w6 at h6 c_l c_s ⊢
    gi_wp2
    refine wpIn_wide.2 ?_
    go_quiet (fail)
    go_wp2
    have h7 := h6.drewN nq
    have hK := h7.rot6.obj_heap.2
    gi_wp2
    refine ⟨by simp, .inl ⟨_, _, rfl, run_takeDeferred hK, ?_⟩⟩
    have h8 := h7.rot6.putObj (.deferred none)
    refine ⟨_, results_tmp2 rfl _ _ _, Ret.mk ⟨lv, rfl, ?_⟩⟩
    refine (Sat.vecs_shut (F := 1) (vs := vs) ?_).unone'
    exact (h8.perm (B := 1 * vec 22 1 lv (frames xs).length vs * bvl vs (frames xs) * (blk bd [.slice ao xs.length c] 22 * blk bs [.int .i64 (size (frames xs))] 3 * blk bl [lv] 37 * obj (w2.heap.size + 1) (.loop (rec .exhausted none)) * obj w2.heap.size (.deferred none))) (by ac_rfl)).drop
end Go.Proofs.YtjhlelcopofkkaaDoor

/-! Torn -/
namespace Go.Proofs.YtjhlelcopofkkaaDoor
open Go.RowKit

/-! The frames of payloads, one behind the other. -/
def goodOnes (ps : List (List UInt8)) : List (List UInt8) := ps.filter fun p => decide (1 ≤ p.length ∧ p.length ≤ 8192)
def enc (ps : List (List UInt8)) : List UInt8 := (ps.map wframe).flatten
theorem enc_nil : enc [] = [] := rfl
theorem enc_cons (p : List UInt8) (ps : List (List UInt8)) : enc (p :: ps) = wframe p ++ enc ps := by simp [enc]
theorem enc_append (ps qs : List (List UInt8)) : enc (ps ++ qs) = enc ps ++ enc qs := by simp [enc]
theorem enc_length (ps : List (List UInt8)) : (enc ps).length = size ps := by
  induction ps with
  | nil => rfl
  | cons p ps ih => rw [enc_cons, List.length_append, wframe_length, ih, size]
theorem goodOnes_mem {ps : List (List UInt8)} : ∀ p ∈ goodOnes ps, 1 ≤ p.length ∧ p.length ≤ 8192 := by
  intro p hp
  have := (List.mem_filter.1 hp).2
  simpa using this
theorem goodOnes_snoc_ok {ps : List (List UInt8)} {p : List UInt8} (h : 1 ≤ p.length ∧ p.length ≤ 8192) : goodOnes (ps ++ [p]) = goodOnes ps ++ [p] := by simp [goodOnes, h]
theorem goodOnes_snoc_no {ps : List (List UInt8)} {p : List UInt8} (h : ¬ (1 ≤ p.length ∧ p.length ≤ 8192)) : goodOnes (ps ++ [p]) = goodOnes ps := by
  have : decide (1 ≤ p.length ∧ p.length ≤ 8192) = false := decide_eq_false h
  simp only [goodOnes, List.filter_append, List.filter_cons, this, List.filter_nil]
  simp
theorem frames_enc {ps : List (List UInt8)} (h : ∀ p ∈ ps, 1 ≤ p.length ∧ p.length ≤ 8192) : frames (enc ps) = ps := by
  induction ps with
  | nil => exact frames_short (by simp [enc])
  | cons p ps ih =>
    have hp := h p (List.mem_cons_self ..)
    rw [enc_cons, frames_wframe _ hp.1 hp.2, ih (fun q hq => h q (List.mem_cons_of_mem _ hq))]
/-- A frame that is cut off is none. -/
theorem cut_bad {p rest : List UInt8} {m : Nat} (h2 : p.length ≤ 8192) (hm : m < 8 + p.length) : ¬ Good ((wframe p ++ rest).take m) := by
  intro g
  have hl := g.2.2.1
  have hle : ((wframe p ++ rest).take m).length ≤ m := by rw [List.length_take]; omega
  have e : be4n ((wframe p ++ rest).take m) = p.length := by
    have h8 : 8 ≤ m := by omega
    obtain ⟨k, rfl⟩ : ∃ k, m = k + 4 := ⟨m - 4, by omega⟩
    unfold wframe
    rw [List.append_assoc, List.append_assoc]
    have : ∀ r : List UInt8, (num4 p.length ++ r).take (k + 4) = num4 p.length ++ r.take k := by intro r; simp [num4]
    rw [this, be4n_num4 _ (by omega)]
  omega
/-- How many frames stand whole ahead of a place. -/
def whole (cut : Nat) : List (List UInt8) → Nat
  | [] => 0
  | p :: ps => if 8 + p.length ≤ cut then whole (cut - (8 + p.length)) ps + 1 else 0
theorem whole_le (cut : Nat) (ps : List (List UInt8)) : whole cut ps ≤ ps.length := by
  induction ps generalizing cut with
  | nil => simp [whole]
  | cons p ps ih =>
    simp only [whole, List.length_cons]
    split
    · have := ih (cut - (8 + p.length)); omega
    · omega
theorem frames_cut {ps : List (List UInt8)} (h : ∀ p ∈ ps, 1 ≤ p.length ∧ p.length ≤ 8192) (cut : Nat) : frames ((enc ps).take cut) = ps.take (whole cut ps) := by
  induction ps generalizing cut with
  | nil => exact frames_short (by simp [enc])
  | cons p ps ih =>
    have hp := h p (List.mem_cons_self ..)
    simp only [whole]
    rw [enc_cons]
    by_cases hc : 8 + p.length ≤ cut
    · rw [if_pos hc, List.take_append, wframe_length, List.take_of_length_le (by rw [wframe_length]; exact hc), frames_wframe _ hp.1 hp.2, ih (fun q hq => h q (List.mem_cons_of_mem _ hq)), List.take_succ_cons]
    · rw [if_neg hc, List.take_zero]
      exact frames_nil (snd_bad (cut_bad hp.2 (by omega)))
/-- The ends that lie at or ahead of a place are the first ones. -/
theorem whole_iff (cut : Nat) (ps : List (List UInt8)) (k : Nat) (hk : k < ps.length) : size (ps.take (k + 1)) ≤ cut ↔ k < whole cut ps := by
  induction ps generalizing cut k with
  | nil => simp at hk
  | cons p ps ih =>
    simp only [List.take_succ_cons, size, whole]
    by_cases hc : 8 + p.length ≤ cut
    · rw [if_pos hc]
      cases k with
      | zero => simp [size]; omega
      | succ k =>
        have := ih (cut - (8 + p.length)) k (by simpa using hk)
        omega
    · rw [if_neg hc]
      omega
end Go.Proofs.YtjhlelcopofkkaaDoor

/-! Joined -/
namespace Go.Proofs.YtjhlelcopofkkaaDoor
open Go.RowKit

theorem size_good_le (ps : List (List UInt8)) : size (goodOnes ps) ≤ size ps := by
  induction ps with
  | nil => exact Nat.le_refl _
  | cons p ps ih =>
    by_cases h : 1 ≤ p.length ∧ p.length ≤ 8192
    · have : goodOnes (p :: ps) = p :: goodOnes ps := by simp [goodOnes, h]
      rw [this]
      simp only [size]
      omega
    · have hd : decide (1 ≤ p.length ∧ p.length ≤ 8192) = false := decide_eq_false h
      have : goodOnes (p :: ps) = goodOnes ps := by simp only [goodOnes, List.filter_cons, hd]; simp
      rw [this]
      simp only [size]
      omega
theorem size_take_le (ps : List (List UInt8)) (k : Nat) : size (ps.take k) ≤ size ps := by
  have := size_append (ps.take k) (ps.drop k)
  rw [List.take_append_drop] at this
  omega

set_option maxRecDepth 20000 in
set_option maxHeartbeats 6400000 in
theorem law13_joined {w : World} {E : Nat → Addr} (hT : CrcTab w) (hE : w.cell? ⟨gErr 1, 0, none⟩ = some (errv E 1)) (ps : List (List UInt8)) (ao : Option Addr) (c : Nat) (hr : RdL w ao ps) (hn : size ps ≤ 16777216) :
    Calls Tryd.prog 38 #[.slice ao ps.length c] w (Ret fun v w' => ∃ va vg ve, v = .tuple #[va, vg, ve] ∧
      Sat w w' (1 * vec 5 1 va (size (goodOnes ps)) (bvs (enc (goodOnes ps))) * vecs vg (goodOnes ps) * vec 3 1 ve (goodOnes ps).length (ints (ends 0 (goodOnes ps))))) := by
  have HT := Hid.mk' hT
  have HE := Hid.mk' hE
  have HR := Hid.mk' hr
  have hlz := len_le_size ps
  clear hT hE hr
  go_enter Tryd.func38, Tryd.ntmps38
  go_wp2
  go_loopw [5, 6, 7, 8] (fun a g e i wr => ∃ (k : Nat) (gk : List (List UInt8)) (gvs : List Value) (av gv ev : Value), k ≤ ps.length ∧ gk = goodOnes (ps.take k) ∧ gvs.length = gk.length ∧ i = .int .i64 k ∧ av = a ∧ gv = g ∧ ev = e ∧
    Sat w wr (1 * vec 5 1 av (size gk) (bvs (enc gk)) * vec 22 1 gv gk.length gvs * bvl gvs gk * vec 3 1 ev gk.length (ints (ends 0 gk)))) (fun _ _ _ i _ => ps.length - (intOf i).toNat)
  case atStart =>
    refine ⟨0, [], [], _, _, _, by omega, rfl, rfl, rfl, rfl, rfl, rfl, ?_⟩
    show Sat w w (1 * vec 5 1 (.slice none 0 0) 0 [] * vec 22 1 (.slice none 0 0) 0 [] * 1 * vec 3 1 (.slice none 0 0) 0 [])
    simp only [vec_nil, HP.mul_one]
    exact Sat.refl w
  case round =>
    obtain ⟨k, gk, gvs, a, g, e, hk, hgk, hgl, rfl, rfl, rfl, rfl, hs⟩ := hrel
    have hsz : size gk ≤ 16777216 := by rw [hgk]; have := size_good_le (ps.take k); have := size_take_le ps k; omega
    have hgz := len_le_size gk
    by_cases hlt : k < ps.length
    · obtain ⟨b, o, bo, cp, rfl, hcell, hpc, hrp, hno⟩ := HR.out.cell hlt
      have HC := Hid.mk' (show ∀ (w' : World) (A : HP), Sat w w' A → w'.cell? ⟨b, o + k, none⟩ = some (.slice bo ps[k].length cp) from fun w' A h => (h.below.cell (World.block_lt_of_cell? _ _ hcell)).trans hcell)
      have hc0 := HC.out _ _ hs
      have hps : size (ps.take k) + 8 + ps[k].length ≤ 16777216 := by rw [← size_take_succ ps k hlt]; have := size_take_le ps (k + 1); omega
      have HTK := Hid.mk' (take_snoc ps k hlt)
      have hgs : size gk + 8 + ps[k].length ≤ 16777216 := by rw [hgk]; have := size_good_le (ps.take k); omega
      clear hcell
      generalize ps[k] = p at *
      by_cases hg : 1 ≤ p.length ∧ p.length ≤ 8192
      · have HG := Hid.mk' (show goodOnes (ps.take (k + 1)) = gk ++ [p] by rw [HTK.out, goodOnes_snoc_ok hg, hgk])
        clear hgk
        go_wp2_with fail
        refine (kit_copy p bo cp (hrp.mono hs.below) (by omega)).mono ?_
        rintro e1 w1 ⟨v1, rfl, hx⟩
        have hs1 := hs.glue hx
        have hc1 := HC.out _ _ hs1
        clear hx hs
        obtain ⟨a1, cp1, rfl, _, _, _⟩ := hs1.vec_rd
        go_wp2_with fail
        refine (wal_frame (HT.out.mono hs1.below) p bo cp (hrp.mono hs1.below) hg.1 hg.2).mono ?_
        rintro e2 w2 ⟨v, rfl, u, rfl, hx⟩
        have hs2 := hs1.glue hx
        obtain ⟨uo, uc, rfl, _, hru, hnu⟩ := hs2.vec_rd
        have HWL := Hid.mk' (show (bvs (wframe p)).length = (8 + p.length) * 1 by rw [bvs_length, wframe_length, Nat.mul_one])
        clear hx hs1 hc1
        go_wp2_with (first | (at_builtin; refine sl_append_any rfl _ _ 22 rfl 5 (.int .u8 0) 1 1 Tryd.underlying22 info_u8 rfl (by decide) _ (size gk) _ rfl (by exact hs2.rot6) _ (8 + p.length) uc (bvs (wframe p)) rfl hnu HWL.out hru (bvs_one _) (by simp only [maxLen]; omega) (by omega) ?_; intro av' w3 hs3; obtain ⟨a3, cp3, rfl, _, _, _⟩ := hs3.vec_rd) | (at_builtin; refine sl_append rfl _ _ 37 rfl 22 (.slice none 0 0) 1 24 Tryd.underlying37 info_bytes rfl (by decide) _ gk.length _ rfl (by exact hs3.rot6.skip) _ 1 _ [.slice a1 p.length cp1] rfl rfl (by exact Rd.made _ _ _ _) (by intro u hu; simp at hu; subst hu; rfl) (by simp only [maxLen]; omega) (by omega) ?_; intro gv' w4 hs4) | (at_builtin; refine sl_append rfl _ _ 35 rfl 3 (.int .i64 0) 1 8 Tryd.underlying35 info_int rfl (by decide) _ gk.length _ rfl (by exact hs4.rot5.skip) _ 1 _ [.int .i64 ((size gk : Int) + (8 + (p.length : Int)))] rfl rfl (by exact Rd.made _ _ _ _) (by intro u hu; simp at hu; subst hu; rfl) (by simp only [maxLen]; omega) (by omega) ?_; intro ev' w5 hs5))
        refine ⟨⟨k + 1, gk ++ [p], gvs ++ [.slice a1 p.length cp1], _, gv', ev', by omega, HG.out.symm, by simp [hgl], by first | rfl | trivial, by first | rfl | trivial, by first | rfl | trivial, by first | rfl | trivial, ?_⟩, by simp [intOf]; omega⟩
        have e1 : ints (ends 0 (gk ++ [p])) = ints (ends 0 gk) ++ [.int .i64 ((size gk : Int) + (8 + (p.length : Int)))] := by
          rw [ends_snoc, ints_snoc, show 0 + size gk + 8 + p.length = size gk + (8 + p.length) by omega, Int.natCast_add, Int.natCast_add]
          rfl
        rw [bvl_snoc hgl, e1, size_snoc, enc_append, List.length_append, List.length_singleton, show enc [p] = wframe p by simp [enc], bvs_append]
        exact (hs5.perm (B := _ * vec 5 1 (.slice uo (8 + p.length) uc) (8 + p.length) (bvs (wframe p))) (by ac_rfl)).drop
      · have HG := Hid.mk' (show goodOnes (ps.take (k + 1)) = gk by rw [HTK.out, goodOnes_snoc_no hg, hgk])
        have HGN := Hid.mk' hg
        clear hgk hg
        have hEv : ∀ w' A, Sat w w' A → w'.cell? ⟨gErr 1, 0, none⟩ = some (errv E 1) := fun w' A h => (h.below.cell (World.block_lt_of_cell? _ _ HE.out)).trans HE.out
        have HEV := Hid.mk' hEv
        clear hEv
        go_wp2_with fail
        refine (kit_copy p bo cp (hrp.mono hs.below) (by omega)).mono ?_
        rintro e1 w1 ⟨v1, rfl, hx⟩
        have hs1 := hs.glue hx
        have hc1 := HC.out _ _ hs1
        clear hx hs
        go_wp2_with fail
        refine (wal_frame_no (HEV.out _ _ hs1) p bo cp HGN.out).mono ?_
        rintro e2 w2 ⟨rfl, m, rfl⟩
        have hs2 := (hs1.drewN m).drop
        clear hs1 hc1
        unfold errv
        go_wp2_with fail
        refine ⟨⟨k + 1, gk, gvs, _, _, _, by omega, HG.out.symm, hgl, by first | rfl | trivial, by first | rfl | trivial, by first | rfl | trivial, by first | rfl | trivial, hs2⟩, by simp [intOf]; omega⟩
    · have hkk : k = ps.length := by omega
      subst hkk
      have HF := Hid.mk' (show gk = goodOnes ps by rw [hgk, List.take_length])
      clear hgk
      go_wp2
      go_ret3
      refine Ret.mk ⟨_, _, _, rfl, ?_⟩
      rw [← HF.out]
      refine Sat.perm (A := 1 * vec 5 1 a (size gk) (bvs (enc gk)) * vec 3 1 e gk.length (ints (ends 0 gk)) * vecs g gk) ?_ (by ac_rfl)
      exact Sat.vecs_shut (hs.perm (by ac_rfl))
end Go.Proofs.YtjhlelcopofkkaaDoor

/-! Begun -/
namespace Go.Proofs.YtjhlelcopofkkaaDoor
open Go.RowKit

def oneFrame : List UInt8 := [0, 0, 0, 1, 229, 140, 151, 146, 97]
theorem oneFrame_eq : wframe [97] = oneFrame := by decide +kernel
theorem frames_one : frames oneFrame = [[97]] := by
  have h := frames_wframe (p := [97]) [] (by decide) (by decide)
  rw [List.append_nil, oneFrame_eq, frames_short (d := []) (by decide)] at h
  exact h

set_option maxRecDepth 20000 in
set_option maxHeartbeats 6400000 in
theorem law13_begun {w : World} (hT : CrcTab w) : Calls Tryd.prog 37 #[] w (Ret fun v w' => v = .bool true ∧ Sat w w' 1) := by
  have HT := Hid.mk' hT
  clear hT
  have hs1 := (Sat.refl w).new #[.int .u8 0, .int .u8 0, .int .u8 0, .int .u8 1, .int .u8 229, .int .u8 140, .int .u8 151, .int .u8 146, .int .u8 97] 161
  go_enter Tryd.func37, Tryd.ntmps37
  go_wp2_with fail
  have hs2 := hs1.new #[.int .u8 97] 5
  have hrd : Rd _ (some ⟨_, 0, none⟩) (bvs [97]) := Rd.of_heap hs2.heap
  rw [World.size_alloc] at hrd
  generalize hbw : w.heap.size = bw at hs1 hs2 hrd ⊢
  refine (wal_frame (HT.out.mono hs2.below) [97] (some ⟨bw + 1, 0, none⟩) 1 hrd (by decide) (by decide)).mono ?_
  rintro e w2 ⟨v, rfl, u, rfl, hx⟩
  have hs3 := (hs2.drop.glue hx)
  rw [oneFrame_eq] at hs3
  obtain ⟨uo, uc, rfl, hle, hru, hnu⟩ := hs3.vec_rd
  clear hx hs2 hrd hs1
  go_wp2_with fail
  have hs4 : Sat w w2 (1 * blk bw (bvs oneFrame) 161 * vec 5 1 (.slice uo 9 uc) 9 (bvs oneFrame)) := hs3
  obtain ⟨b, o, rfl, hc⟩ := hru.addr (by decide)
  have HU := Hid.mk' hru
  clear hs3 hru hnu
  go_loopw [4] (fun i wr => ∃ k m : Nat, k ≤ 9 ∧ i = .int .i64 k ∧ wr = w2.drewN m) (fun i _ => 9 - (intOf i).toNat)
  case atStart => exact ⟨0, 0, by omega, rfl, rfl⟩
  case round =>
    obtain ⟨k, m, hk, rfl, rfl⟩ := hrel
    by_cases hlt : k < 9
    · have hl : k < oneFrame.length := hlt
      have h1 : w2.cell? ⟨b, o + k, none⟩ = some (.int .u8 (oneFrame[k].toNat : Int)) := hc k _ (bvs_get hl)
      have h2 : w2.cell? ⟨bw, k, none⟩ = some (.int .u8 (oneFrame[k].toNat : Int)) := hs4.swap.cell (bvs_get hl)
      have hb : ((oneFrame[k].toNat : Int) != (oneFrame[k].toNat : Int)) = false := bne_eq_false_iff_eq.2 rfl
      generalize (oneFrame[k].toNat : Int) = z at h1 h2 hb
      clear hc
      go_wp2
      go_quiet (fail)
      go_wp2
      refine ⟨⟨k + 1, _, by omega, rfl, rfl⟩, by simp [intOf]; omega⟩
    · obtain rfl : k = 9 := by omega
      have hs5 := hs4.drewN m
      generalize w2.drewN m = w3 at hs5 ⊢
      go_wp2_with fail
      refine (wal_scan (HT.out.mono hs5.below) oneFrame (some ⟨b, o, none⟩) uc hs5.rd (by have := hle; exact this) (by decide)).mono ?_
      rintro e w4 ⟨v, rfl, vl, rfl, hx⟩
      rw [frames_one] at hx ⊢
      obtain ⟨lo, lc, rfl, hl1, hrl, _⟩ := hx.one'.vecs_rd
      obtain ⟨b2, o2, bo, c2, rfl, hc2, hl2, hr2, _⟩ := hrl.cell (k := 0) (by decide)
      obtain ⟨b3, o3, rfl, hc3⟩ := hr2.addr (by decide)
      have k1 : w4.cell? ⟨b2, o2, none⟩ = some (.slice (some ⟨b3, o3, none⟩) 1 c2) := hc2
      have k2 : w4.cell? ⟨b3, o3, none⟩ = some (.int .u8 97) := hc3 0 _ rfl
      have hs6 := hs5.drop.drop.glue hx
      clear hc2 hc3 hrl hr2 hx hs5 hs4
      go_wp2_with fail
      go_ret
      exact Ret.mk ⟨rfl, hs6.drop⟩
end Go.Proofs.YtjhlelcopofkkaaDoor
