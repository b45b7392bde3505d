/- wal: what stands at the head; and the laws' own comparing of lists. -/
import Derived.Test.YtjhlelcopofkkaaDoorScanR2
namespace Go.Proofs.YtjhlelcopofkkaaDoor
open Go.RowKit

set_option maxRecDepth 20000 in
set_option maxHeartbeats 3200000 in
theorem wal_sound_in {w : World} (b o c l n n4 : Nat) (s : Int) (h8 : 8 ≤ l) (q1 : 1 ≤ n) (q2 : n ≤ 8192) (q3 : 8 + n ≤ l) (hl : l ≤ 16777216) (hlc : l ≤ c)
    (T1 : Hid (Calls Tryd.prog 137 #[.slice (some ⟨b, o, none⟩) l c] w (Drew (.int .u32 n) w)))
    (T2 : Hid (∀ m, Calls Tryd.prog 137 #[.slice (some ⟨b, o + 4, none⟩) (l - 4) (c - 4)] (w.drewN m) (Drew (.int .u32 n4) (w.drewN m))))
    (S : Hid (∀ m c1 c2, Calls Tryd.prog 89 #[.slice (some ⟨b, o, none⟩) 4 c1, .slice (some ⟨b, o + 8, none⟩) n c2] (w.drewN m) (Drew (.int .u32 s) (w.drewN m)))) :
    Calls Tryd.prog 96 #[.slice (some ⟨b, o, none⟩) l c] w (Drew (.int .i64 (if (n4 : Int) = s then (n : Nat) else (0 : Nat))) w) := by
  have hmay : mayB (n : Int) = true := decide_eq_true ⟨by omega, by omega⟩
  by_cases q4 : (n4 : Int) = s
  · have hq : (s != (n4 : Int)) = false := bne_eq_false_iff_eq.2 q4.symm
    rw [if_pos q4]
    have Q4 := Hid.mk' q4
    clear q4
    go_enter Tryd.func96, Tryd.ntmps96
    go_wp2_with (first | (go_at_call 137; refine (T1.out).mono ?_; clear T1; rintro e w' ⟨rfl, m, rfl⟩) | (go_at_call 87; refine (wal_mayBe _).mono ?_; rintro e w' ⟨rfl, rfl⟩; rw [hmay]))
    go_quiet (first | (go_at_call 89; go_loud (exact Drew.quiet_add (S.out _ _ _))) | (go_at_call 137; go_loud (exact Drew.quiet_add (T2.out _))))
    go_wp2
    go_ret
    exact ⟨rfl, _, World.drewN_drewN _ _ _⟩
  · have hq : (s != (n4 : Int)) = true := bne_iff_ne.2 (fun e => q4 e.symm)
    rw [if_neg q4]
    have Q4 := Hid.mk' q4
    clear q4
    go_enter Tryd.func96, Tryd.ntmps96
    go_wp2_with (first | (go_at_call 137; refine (T1.out).mono ?_; clear T1; rintro e w' ⟨rfl, m, rfl⟩) | (go_at_call 87; refine (wal_mayBe _).mono ?_; rintro e w' ⟨rfl, rfl⟩; rw [hmay]))
    go_quiet (first | (go_at_call 89; exact Drew.quiet_add (S.out _ _ _)) | (go_at_call 137; exact Drew.quiet_add (T2.out _)))
    go_wp2
    go_ret
    exact ⟨rfl, _, World.drewN_drewN _ _ _⟩

theorem wal_get32' {w : World} (b o c : Nat) (xs : List UInt8) (hr : Rd w (some ⟨b, o, none⟩) (bvs xs)) (hl : 4 ≤ xs.length) :
    Calls Tryd.prog 137 #[.slice (some ⟨b, o, none⟩) xs.length c] w (Drew (.int .u32 (be4n xs)) w) := by
  have hc : ∀ k (h : k < xs.length), w.cell? ⟨b, o + k, none⟩ = some (bv xs[k]) := by
    intro k hk
    rcases hr with h | ⟨b', o', e, hc⟩
    · have := bvs_length xs
      rw [h] at this
      simp at this
      omega
    · cases e
      exact hc k _ (bvs_get hk)
  have e := be4n_get hl
  refine (wal_get32 b o xs.length c _ _ _ _ hl (hc 0 (by omega)) (hc 1 (by omega)) (hc 2 (by omega)) (hc 3 (by omega))).mono ?_
  rintro e' w' ⟨rfl, m, rfl⟩
  exact ⟨congrArg _ (congrArg _ (by omega)), m, rfl⟩

set_option maxRecDepth 20000 in
set_option maxHeartbeats 3200000 in
theorem wal_sound {w : World} (hT : CrcTab w) (xs : List UInt8) (ao : Option Addr) (c : Nat) (hr : Rd w ao (bvs xs)) (hn : xs.length ≤ 16777216) (hc : xs.length ≤ c) :
    Calls Tryd.prog 96 #[.slice ao xs.length c] w (Drew (.int .i64 (snd xs)) w) := by
  by_cases h8 : xs.length < 8
  · have H0 := Hid.mk' (show snd xs = 0 from snd_short h8)
    clear hr
    go_enter Tryd.func96, Tryd.ntmps96
    go_wp2_with fail
    go_ret
    exact ⟨congrArg _ (ret_int (by rw [H0.out]; rfl)), 0, rfl⟩
  · obtain ⟨b, o, rfl, hcells⟩ := hr.addr (by intro e; have := bvs_length xs; rw [e] at this; simp at this; omega)
    clear hcells
    have hbe := be4n_lt xs
    have HT := Hid.mk' (wal_get32' b o c xs hr (by omega))
    by_cases q0 : 1 ≤ be4n xs ∧ be4n xs ≤ 8192
    · by_cases q3 : xs.length < 8 + be4n xs
      · have H0 := Hid.mk' (show snd xs = 0 from snd_bad (fun g => by have := g.2.2.1; omega))
        have hmay : mayB (be4n xs : Int) = true := decide_eq_true ⟨by omega, by omega⟩
        clear hr
        go_enter Tryd.func96, Tryd.ntmps96
        go_wp2_with (first | (go_at_call 137; refine (HT.out).mono ?_; rintro e w' ⟨rfl, m, rfl⟩) | (go_at_call 87; refine (wal_mayBe _).mono ?_; rintro e w' ⟨rfl, rfl⟩; rw [hmay]))
        go_ret
        exact ⟨congrArg _ (ret_int (by rw [H0.out]; rfl)), _, rfl⟩
      · have HT2 := Hid.mk' (show ∀ m, Calls Tryd.prog 137 #[.slice (some ⟨b, o + 4, none⟩) (xs.length - 4) (c - 4)] (w.drewN m) (Drew (.int .u32 (be4n (xs.drop 4))) (w.drewN m)) from fun m => by
          have h4 : Rd (w.drewN m) (some ⟨b, o + 4, none⟩) (bvs (xs.drop 4)) := by rw [← bvs_drop]; exact hr.drewN.drop 4
          have := wal_get32' b (o + 4) (c - 4) (xs.drop 4) h4 (by rw [List.length_drop]; omega)
          rw [List.length_drop] at this
          exact this)
        have hpl : ((xs.drop 8).take (be4n xs)).length = be4n xs := by rw [List.length_take, List.length_drop]; omega
        have hhl : (xs.take 4).length = 4 := by rw [List.length_take]; omega
        have HS := Hid.mk' (show ∀ m c1 c2, Calls Tryd.prog 89 #[.slice (some ⟨b, o, none⟩) 4 c1, .slice (some ⟨b, o + 8, none⟩) (be4n xs) c2] (w.drewN m) (Drew (.int .u32 (ru32 (crc (xs.take 4 ++ (xs.drop 8).take (be4n xs))))) (w.drewN m)) from fun m c1 c2 => by
          have h1 : Rd (w.drewN m) (some ⟨b, o, none⟩) (bvs (xs.take 4)) := by rw [← bvs_take]; exact hr.drewN.take 4
          have := wal_sum (w := w.drewN m) (hT.mono (below_drewN (Below.refl _ _) m)) (xs.take 4) ((xs.drop 8).take (be4n xs)) _ _ c1 c2 h1 (hr.drewN.sub 8 _) (by omega) (by omega)
          rw [hpl, hhl] at this
          exact this)
        have hgood : Good xs ↔ (be4n (xs.drop 4) : Int) = ru32 (crc (xs.take 4 ++ (xs.drop 8).take (be4n xs))) := by
          unfold Good
          exact ⟨fun h => by rw [← h.2.2.2]; rfl, fun h => ⟨by omega, by omega, by omega, (Int.ofNat.inj h).symm⟩⟩
        refine (wal_sound_in b o c xs.length _ _ _ (by omega) (by omega) (by omega) (by omega) hn hc HT HT2 HS).mono ?_
        rintro e w' ⟨rfl, m, rfl⟩
        refine ⟨?_, m, rfl⟩
        by_cases g : Good xs
        · rw [if_pos (hgood.1 g), snd_good g]
        · rw [if_neg (fun h => g (hgood.2 h)), snd_bad g]
    · have H0 := Hid.mk' (show snd xs = 0 from snd_bad (fun g => q0 ⟨g.1, g.2.1⟩))
      have hmay : mayB (be4n xs : Int) = false := decide_eq_false (fun h => q0 ⟨by omega, by omega⟩)
      clear hr q0
      go_enter Tryd.func96, Tryd.ntmps96
      go_wp2_with (first | (go_at_call 137; refine (HT.out).mono ?_; rintro e w' ⟨rfl, m, rfl⟩) | (go_at_call 87; refine (wal_mayBe _).mono ?_; rintro e w' ⟨rfl, rfl⟩; rw [hmay]))
      go_ret
      exact ⟨congrArg _ (ret_int (by rw [H0.out]; rfl)), _, rfl⟩

set_option maxRecDepth 20000 in
set_option maxHeartbeats 3200000 in
/-- Payload by payload. -/
theorem law13_same {w : World} (ps qs : List (List UInt8)) (ao bo : Option Addr) (c d : Nat) (hr : RdL w ao ps) (hq : RdL w bo qs) (hn : ps.length ≤ 16777216) (hm : qs.length ≤ 16777216) (hp : ∀ p ∈ ps, p.length ≤ 16777216) :
    Calls Tryd.prog 40 #[.slice ao ps.length c, .slice bo qs.length d] w (Drew (.bool (decide (ps = qs))) w) := by
  by_cases hlen : ps.length = qs.length
  · have hl2 : ((ps.length : Int) != (qs.length : Int)) = false := bne_eq_false_iff_eq.2 (by omega)
    have HL := Hid.mk' hlen
    go_enter Tryd.func40, Tryd.ntmps40
    go_wp2
    go_loopw [5] (fun i wr => ∃ k : Nat, k ≤ ps.length ∧ i = .int .i64 k ∧ ps.take k = qs.take k ∧ ∃ m, wr = w.drewN m) (fun i _ => ps.length - (intOf i).toNat)
    case atStart => exact ⟨0, by omega, rfl, rfl, 0, rfl⟩
    case round =>
      obtain ⟨k, hk, rfl, heq, m, rfl⟩ := hrel
      have HE := Hid.mk' heq
      clear heq
      by_cases hlt : k < ps.length
      · have hlt' : k < qs.length := by have := HL.out; omega
        obtain ⟨b1, o1, a1, c1, rfl, hc1, hl1, hr1, _⟩ := hr.cell hlt
        obtain ⟨b2, o2, a2, c2, rfl, hc2, hl2', hr2, _⟩ := hq.cell hlt'
        have HS := Hid.mk' (show ∀ n, Calls Tryd.prog 25 #[.slice a1 ps[k].length c1, .slice a2 qs[k].length c2] (w.drewN n) (Drew (.bool (decide (ps[k] = qs[k]))) (w.drewN n)) from fun n => ref0_sameBytes _ _ _ _ _ _ hr1.drewN hr2.drewN (by have := hp _ (List.getElem_mem hlt); omega))
        by_cases hx : ps[k] = qs[k]
        · have HX := Hid.mk' (show ps.take (k + 1) = qs.take (k + 1) by rw [take_snoc ps k hlt, take_snoc qs k hlt', HE.out, hx])
          rw [decide_eq_true hx] at HS
          clear hx
          go_wp2
          go_quiet (first | (go_at_call 25; exact Drew.quiet_add (HS.out _)))
          go_wp2
          refine ⟨⟨k + 1, by omega, rfl, HX.out, _, rfl⟩, by simp [intOf]; omega⟩
        · have HX := Hid.mk' (show ¬ ps = qs from fun e => hx (by subst e; rfl))
          rw [decide_eq_false hx] at HS
          clear hx
          go_wp2
          go_quiet (first | (go_at_call 25; exact Drew.quiet_add (HS.out _)))
          go_wp2
          go_ret
          exact ⟨congrArg _ (ret_bool (decide_eq_false HX.out).symm), _, rfl⟩
      · obtain rfl : k = ps.length := by omega
        go_wp2
        go_ret
        refine ⟨?_, _, rfl⟩
        have h := HE.out
        rw [List.take_length, HL.out, List.take_length] at h
        exact congrArg _ (ret_bool (decide_eq_true h).symm)
  · have hl2 : ((ps.length : Int) != (qs.length : Int)) = true := by rw [bne_iff_ne]; omega
    have HX := Hid.mk' (show ¬ ps = qs from fun e => hlen (congrArg _ e))
    go_enter Tryd.func40, Tryd.ntmps40
    go_wp2
    go_ret
    exact ⟨congrArg _ (ret_bool (decide_eq_false HX.out).symm), 0, rfl⟩
end Go.Proofs.YtjhlelcopofkkaaDoor
