/- What the law DiskMoves calls survived, crashed and died. -/
import Derived.Test.YtjhlelcopofkkaaDoorHeld
namespace Go.Proofs.YtjhlelcopofkkaaDoor
open Go.RowKit

theorem law12_least {w : World} (a b m : Int) (hm : m = min a b) : Calls Tryd.prog 142 #[.int .i64 a, .int .i64 b] w (Same (.int .i64 m) w) := by
  by_cases h : a < b
  · have HM := Hid.mk' (show a = m by omega)
    clear hm
    go_enter Tryd.func142, Tryd.ntmps142
    go_wp2_with fail
    go_ret
    exact ⟨congrArg _ (ret_int HM.out), rfl⟩
  · have HM := Hid.mk' (show b = m by omega)
    clear hm
    go_enter Tryd.func142, Tryd.ntmps142
    go_wp2_with fail
    go_ret
    exact ⟨congrArg _ (ret_int HM.out), rfl⟩

set_option maxRecDepth 20000 in
set_option maxHeartbeats 6400000 in
theorem law12_survived {w0 w : World} {F : HP} {b : Nat} {D : Dk} (r : List UInt8) (wa na : Option Addr) (n wc nc z : Nat) (hd : D.dead = true) (hsy : D.synced = D.bytes.length) (hz : z ≤ D.bytes.length) (hn : n = (D.bytes ++ r).length) (h1 : Rd w wa (bvs (D.bytes ++ r))) (hno : wa = none → n = 0 ∧ wc = 0) (hc : n ≤ wc) (h2 : Rd w na (bvs D.bytes)) (hl : D.bytes.length ≤ 140737488351232)
    (hs : Sat w0 w (F * dk b D)) :
    Calls Tryd.prog 141 #[.pointer (some ⟨b, 0, none⟩), .slice wa n wc, .int .i64 z, .agg #[.slice na D.bytes.length nc, .int .i64 D.synced, .int .i64 0]] w (Ret fun v w' => v = .bool true ∧ Sat w0 w' (F * dk b D)) := by
  have hs1 := hs.new #[.slice na D.bytes.length nc, .int .i64 D.synced, .int .i64 0] 87
  have HDD := Hid.mk' (disk_dead hs1.swap)
  rw [hd] at HDD
  have heq : ((D.synced : Int) == (D.bytes.length : Int)) = true := by rw [hsy]; exact beq_self_eq_true _
  have hge : (z : Int) ≤ (D.bytes.length : Int) := by omega
  have HS := Hid.mk' hs1
  have HST := Hid.mk' (law12_starts (w := w.alloc (.cells #[.slice na D.bytes.length nc, .int .i64 D.synced, .int .i64 0] 87)) D.bytes r wa na n wc nc hn h1.skip hno hc h2.skip hl)
  clear hs hs1 hd hsy hz hn h1 hno hc h2 hl
  go_enter Tryd.func141, Tryd.ntmps141
  go_wp2_with (first | (go_at_call 53; refine HDD.out.mono ?_; rintro e v5 ⟨rfl, rfl⟩) | (go_at_call 65; refine HST.out.mono ?_; rintro e v6 ⟨v, rfl, rfl, hx⟩))
  go_ret
  exact Ret.mk ⟨rfl, HS.out.drop.then1 hx⟩

theorem kept_int {D : Dk} (h : D.synced ≤ D.bytes.length) (keep : Int) : (((D.fail keep).bytes.length : Nat) : Int) = D.synced + min (max keep 0) ((D.bytes.length : Int) - D.synced) := by
  have h1 := Dk.kept_le h keep
  show (((D.bytes.take (D.kept keep)).length : Nat) : Int) = _
  rw [List.length_take, Nat.min_eq_left h1]
  unfold Dk.kept
  omega

set_option maxRecDepth 20000 in
set_option maxHeartbeats 6400000 in
theorem law12_crashed {w0 w : World} {F : HP} {b : Nat} {D D2 : Dk} (keep : Int) (hD : D.Ok) (hD2 : D.fail keep = D2) (wa na : Option Addr) (wc nc : Nat) (h1 : Rd w wa (bvs D.bytes)) (hno : wa = none → D.bytes.length = 0 ∧ wc = 0) (hc : D.bytes.length ≤ wc) (h2 : Rd w na (bvs D2.bytes))
    (hs : Sat w0 w (F * dk b D2)) :
    Calls Tryd.prog 121 #[.pointer (some ⟨b, 0, none⟩), .agg #[.slice wa D.bytes.length wc, .int .i64 D.synced, .int .i64 0], .int .i64 keep, .agg #[.slice na D2.bytes.length nc, .int .i64 D2.synced, .int .i64 0]] w (Ret fun v w' => v = .bool true ∧ Sat w0 w' (F * dk b D2)) := by
  have hb := hD.bytes
  have hsy := hD.synced
  have hg := Dk.fail_good hsy keep
  have hk := kept_int hsy keep
  have hdd : (D.fail keep).dead = true := rfl
  rw [hD2] at hg hk hdd
  obtain ⟨r, hr⟩ := hg.2.1
  have hl2 : D2.bytes.length ≤ D.bytes.length := by rw [← hr, List.length_append]; omega
  have hs1 := (hs.new #[.slice wa D.bytes.length wc, .int .i64 D.synced, .int .i64 0] 87).new #[.slice na D2.bytes.length nc, .int .i64 D2.synced, .int .i64 0] 87
  obtain ⟨T, hT⟩ : ∃ T : Int, (D2.bytes.length : Int) = T := ⟨_, rfl⟩
  obtain ⟨kk, hkk⟩ : ∃ kk : Int, max keep 0 = kk := ⟨_, rfl⟩
  obtain ⟨m, hm⟩ : ∃ m : Int, min kk ((D.bytes.length : Int) - D.synced) = m := ⟨_, rfl⟩
  have hw1 : IntKind.i64.wrap ((D.bytes.length : Int) - (D.synced : Int)) = (D.bytes.length : Int) - (D.synced : Int) := by rw [IntKind.wrap_i64]; omega
  have hw2 : IntKind.i64.wrap ((D.synced : Int) + m) = T := by rw [IntKind.wrap_i64]; omega
  have heq : ((D2.bytes.length : Int) == T) = true := by rw [hT]; exact beq_self_eq_true _
  rw [World.size_alloc] at hs1
  generalize hh : w.heap.size = h at hs1
  have hs2 := hs1.perm (B := F * blk h [.slice wa D.bytes.length wc, .int .i64 D.synced, .int .i64 0] 87 * blk (h + 1) [.slice na D2.bytes.length nc, .int .i64 D2.synced, .int .i64 0] 87 * dk b D2) (by ac_rfl)
  have HR := Hid.mk' hr
  have HLE := Hid.mk' (fun (keep' : Int) (e : keep' = kk) (w' : World) => law12_least (w := w') keep' ((D.bytes.length : Int) - D.synced) m (by rw [e, hm]))
  have H1 := Hid.mk' (h1.skip.skip (o := .cells #[.slice na D2.bytes.length nc, .int .i64 D2.synced, .int .i64 0] 87) (w := w.alloc (.cells #[.slice wa D.bytes.length wc, .int .i64 D.synced, .int .i64 0] 87)))
  have H2 := Hid.mk' (h2.skip.skip (o := .cells #[.slice na D2.bytes.length nc, .int .i64 D2.synced, .int .i64 0] 87) (w := w.alloc (.cells #[.slice wa D.bytes.length wc, .int .i64 D.synced, .int .i64 0] 87)))
  have HSV := Hid.mk' (fun k => law12_survived r wa na D.bytes.length wc nc D.synced hdd hg.2.2.1 hg.2.2.2 (by rw [hr]) (by rw [hr]; exact H1.out.drewN (k := k)) hno hc (H2.out.drewN (k := k)) (by omega) (hs2.drewN k))
  clear hs hs1 hD hD2 h1 h2 hg hk hdd hr hT hm hno hc hb hsy hl2 H1 H2
  by_cases hn : keep < 0
  · have e0 : (0 : Int) = kk := by omega
    have HE0 := Hid.mk' e0
    clear e0 hkk
    go_enter Tryd.func121, Tryd.ntmps121
    go_wp2_with fail
    go_region_held3 (fun wr => wr.cell? ⟨h, 0, none⟩ = some (.slice wa D.bytes.length wc) ∧ wr.cell? ⟨h, 1, none⟩ = some (.int .i64 D.synced)) (first | exact ⟨hs2.rot3.cell rfl, hs2.rot3.cell rfl⟩ | exact ⟨(hs2.drewN _).rot3.cell rfl, (hs2.drewN _).rot3.cell rfl⟩)
      (first | (go_at_call 142; refine (HLE.out 0 HE0.out _).mono ?_; rintro e v5 ⟨rfl, rfl⟩))
    all_goals
      go_wp2_with (go_at_call 141; refine (HSV.out 1).mono ?_; rintro e v6 ⟨v, rfl, rfl, hx⟩; have k0 := hx.swap.cell (i := 0) (v := .slice na D2.bytes.length nc) rfl)
      go_ret
      exact Ret.mk ⟨rfl, hx.swap.drop.swap.drop⟩
  · have HE0 := Hid.mk' (show keep = kk by omega)
    clear hkk
    go_enter Tryd.func121, Tryd.ntmps121
    go_wp2_with fail
    go_region_held3 (fun wr => wr.cell? ⟨h, 0, none⟩ = some (.slice wa D.bytes.length wc) ∧ wr.cell? ⟨h, 1, none⟩ = some (.int .i64 D.synced)) (first | exact ⟨hs2.rot3.cell rfl, hs2.rot3.cell rfl⟩ | exact ⟨(hs2.drewN _).rot3.cell rfl, (hs2.drewN _).rot3.cell rfl⟩)
      (first | (go_at_call 142; refine (HLE.out keep HE0.out _).mono ?_; rintro e v5 ⟨rfl, rfl⟩))
    all_goals
      go_wp2_with (go_at_call 141; refine (HSV.out 1).mono ?_; rintro e v6 ⟨v, rfl, rfl, hx⟩; have k0 := hx.swap.cell (i := 0) (v := .slice na D2.bytes.length nc) rfl)
      go_ret
      exact Ret.mk ⟨rfl, hx.swap.drop.swap.drop⟩
end Go.Proofs.YtjhlelcopofkkaaDoor
