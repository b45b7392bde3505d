/- The walk of the law DiskArmed: an arm is a crash at its place. -/
import Derived.Test.YtjhlelcopofkkaaDoorCounts
namespace Go.Proofs.YtjhlelcopofkkaaDoor
open Go.RowKit

theorem Dk.Ok.withArms {B : Dk} (h : B.Ok) {l : List (Nat × Int)} (hl : ∀ x ∈ l, (x.1 : Int) ≤ 9223372036854775807 ∧ -9223372036854775808 ≤ x.2 ∧ x.2 ≤ 9223372036854775807) : (B.withArms l).Ok := ⟨h.synced, h.room, h.bytes, hl⟩
theorem disk_deadW {w0 w : World} {F : HP} {b : Nat} {B : Dk} {l : List (Nat × Int)} (hs : Sat w0 w (F * dk b (B.withArms l))) : Calls Tryd.prog 53 #[.pointer (some ⟨b, 0, none⟩)] w (Same (.bool B.dead) w) := disk_dead (D := B.withArms l) hs
theorem law12_actLookW {w0 w : World} {F : HP} {b : Nat} {B : Dk} {l : List (Nat × Int)} {E : Nat → Addr} (hE : Errs w0 E) (hD : (B.withArms l).Ok) (hm : l.length < 8796093022207) (hs : Sat w0 w (F * dk b (B.withArms l))) :
    Calls Tryd.prog 47 #[.pointer (some ⟨b, 0, none⟩), Stp.looks.val] w (Ret fun v w' => ∃ (a : Option Addr) (c : Nat), B.bytes.length ≤ c ∧ v = .agg #[.slice a B.bytes.length c, .int .i64 B.synced, .int .i64 0] ∧
      Sat w0 w' (F * dk b (B.withArms l) * vec 5 1 (.slice a B.bytes.length c) B.bytes.length (bvs B.bytes))) := law12_actLook hE hD hm hs
theorem act_used {B : Dk} {R : Nat} (h : B.Calm R) {s : Stp} (hs : s.Ok) (h5 : s.kind ≠ 5) : (B.withArms []).act s = ((B.act s).1, (B.act s).2.withArms []) := by
  rw [← Dk.withArms_self (h.act hs h5).arms, ← Dk.withArms_self h.arms]

set_option maxRecDepth 20000 in
set_option maxHeartbeats 25600000 in
theorem walk_diskArmed {w : World} {E : Nat → Addr} (hE : Errs w E) (room after keep : Int) (_ha1 : -9223372036854775808 ≤ after) (ha2 : after ≤ 9223372036854775807) (hk1 : -9223372036854775808 ≤ keep) (hk2 : keep ≤ 9223372036854775807) (ss : List Stp) (ao : Option Addr) (c : Nat) (hr : Rd w ao (stps ss)) (hn : ss.length ≤ 2932031007402) (hok : ∀ s ∈ ss, s.Ok) :
    Calls Tryd.prog 11 #[.agg #[.int .i64 room, .slice ao ss.length c, .int .i64 after, .int .i64 keep]] w (Ret fun v w' => v = .bool true ∧ Sat w w' 1) := by
  have HE := Hid.mk' hE
  have HR := Hid.mk' hr
  have HOK := Hid.mk' hok
  have hs0 := (Sat.refl w).new #[.int .i64 room, .slice ao ss.length c, .int .i64 after, .int .i64 keep] 99
  clear hE hr hok
  obtain ⟨SC, hSC⟩ : ∃ SC, #[Value.int .i64 room, .slice ao ss.length c, .int .i64 after, .int .i64 keep].toList = SC := ⟨_, rfl⟩
  have C0 := Hid.mk' (show SC[0]? = some (.int .i64 room) by rw [← hSC]; rfl)
  have C1 := Hid.mk' (show SC[1]? = some (.slice ao ss.length c) by rw [← hSC]; rfl)
  have C2 := Hid.mk' (show SC[2]? = some (.int .i64 after) by rw [← hSC]; rfl)
  have C3 := Hid.mk' (show SC[3]? = some (.int .i64 keep) by rw [← hSC]; rfl)
  rw [hSC] at hs0
  clear hSC
  generalize hbw : w.heap.size = bw at hs0
  go_enter Tryd.func11, Tryd.ntmps11
  go_wp2_with fail
  refine (disk_new hs0 room).mono ?_
  rintro e w1 ⟨v, rfl, ba, rfl, hs1⟩
  have k0 := hs1.swap.cell C0.out
  go_wp2_with fail
  refine (disk_new hs1 room).mono ?_
  rintro e w2 ⟨v, rfl, bb, rfl, hs2⟩
  have k2 := hs2.rot3.cell C2.out
  have k3 := hs2.rot3.cell C3.out
  clear hs0 hs1 k0
  go_wp2_with fail
  refine (disk_arm hs2.swap after keep (show (0 : Nat) < 8796093022207 by decide)).mono ?_
  rintro e w3 ⟨v, rfl, rfl, hs3⟩
  have hs4 : Sat w w3 (1 * blk bw SC 99 * dk ba ((Dk.new [] room).withArms [(after.toNat, keep)]) * dk bb (Dk.new [] room)) := hs3.swap
  have k2' := hs4.rot3.cell C2.out
  clear hs2 hs3 k2 k3
  have hC0 := Dk.Calm.new [] (by simp) room
  have hR0 : (Dk.new [] room).room = (Dk.new [] room).room := rfl
  go_wp2_with fail
  go_loopw [5, 6, 7] (fun z u i wr => ∃ (k : Nat) (B : Dk) (l : List (Nat × Int)) (zz : Int) (uu : Bool), k ≤ ss.length ∧ z = .int .i64 zz ∧ u = .bool uu ∧ i = .int .i64 k ∧ B.Calm (Dk.new [] room).room ∧ (uu = true → l = []) ∧ (uu = false → l = [(zz.toNat, keep)] ∧ zz ≤ 9223372036854775807) ∧ Sat w wr (1 * blk bw SC 99 * dk ba (B.withArms l) * dk bb B)) (fun _ _ i _ => ss.length - (intOf i).toNat)
  case atStart => exact ⟨0, _, _, after, false, by omega, rfl, rfl, rfl, hC0, fun h => by (cases h), fun _ => ⟨rfl, ha2⟩, hs4⟩
  case round =>
    clear hs4 k2' hC0 hR0
    obtain ⟨k, B, l, zz, uu, hk, rfl, rfl, rfl, hB, hu1, hu2, hS⟩ := hrel
    have k1 := hS.rot3.cell C1.out
    by_cases hlt : k < ss.length
    · obtain ⟨b1, o1, rfl, c0, c1, c2, c3, c4⟩ := stps_rd (HR.out.of0 hS) hlt
      have hso := HOK.out _ (List.getElem_mem hlt)
      generalize ss[k] = s at c0 c1 c2 c3 c4 hso
      obtain ⟨K, O, N, M, DT⟩ := s
      simp only at c0 c1 c2 c3 c4
      by_cases h5 : K = 5
      · subst h5
        have H1 := Hid.mk' hu1
        have H2 := Hid.mk' hu2
        have HB := Hid.mk' hB
        have HS := Hid.mk' (hS.new #[.int .i64 5, .int .i64 O, .int .i64 N, .int .i64 M, .string DT] 83).drop
        clear hu1 hu2 hB hS
        go_wp2_with fail
        refine ⟨⟨k + 1, B, l, zz, uu, by omega, rfl, rfl, by go_num, HB.out, H1.out, H2.out, HS.out⟩, by simp [intOf]; omega⟩
      · have h5b : (K == 5) = false := beq_eq_false_iff_ne.2 h5
        have h5k : (⟨K, O, N, M, DT⟩ : Stp).kind ≠ 5 := h5
        have hT := hS.new #[.int .i64 K, .int .i64 O, .int .i64 N, .int .i64 M, .string DT] 83
        generalize hbt : wr.heap.size = bt at hT
        have hB2 := hB.act hso h5k
        have hBo := hB.ok
        have hBa := hB.arms
        have hBm : B.arms.length < 8796093022207 := by rw [hBa]; decide
        have hAl := act_len hBo (⟨K, O, N, M, DT⟩ : Stp)
        have HCN := Hid.mk' (law12_counts HE.out hBo hBm (⟨K, O, N, M, DT⟩ : Stp) (hT.swap))
        clear hS
        cases huu : uu with
        | true =>
          obtain rfl : l = [] := hu1 huu
          subst huu
          have HACT := Hid.mk' (act_used hB hso h5k)
          have hAo := hBo.withArms (l := []) (fun x hx => by cases hx)
          have HA2 := Hid.mk' (hB2.ok.withArms (l := []) (fun x hx => by cases hx))
          clear hu1 hu2 h5 h5k HCN
          go_wp2_with fail
          refine (law12_act' HE.out hAo (⟨K, O, N, M, DT⟩ : Stp) hso (by simp [Dk.withArms]) (b := ba) (F := 1 * blk bw SC 99 * blk bt [.int .i64 K, .int .i64 O, .int .i64 N, .int .i64 M, .string DT] 83 * dk bb B) (hT.perm (by ac_rfl))).mono ?_
          rintro e v1 ⟨v, rfl, a1, n1, _, rfl, hx⟩
          rw [HACT.out] at hx ⊢
          have hy := hx.new #[.slice a1 (B.act (⟨K, O, N, M, DT⟩ : Stp)).1.list.length n1, .int .i64 (B.act (⟨K, O, N, M, DT⟩ : Stp)).1.num, .int .i64 ((B.act (⟨K, O, N, M, DT⟩ : Stp)).1.err : Int)] 87
          generalize hb9 : v1.heap.size = b9 at hy
          have hT9 := hy.perm (B := 1 * blk bw SC 99 * blk bt [.int .i64 K, .int .i64 O, .int .i64 N, .int .i64 M, .string DT] 83 * dk bb B * vec 5 1 (.slice a1 (B.act (⟨K, O, N, M, DT⟩ : Stp)).1.list.length n1) (B.act (⟨K, O, N, M, DT⟩ : Stp)).1.list.length (bvs (B.act (⟨K, O, N, M, DT⟩ : Stp)).1.list) * dk ba ((B.act (⟨K, O, N, M, DT⟩ : Stp)).2.withArms []) * blk b9 [.slice a1 (B.act (⟨K, O, N, M, DT⟩ : Stp)).1.list.length n1, .int .i64 (B.act (⟨K, O, N, M, DT⟩ : Stp)).1.num, .int .i64 ((B.act (⟨K, O, N, M, DT⟩ : Stp)).1.err : Int)] 87) (by ac_rfl)
          have hT8 := hy.perm (B := 1 * blk bw SC 99 * blk b9 [.slice a1 (B.act (⟨K, O, N, M, DT⟩ : Stp)).1.list.length n1, .int .i64 (B.act (⟨K, O, N, M, DT⟩ : Stp)).1.num, .int .i64 ((B.act (⟨K, O, N, M, DT⟩ : Stp)).1.err : Int)] 87 * dk bb B * vec 5 1 (.slice a1 (B.act (⟨K, O, N, M, DT⟩ : Stp)).1.list.length n1) (B.act (⟨K, O, N, M, DT⟩ : Stp)).1.list.length (bvs (B.act (⟨K, O, N, M, DT⟩ : Stp)).1.list) * dk ba ((B.act (⟨K, O, N, M, DT⟩ : Stp)).2.withArms []) * blk bt [.int .i64 K, .int .i64 O, .int .i64 N, .int .i64 M, .string DT] 83) (by ac_rfl)
          clear hx hy hT
          go_wp2_with fail
          go_region_held3 (fun wr => (wr.cell? ⟨b9, 0, none⟩ = some (.slice a1 (B.act (⟨K, O, N, M, DT⟩ : Stp)).1.list.length n1) ∧ wr.cell? ⟨b9, 1, none⟩ = some (.int .i64 (B.act (⟨K, O, N, M, DT⟩ : Stp)).1.num) ∧ wr.cell? ⟨b9, 2, none⟩ = some (.int .i64 ((B.act (⟨K, O, N, M, DT⟩ : Stp)).1.err : Int))) ∧ wr.cell? ⟨bt, 0, none⟩ = some (.int .i64 K) ∧ wr.cell? ⟨bt, 1, none⟩ = some (.int .i64 O) ∧ wr.cell? ⟨bt, 2, none⟩ = some (.int .i64 N) ∧ wr.cell? ⟨bt, 3, none⟩ = some (.int .i64 M) ∧ wr.cell? ⟨bt, 4, none⟩ = some (.string DT))
            (first | exact ⟨⟨hT9.cell rfl, hT9.cell rfl, hT9.cell rfl⟩, hT8.cell rfl, hT8.cell rfl, hT8.cell rfl, hT8.cell rfl, hT8.cell rfl⟩ | exact ⟨⟨hU9.cell rfl, hU9.cell rfl, hU9.cell rfl⟩, hU8.cell rfl, hU8.cell rfl, hU8.cell rfl, hU8.cell rfl, hU8.cell rfl⟩ | exact ⟨⟨(hU9.then1 hq).cell rfl, (hU9.then1 hq).cell rfl, (hU9.then1 hq).cell rfl⟩, (hU8.then1 hq).cell rfl, (hU8.then1 hq).cell rfl, (hU8.then1 hq).cell rfl, (hU8.then1 hq).cell rfl, (hU8.then1 hq).cell rfl⟩)
            (first | (go_at_call 48; refine (law12_same' (B.act (⟨K, O, N, M, DT⟩ : Stp)).1 a1 a2 n1 n2 hU8.rot5.rd hU8.rot4.rd hAl).mono ?_; rintro e v5 ⟨v, rfl, rfl, hq⟩) | (go_at_call 47; refine (law12_act' HE.out hBo (⟨K, O, N, M, DT⟩ : Stp) hso hBm (b := bb) (F := 1 * blk bw SC 99 * blk bt [.int .i64 K, .int .i64 O, .int .i64 N, .int .i64 M, .string DT] 83 * vec 5 1 (.slice a1 (B.act (⟨K, O, N, M, DT⟩ : Stp)).1.list.length n1) (B.act (⟨K, O, N, M, DT⟩ : Stp)).1.list.length (bvs (B.act (⟨K, O, N, M, DT⟩ : Stp)).1.list) * dk ba ((B.act (⟨K, O, N, M, DT⟩ : Stp)).2.withArms []) * blk b9 [.slice a1 (B.act (⟨K, O, N, M, DT⟩ : Stp)).1.list.length n1, .int .i64 (B.act (⟨K, O, N, M, DT⟩ : Stp)).1.num, .int .i64 ((B.act (⟨K, O, N, M, DT⟩ : Stp)).1.err : Int)] 87) ((hT9.drewN 1).perm (by ac_rfl))).mono ?_; rintro e v4 ⟨v, rfl, a2, n2, _, rfl, hu⟩; have hU9 := hu.perm (B := 1 * blk bw SC 99 * blk bt [.int .i64 K, .int .i64 O, .int .i64 N, .int .i64 M, .string DT] 83 * vec 5 1 (.slice a1 (B.act (⟨K, O, N, M, DT⟩ : Stp)).1.list.length n1) (B.act (⟨K, O, N, M, DT⟩ : Stp)).1.list.length (bvs (B.act (⟨K, O, N, M, DT⟩ : Stp)).1.list) * vec 5 1 (.slice a2 (B.act (⟨K, O, N, M, DT⟩ : Stp)).1.list.length n2) (B.act (⟨K, O, N, M, DT⟩ : Stp)).1.list.length (bvs (B.act (⟨K, O, N, M, DT⟩ : Stp)).1.list) * dk ba ((B.act (⟨K, O, N, M, DT⟩ : Stp)).2.withArms []) * dk bb (B.act (⟨K, O, N, M, DT⟩ : Stp)).2 * blk b9 [.slice a1 (B.act (⟨K, O, N, M, DT⟩ : Stp)).1.list.length n1, .int .i64 (B.act (⟨K, O, N, M, DT⟩ : Stp)).1.num, .int .i64 ((B.act (⟨K, O, N, M, DT⟩ : Stp)).1.err : Int)] 87) (by ac_rfl); have hU8 := hu.perm (B := 1 * blk bw SC 99 * blk b9 [.slice a1 (B.act (⟨K, O, N, M, DT⟩ : Stp)).1.list.length n1, .int .i64 (B.act (⟨K, O, N, M, DT⟩ : Stp)).1.num, .int .i64 ((B.act (⟨K, O, N, M, DT⟩ : Stp)).1.err : Int)] 87 * vec 5 1 (.slice a1 (B.act (⟨K, O, N, M, DT⟩ : Stp)).1.list.length n1) (B.act (⟨K, O, N, M, DT⟩ : Stp)).1.list.length (bvs (B.act (⟨K, O, N, M, DT⟩ : Stp)).1.list) * vec 5 1 (.slice a2 (B.act (⟨K, O, N, M, DT⟩ : Stp)).1.list.length n2) (B.act (⟨K, O, N, M, DT⟩ : Stp)).1.list.length (bvs (B.act (⟨K, O, N, M, DT⟩ : Stp)).1.list) * dk ba ((B.act (⟨K, O, N, M, DT⟩ : Stp)).2.withArms []) * dk bb (B.act (⟨K, O, N, M, DT⟩ : Stp)).2 * blk bt [.int .i64 K, .int .i64 O, .int .i64 N, .int .i64 M, .string DT] 83) (by ac_rfl)))
          have hfin := ((hU9.then1 hq).perm (B := 1 * blk bw SC 99 * dk ba ((B.act (⟨K, O, N, M, DT⟩ : Stp)).2.withArms []) * dk bb (B.act (⟨K, O, N, M, DT⟩ : Stp)).2 * (blk bt [.int .i64 K, .int .i64 O, .int .i64 N, .int .i64 M, .string DT] 83 * vec 5 1 (.slice a1 (B.act (⟨K, O, N, M, DT⟩ : Stp)).1.list.length n1) (B.act (⟨K, O, N, M, DT⟩ : Stp)).1.list.length (bvs (B.act (⟨K, O, N, M, DT⟩ : Stp)).1.list) * vec 5 1 (.slice a2 (B.act (⟨K, O, N, M, DT⟩ : Stp)).1.list.length n2) (B.act (⟨K, O, N, M, DT⟩ : Stp)).1.list.length (bvs (B.act (⟨K, O, N, M, DT⟩ : Stp)).1.list) * blk b9 [.slice a1 (B.act (⟨K, O, N, M, DT⟩ : Stp)).1.list.length n1, .int .i64 (B.act (⟨K, O, N, M, DT⟩ : Stp)).1.num, .int .i64 ((B.act (⟨K, O, N, M, DT⟩ : Stp)).1.err : Int)] 87)) (by ac_rfl)).drop
          clear hU9 hU8 hu hT9 hT8 hq
          have hA2o := HA2.out
          have hB2a := hB2.arms
          have hB2o := hB2.ok
          have hbe : ((B.act (⟨K, O, N, M, DT⟩ : Stp)).2.dead != (B.act (⟨K, O, N, M, DT⟩ : Stp)).2.dead) = false := bne_eq_false_iff_eq.2 rfl
          have HDa := Hid.mk' (disk_deadW (B := (B.act (⟨K, O, N, M, DT⟩ : Stp)).2) (l := []) hfin.swap)
          have HDb := Hid.mk' (disk_dead (D := (B.act (⟨K, O, N, M, DT⟩ : Stp)).2) hfin)
          have hBl := hB2o.bytes
          go_wp2_with (first | (go_at_call 53; refine HDa.out.mono ?_; clear HDa; rintro e v5 ⟨rfl, rfl⟩) | (go_at_call 53; refine HDb.out.mono ?_; rintro e v5 ⟨rfl, rfl⟩))
          refine law12_look.mono ?_
          rintro e va ⟨v, rfl, rfl, hq⟩
          have hr1 := hfin.then1 hq
          clear hq
          go_wp2_with fail
          refine (law12_actLookW (B := (B.act (⟨K, O, N, M, DT⟩ : Stp)).2) (l := []) HE.out hA2o (by simp) (F := 1 * blk bw SC 99 * dk bb (B.act (⟨K, O, N, M, DT⟩ : Stp)).2) (hr1.perm (by ac_rfl))).mono ?_
          rintro e vb ⟨v, rfl, la, lc, _, rfl, hr2⟩
          clear hr1
          go_wp2_with fail
          refine law12_look.mono ?_
          rintro e vc ⟨v, rfl, rfl, hq⟩
          have hr3 := hr2.then1 hq
          clear hq hr2
          go_wp2_with fail
          refine (law12_actLook (D := (B.act (⟨K, O, N, M, DT⟩ : Stp)).2) HE.out hB2o (by rw [hB2a]; decide) (F := 1 * blk bw SC 99 * dk ba ((B.act (⟨K, O, N, M, DT⟩ : Stp)).2.withArms []) * vec 5 1 (.slice la (B.act (⟨K, O, N, M, DT⟩ : Stp)).2.bytes.length lc) (B.act (⟨K, O, N, M, DT⟩ : Stp)).2.bytes.length (bvs (B.act (⟨K, O, N, M, DT⟩ : Stp)).2.bytes)) (hr3.perm (by ac_rfl))).mono ?_
          rintro e vd ⟨v, rfl, ma, mc, _, rfl, hr4⟩
          clear hr3
          go_wp2_with fail
          refine (law12_sameLook (B.act (⟨K, O, N, M, DT⟩ : Stp)).2.bytes (B.act (⟨K, O, N, M, DT⟩ : Stp)).2.synced la ma lc mc hr4.rot3.rd hr4.rd hBl).mono ?_
          rintro e ve ⟨v, rfl, rfl, hq⟩
          have hr5 := (((hr4.then1 hq).drop.swap.drop).perm (B := 1 * blk bw SC 99 * dk ba ((B.act (⟨K, O, N, M, DT⟩ : Stp)).2.withArms []) * dk bb (B.act (⟨K, O, N, M, DT⟩ : Stp)).2) (by ac_rfl))
          clear hq hr4
          go_wp2_with fail
          refine ⟨⟨k + 1, (B.act (⟨K, O, N, M, DT⟩ : Stp)).2, [], zz, true, by omega, rfl, rfl, by go_num, hB2, fun _ => rfl, fun h => by (cases h), hr5⟩, by simp [intOf]; omega⟩
        | false =>
          obtain ⟨rfl, hz2⟩ := hu2 huu
          subst huu
          clear hu1 hu2
          cases hcn : B.counts ⟨K, O, N, M, DT⟩ with
          | false =>
            rw [hcn] at HCN
            have HACT := Hid.mk' (Dk.act_uncounted hBa h5k hcn [(zz.toNat, keep)])
            have hAo := hBo.withArms (l := [(zz.toNat, keep)]) (fun x hx => by rw [List.mem_singleton] at hx; subst hx; exact ⟨by show ((zz.toNat : Nat) : Int) ≤ _; omega, hk1, hk2⟩)
            have HA2 := Hid.mk' (hB2.ok.withArms (l := [(zz.toNat, keep)]) (fun x hx => by rw [List.mem_singleton] at hx; subst hx; exact ⟨by show ((zz.toNat : Nat) : Int) ≤ _; omega, hk1, hk2⟩))
            clear h5 h5k hcn hT
            go_wp2_with (go_at_call 59; refine HCN.out.mono ?_; rintro e v0 ⟨v, rfl, rfl, hT'⟩; have hT := hT'.swap; clear hT'; have q0 := hT.cell (i := 0) (v := .int .i64 K) rfl; have q1 := hT.cell (i := 1) (v := .int .i64 O) rfl; have q2 := hT.cell (i := 2) (v := .int .i64 N) rfl; have q3 := hT.cell (i := 3) (v := .int .i64 M) rfl; have q4 := hT.cell (i := 4) (v := .string DT) rfl)
            refine (law12_act' HE.out hAo (⟨K, O, N, M, DT⟩ : Stp) hso (by simp [Dk.withArms]) (b := ba) (F := 1 * blk bw SC 99 * blk bt [.int .i64 K, .int .i64 O, .int .i64 N, .int .i64 M, .string DT] 83 * dk bb B) (hT.perm (by ac_rfl))).mono ?_
            rintro e v1 ⟨v, rfl, a1, n1, _, rfl, hx⟩
            rw [HACT.out] at hx ⊢
            have hy := hx.new #[.slice a1 (B.act (⟨K, O, N, M, DT⟩ : Stp)).1.list.length n1, .int .i64 (B.act (⟨K, O, N, M, DT⟩ : Stp)).1.num, .int .i64 ((B.act (⟨K, O, N, M, DT⟩ : Stp)).1.err : Int)] 87
            generalize hb9 : v1.heap.size = b9 at hy
            have hT9 := hy.perm (B := 1 * blk bw SC 99 * blk bt [.int .i64 K, .int .i64 O, .int .i64 N, .int .i64 M, .string DT] 83 * dk bb B * vec 5 1 (.slice a1 (B.act (⟨K, O, N, M, DT⟩ : Stp)).1.list.length n1) (B.act (⟨K, O, N, M, DT⟩ : Stp)).1.list.length (bvs (B.act (⟨K, O, N, M, DT⟩ : Stp)).1.list) * dk ba ((B.act (⟨K, O, N, M, DT⟩ : Stp)).2.withArms [(zz.toNat, keep)]) * blk b9 [.slice a1 (B.act (⟨K, O, N, M, DT⟩ : Stp)).1.list.length n1, .int .i64 (B.act (⟨K, O, N, M, DT⟩ : Stp)).1.num, .int .i64 ((B.act (⟨K, O, N, M, DT⟩ : Stp)).1.err : Int)] 87) (by ac_rfl)
            have hT8 := hy.perm (B := 1 * blk bw SC 99 * blk b9 [.slice a1 (B.act (⟨K, O, N, M, DT⟩ : Stp)).1.list.length n1, .int .i64 (B.act (⟨K, O, N, M, DT⟩ : Stp)).1.num, .int .i64 ((B.act (⟨K, O, N, M, DT⟩ : Stp)).1.err : Int)] 87 * dk bb B * vec 5 1 (.slice a1 (B.act (⟨K, O, N, M, DT⟩ : Stp)).1.list.length n1) (B.act (⟨K, O, N, M, DT⟩ : Stp)).1.list.length (bvs (B.act (⟨K, O, N, M, DT⟩ : Stp)).1.list) * dk ba ((B.act (⟨K, O, N, M, DT⟩ : Stp)).2.withArms [(zz.toNat, keep)]) * blk bt [.int .i64 K, .int .i64 O, .int .i64 N, .int .i64 M, .string DT] 83) (by ac_rfl)
            clear hx hy hT q0 q1 q2 q3 q4
            go_wp2_with fail
            go_region_held3 (fun wr => (wr.cell? ⟨b9, 0, none⟩ = some (.slice a1 (B.act (⟨K, O, N, M, DT⟩ : Stp)).1.list.length n1) ∧ wr.cell? ⟨b9, 1, none⟩ = some (.int .i64 (B.act (⟨K, O, N, M, DT⟩ : Stp)).1.num) ∧ wr.cell? ⟨b9, 2, none⟩ = some (.int .i64 ((B.act (⟨K, O, N, M, DT⟩ : Stp)).1.err : Int))) ∧ wr.cell? ⟨bt, 0, none⟩ = some (.int .i64 K) ∧ wr.cell? ⟨bt, 1, none⟩ = some (.int .i64 O) ∧ wr.cell? ⟨bt, 2, none⟩ = some (.int .i64 N) ∧ wr.cell? ⟨bt, 3, none⟩ = some (.int .i64 M) ∧ wr.cell? ⟨bt, 4, none⟩ = some (.string DT))
              (first | exact ⟨⟨hT9.cell rfl, hT9.cell rfl, hT9.cell rfl⟩, hT8.cell rfl, hT8.cell rfl, hT8.cell rfl, hT8.cell rfl, hT8.cell rfl⟩ | exact ⟨⟨hU9.cell rfl, hU9.cell rfl, hU9.cell rfl⟩, hU8.cell rfl, hU8.cell rfl, hU8.cell rfl, hU8.cell rfl, hU8.cell rfl⟩ | exact ⟨⟨(hU9.then1 hq).cell rfl, (hU9.then1 hq).cell rfl, (hU9.then1 hq).cell rfl⟩, (hU8.then1 hq).cell rfl, (hU8.then1 hq).cell rfl, (hU8.then1 hq).cell rfl, (hU8.then1 hq).cell rfl, (hU8.then1 hq).cell rfl⟩)
              (first | (go_at_call 48; refine (law12_same' (B.act (⟨K, O, N, M, DT⟩ : Stp)).1 a1 a2 n1 n2 hU8.rot5.rd hU8.rot4.rd hAl).mono ?_; rintro e v5 ⟨v, rfl, rfl, hq⟩) | (go_at_call 47; refine (law12_act' HE.out hBo (⟨K, O, N, M, DT⟩ : Stp) hso hBm (b := bb) (F := 1 * blk bw SC 99 * blk bt [.int .i64 K, .int .i64 O, .int .i64 N, .int .i64 M, .string DT] 83 * vec 5 1 (.slice a1 (B.act (⟨K, O, N, M, DT⟩ : Stp)).1.list.length n1) (B.act (⟨K, O, N, M, DT⟩ : Stp)).1.list.length (bvs (B.act (⟨K, O, N, M, DT⟩ : Stp)).1.list) * dk ba ((B.act (⟨K, O, N, M, DT⟩ : Stp)).2.withArms [(zz.toNat, keep)]) * blk b9 [.slice a1 (B.act (⟨K, O, N, M, DT⟩ : Stp)).1.list.length n1, .int .i64 (B.act (⟨K, O, N, M, DT⟩ : Stp)).1.num, .int .i64 ((B.act (⟨K, O, N, M, DT⟩ : Stp)).1.err : Int)] 87) ((hT9.drewN 1).perm (by ac_rfl))).mono ?_; rintro e v4 ⟨v, rfl, a2, n2, _, rfl, hu⟩; have hU9 := hu.perm (B := 1 * blk bw SC 99 * blk bt [.int .i64 K, .int .i64 O, .int .i64 N, .int .i64 M, .string DT] 83 * vec 5 1 (.slice a1 (B.act (⟨K, O, N, M, DT⟩ : Stp)).1.list.length n1) (B.act (⟨K, O, N, M, DT⟩ : Stp)).1.list.length (bvs (B.act (⟨K, O, N, M, DT⟩ : Stp)).1.list) * vec 5 1 (.slice a2 (B.act (⟨K, O, N, M, DT⟩ : Stp)).1.list.length n2) (B.act (⟨K, O, N, M, DT⟩ : Stp)).1.list.length (bvs (B.act (⟨K, O, N, M, DT⟩ : Stp)).1.list) * dk ba ((B.act (⟨K, O, N, M, DT⟩ : Stp)).2.withArms [(zz.toNat, keep)]) * dk bb (B.act (⟨K, O, N, M, DT⟩ : Stp)).2 * blk b9 [.slice a1 (B.act (⟨K, O, N, M, DT⟩ : Stp)).1.list.length n1, .int .i64 (B.act (⟨K, O, N, M, DT⟩ : Stp)).1.num, .int .i64 ((B.act (⟨K, O, N, M, DT⟩ : Stp)).1.err : Int)] 87) (by ac_rfl); have hU8 := hu.perm (B := 1 * blk bw SC 99 * blk b9 [.slice a1 (B.act (⟨K, O, N, M, DT⟩ : Stp)).1.list.length n1, .int .i64 (B.act (⟨K, O, N, M, DT⟩ : Stp)).1.num, .int .i64 ((B.act (⟨K, O, N, M, DT⟩ : Stp)).1.err : Int)] 87 * vec 5 1 (.slice a1 (B.act (⟨K, O, N, M, DT⟩ : Stp)).1.list.length n1) (B.act (⟨K, O, N, M, DT⟩ : Stp)).1.list.length (bvs (B.act (⟨K, O, N, M, DT⟩ : Stp)).1.list) * vec 5 1 (.slice a2 (B.act (⟨K, O, N, M, DT⟩ : Stp)).1.list.length n2) (B.act (⟨K, O, N, M, DT⟩ : Stp)).1.list.length (bvs (B.act (⟨K, O, N, M, DT⟩ : Stp)).1.list) * dk ba ((B.act (⟨K, O, N, M, DT⟩ : Stp)).2.withArms [(zz.toNat, keep)]) * dk bb (B.act (⟨K, O, N, M, DT⟩ : Stp)).2 * blk bt [.int .i64 K, .int .i64 O, .int .i64 N, .int .i64 M, .string DT] 83) (by ac_rfl)))
            have hfin := ((hU9.then1 hq).perm (B := 1 * blk bw SC 99 * dk ba ((B.act (⟨K, O, N, M, DT⟩ : Stp)).2.withArms [(zz.toNat, keep)]) * dk bb (B.act (⟨K, O, N, M, DT⟩ : Stp)).2 * (blk bt [.int .i64 K, .int .i64 O, .int .i64 N, .int .i64 M, .string DT] 83 * vec 5 1 (.slice a1 (B.act (⟨K, O, N, M, DT⟩ : Stp)).1.list.length n1) (B.act (⟨K, O, N, M, DT⟩ : Stp)).1.list.length (bvs (B.act (⟨K, O, N, M, DT⟩ : Stp)).1.list) * vec 5 1 (.slice a2 (B.act (⟨K, O, N, M, DT⟩ : Stp)).1.list.length n2) (B.act (⟨K, O, N, M, DT⟩ : Stp)).1.list.length (bvs (B.act (⟨K, O, N, M, DT⟩ : Stp)).1.list) * blk b9 [.slice a1 (B.act (⟨K, O, N, M, DT⟩ : Stp)).1.list.length n1, .int .i64 (B.act (⟨K, O, N, M, DT⟩ : Stp)).1.num, .int .i64 ((B.act (⟨K, O, N, M, DT⟩ : Stp)).1.err : Int)] 87)) (by ac_rfl)).drop
            clear hU9 hU8 hu hT9 hT8 hq
            have hA2o := HA2.out
            have hB2a := hB2.arms
            have hB2o := hB2.ok
            have hbe : ((B.act (⟨K, O, N, M, DT⟩ : Stp)).2.dead != (B.act (⟨K, O, N, M, DT⟩ : Stp)).2.dead) = false := bne_eq_false_iff_eq.2 rfl
            have HDa := Hid.mk' (disk_deadW (B := (B.act (⟨K, O, N, M, DT⟩ : Stp)).2) (l := [(zz.toNat, keep)]) hfin.swap)
            have HDb := Hid.mk' (disk_dead (D := (B.act (⟨K, O, N, M, DT⟩ : Stp)).2) hfin)
            have hBl := hB2o.bytes
            go_wp2_with (first | (go_at_call 53; refine HDa.out.mono ?_; clear HDa; rintro e v5 ⟨rfl, rfl⟩) | (go_at_call 53; refine HDb.out.mono ?_; rintro e v5 ⟨rfl, rfl⟩))
            refine law12_look.mono ?_
            rintro e va ⟨v, rfl, rfl, hq⟩
            have hr1 := hfin.then1 hq
            clear hq
            go_wp2_with fail
            refine (law12_actLookW (B := (B.act (⟨K, O, N, M, DT⟩ : Stp)).2) (l := [(zz.toNat, keep)]) HE.out hA2o (by simp) (F := 1 * blk bw SC 99 * dk bb (B.act (⟨K, O, N, M, DT⟩ : Stp)).2) (hr1.perm (by ac_rfl))).mono ?_
            rintro e vb ⟨v, rfl, la, lc, _, rfl, hr2⟩
            clear hr1
            go_wp2_with fail
            refine law12_look.mono ?_
            rintro e vc ⟨v, rfl, rfl, hq⟩
            have hr3 := hr2.then1 hq
            clear hq hr2
            go_wp2_with fail
            refine (law12_actLook (D := (B.act (⟨K, O, N, M, DT⟩ : Stp)).2) HE.out hB2o (by rw [hB2a]; decide) (F := 1 * blk bw SC 99 * dk ba ((B.act (⟨K, O, N, M, DT⟩ : Stp)).2.withArms [(zz.toNat, keep)]) * vec 5 1 (.slice la (B.act (⟨K, O, N, M, DT⟩ : Stp)).2.bytes.length lc) (B.act (⟨K, O, N, M, DT⟩ : Stp)).2.bytes.length (bvs (B.act (⟨K, O, N, M, DT⟩ : Stp)).2.bytes)) (hr3.perm (by ac_rfl))).mono ?_
            rintro e vd ⟨v, rfl, ma, mc, _, rfl, hr4⟩
            clear hr3
            go_wp2_with fail
            refine (law12_sameLook (B.act (⟨K, O, N, M, DT⟩ : Stp)).2.bytes (B.act (⟨K, O, N, M, DT⟩ : Stp)).2.synced la ma lc mc hr4.rot3.rd hr4.rd hBl).mono ?_
            rintro e ve ⟨v, rfl, rfl, hq⟩
            have hr5 := (((hr4.then1 hq).drop.swap.drop).perm (B := 1 * blk bw SC 99 * dk ba ((B.act (⟨K, O, N, M, DT⟩ : Stp)).2.withArms [(zz.toNat, keep)]) * dk bb (B.act (⟨K, O, N, M, DT⟩ : Stp)).2) (by ac_rfl))
            clear hq hr4
            go_wp2_with fail
            refine ⟨⟨k + 1, (B.act (⟨K, O, N, M, DT⟩ : Stp)).2, _, zz, false, by omega, rfl, rfl, by go_num, hB2, fun h => by (cases h), fun _ => ⟨rfl, hz2⟩, hr5⟩, by simp [intOf]; omega⟩
          | true =>
            by_cases hz0 : zz ≤ 0
            · have HDIES := Hid.mk' (Dk.act_dies hBa hcn keep)
              have ej : zz.toNat = 0 := by omega
              have hzb : decide (zz ≤ 0) = true := decide_eq_true hz0
              rw [ej] at hT HCN
              rw [hcn] at HCN
              have hbd := (Dk.counts_live hcn).1
              have hB2c := hB.cutB (⟨K, O, N, M, DT⟩ : Stp) keep
              have hB2a := hB2c.arms
              have hB2o := hB2c.ok
              have hA2o : ((B.cutB (⟨K, O, N, M, DT⟩ : Stp) keep).withArms []).Ok := hB2o.withArms (l := []) (fun x hx => by cases hx)
              have hAo := hBo.withArms (l := [(0, keep)]) (fun x hx => by rw [List.mem_singleton] at hx; subst hx; exact ⟨by show ((0 : Nat) : Int) ≤ _; decide, hk1, hk2⟩)
              have hBr := Hid.mk' hB.room
              have HSELF := Hid.mk' (Dk.withArms_self hB2a)
              clear h5 h5k hcn hT ej hB2
              go_wp2_with (go_at_call 59; refine HCN.out.mono ?_; rintro e v0 ⟨v, rfl, rfl, hT'⟩; have hT := hT'.swap; clear hT'; have q0 := hT.cell (i := 0) (v := .int .i64 K) rfl; have q1 := hT.cell (i := 1) (v := .int .i64 O) rfl; have q2 := hT.cell (i := 2) (v := .int .i64 N) rfl; have q3 := hT.cell (i := 3) (v := .int .i64 M) rfl; have q4 := hT.cell (i := 4) (v := .string DT) rfl)
              refine (show Calls Tryd.prog 47 #[.pointer (some ⟨ba, 0, none⟩), .agg #[.int .i64 K, .int .i64 O, .int .i64 N, .int .i64 M, .string DT]] v0 (Ret fun v w' => ∃ (a : Option Addr) (c : Nat), v = .agg #[.slice a 0 c, .int .i64 0, .int .i64 10] ∧ Sat w w' (1 * blk bw SC 99 * blk bt [.int .i64 K, .int .i64 O, .int .i64 N, .int .i64 M, .string DT] 83 * dk bb B * dk ba (B.cutB (⟨K, O, N, M, DT⟩ : Stp) keep) * vec 5 1 (.slice a 0 c) 0 [])) from by
                refine (law12_act' HE.out hAo (⟨K, O, N, M, DT⟩ : Stp) hso (by simp [Dk.withArms]) (b := ba) (F := 1 * blk bw SC 99 * blk bt [.int .i64 K, .int .i64 O, .int .i64 N, .int .i64 M, .string DT] 83 * dk bb B) (hT.perm (by ac_rfl))).mono ?_
                rintro e v1 ⟨v, rfl, a1, n1, _, rfl, hx⟩
                rw [HDIES.out] at hx ⊢
                exact Ret.mk ⟨a1, n1, rfl, hx⟩).mono ?_
              rintro e v1 ⟨v, rfl, a1, n1, rfl, hx⟩
              have hy := hx.new #[.slice a1 0 n1, .int .i64 0, .int .i64 10] 87
              generalize hb9 : v1.heap.size = b9 at hy
              have hT9 := hy.perm (B := 1 * blk bw SC 99 * blk bt [.int .i64 K, .int .i64 O, .int .i64 N, .int .i64 M, .string DT] 83 * dk bb B * vec 5 1 (.slice a1 0 n1) 0 [] * dk ba (B.cutB (⟨K, O, N, M, DT⟩ : Stp) keep) * blk b9 [.slice a1 0 n1, .int .i64 0, .int .i64 10] 87) (by ac_rfl)
              have hT8 := hy.perm (B := 1 * blk bw SC 99 * blk b9 [.slice a1 0 n1, .int .i64 0, .int .i64 10] 87 * dk bb B * vec 5 1 (.slice a1 0 n1) 0 [] * dk ba (B.cutB (⟨K, O, N, M, DT⟩ : Stp) keep) * blk bt [.int .i64 K, .int .i64 O, .int .i64 N, .int .i64 M, .string DT] 83) (by ac_rfl)
              have hT7 := hy.perm (B := 1 * blk bt [.int .i64 K, .int .i64 O, .int .i64 N, .int .i64 M, .string DT] 83 * blk b9 [.slice a1 0 n1, .int .i64 0, .int .i64 10] 87 * dk bb B * vec 5 1 (.slice a1 0 n1) 0 [] * dk ba (B.cutB (⟨K, O, N, M, DT⟩ : Stp) keep) * blk bw SC 99) (by ac_rfl)
              clear hx hy hT q0 q1 q2 q3 q4
              go_wp2_with fail
              go_region_held3 (fun wr => (wr.cell? ⟨b9, 0, none⟩ = some (.slice a1 0 n1) ∧ wr.cell? ⟨b9, 2, none⟩ = some (.int .i64 10) ∧ wr.cell? ⟨bw, 0, none⟩ = some (.int .i64 room) ∧ wr.cell? ⟨bw, 3, none⟩ = some (.int .i64 keep)) ∧ wr.cell? ⟨bt, 0, none⟩ = some (.int .i64 K) ∧ wr.cell? ⟨bt, 1, none⟩ = some (.int .i64 O) ∧ wr.cell? ⟨bt, 2, none⟩ = some (.int .i64 N) ∧ wr.cell? ⟨bt, 3, none⟩ = some (.int .i64 M) ∧ wr.cell? ⟨bt, 4, none⟩ = some (.string DT))
                (first | exact ⟨⟨hT9.cell rfl, hT9.cell rfl, hT7.cell C0.out, hT7.cell C3.out⟩, hT8.cell rfl, hT8.cell rfl, hT8.cell rfl, hT8.cell rfl, hT8.cell rfl⟩ | exact ⟨⟨hU9.cell rfl, hU9.cell rfl, hU7.cell C0.out, hU7.cell C3.out⟩, hU8.cell rfl, hU8.cell rfl, hU8.cell rfl, hU8.cell rfl, hU8.cell rfl⟩)
                (first | (go_at_call 55; refine (law12_roomy room).mono ?_; rintro e v5 ⟨rfl, rfl⟩; rw [← hBr.out]) | (go_at_call 60; refine (law12_cut HE.out hBo hBa hbd (⟨K, O, N, M, DT⟩ : Stp) hso keep hk1 hk2 (F := 1 * blk bw SC 99 * blk bt [.int .i64 K, .int .i64 O, .int .i64 N, .int .i64 M, .string DT] 83 * vec 5 1 (.slice a1 0 n1) 0 [] * dk ba (B.cutB (⟨K, O, N, M, DT⟩ : Stp) keep) * blk b9 [.slice a1 0 n1, .int .i64 0, .int .i64 10] 87) ((hT9.drewN 1).perm (by ac_rfl))).mono ?_; rintro e v4 ⟨v, rfl, rfl, hu⟩; have hU9 := hu.perm (B := 1 * blk bw SC 99 * blk bt [.int .i64 K, .int .i64 O, .int .i64 N, .int .i64 M, .string DT] 83 * vec 5 1 (.slice a1 0 n1) 0 [] * dk ba (B.cutB (⟨K, O, N, M, DT⟩ : Stp) keep) * dk bb (B.cutB (⟨K, O, N, M, DT⟩ : Stp) keep) * blk b9 [.slice a1 0 n1, .int .i64 0, .int .i64 10] 87) (by ac_rfl); have hU8 := hu.perm (B := 1 * blk bw SC 99 * blk b9 [.slice a1 0 n1, .int .i64 0, .int .i64 10] 87 * vec 5 1 (.slice a1 0 n1) 0 [] * dk ba (B.cutB (⟨K, O, N, M, DT⟩ : Stp) keep) * dk bb (B.cutB (⟨K, O, N, M, DT⟩ : Stp) keep) * blk bt [.int .i64 K, .int .i64 O, .int .i64 N, .int .i64 M, .string DT] 83) (by ac_rfl); have hU7 := hu.perm (B := 1 * blk bt [.int .i64 K, .int .i64 O, .int .i64 N, .int .i64 M, .string DT] 83 * blk b9 [.slice a1 0 n1, .int .i64 0, .int .i64 10] 87 * vec 5 1 (.slice a1 0 n1) 0 [] * dk ba (B.cutB (⟨K, O, N, M, DT⟩ : Stp) keep) * dk bb (B.cutB (⟨K, O, N, M, DT⟩ : Stp) keep) * blk bw SC 99) (by ac_rfl)))
              have hfin : Sat w v4 (1 * blk bw SC 99 * dk ba ((B.cutB (⟨K, O, N, M, DT⟩ : Stp) keep).withArms []) * dk bb (B.cutB (⟨K, O, N, M, DT⟩ : Stp) keep)) := by
                rw [← HSELF.out]
                exact (hU9.perm (B := 1 * blk bw SC 99 * dk ba (B.cutB (⟨K, O, N, M, DT⟩ : Stp) keep) * dk bb (B.cutB (⟨K, O, N, M, DT⟩ : Stp) keep) * (blk bt [.int .i64 K, .int .i64 O, .int .i64 N, .int .i64 M, .string DT] 83 * vec 5 1 (.slice a1 0 n1) 0 [] * blk b9 [.slice a1 0 n1, .int .i64 0, .int .i64 10] 87)) (by ac_rfl)).drop
              clear hU9 hU8 hU7 hu hT9 hT8 hT7
              generalize (B.cutB (⟨K, O, N, M, DT⟩ : Stp) keep) = D2 at *
              have hbe : (D2.dead != D2.dead) = false := bne_eq_false_iff_eq.2 rfl
              have HDa := Hid.mk' (disk_deadW (B := D2) (l := []) hfin.swap)
              have HDb := Hid.mk' (disk_dead (D := D2) hfin)
              have hBl := hB2o.bytes
              go_wp2_with (first | (go_at_call 53; refine HDa.out.mono ?_; clear HDa; rintro e v5 ⟨rfl, rfl⟩) | (go_at_call 53; refine HDb.out.mono ?_; rintro e v5 ⟨rfl, rfl⟩))
              refine law12_look.mono ?_
              rintro e va ⟨v, rfl, rfl, hq⟩
              have hr1 := hfin.then1 hq
              clear hq
              go_wp2_with fail
              refine (law12_actLookW (B := D2) (l := []) HE.out hA2o (by simp) (F := 1 * blk bw SC 99 * dk bb D2) (hr1.perm (by ac_rfl))).mono ?_
              rintro e vb ⟨v, rfl, la, lc, _, rfl, hr2⟩
              clear hr1
              go_wp2_with fail
              refine law12_look.mono ?_
              rintro e vc ⟨v, rfl, rfl, hq⟩
              have hr3 := hr2.then1 hq
              clear hq hr2
              go_wp2_with fail
              refine (law12_actLook (D := D2) HE.out hB2o (by rw [hB2a]; decide) (F := 1 * blk bw SC 99 * dk ba (D2.withArms []) * vec 5 1 (.slice la D2.bytes.length lc) D2.bytes.length (bvs D2.bytes)) (hr3.perm (by ac_rfl))).mono ?_
              rintro e vd ⟨v, rfl, ma, mc, _, rfl, hr4⟩
              clear hr3
              go_wp2_with fail
              refine (law12_sameLook D2.bytes D2.synced la ma lc mc hr4.rot3.rd hr4.rd hBl).mono ?_
              rintro e ve ⟨v, rfl, rfl, hq⟩
              have hr5 := (((hr4.then1 hq).drop.swap.drop).perm (B := 1 * blk bw SC 99 * dk ba (D2.withArms []) * dk bb D2) (by ac_rfl))
              clear hq hr4
              go_wp2_with fail
              refine ⟨⟨k + 1, D2, [], _, true, by omega, rfl, rfl, by go_num, hB2c, fun _ => rfl, fun h => by (cases h), hr5⟩, by simp [intOf]; omega⟩
            · obtain ⟨j, hj⟩ : ∃ j : Nat, (zz - 1).toNat = j := ⟨_, rfl⟩
              have ej : zz.toNat = j + 1 := by omega
              have hzw : IntKind.i64.wrap (zz - 1) = zz - 1 := by rw [IntKind.wrap_i64]; omega
              have hzb : decide (zz ≤ 0) = false := decide_eq_false hz0
              have HJ := Hid.mk' (show zz - 1 = ((j : Nat) : Int) by omega)
              have HZ := Hid.mk' hz2
              rw [ej] at hT HCN
              rw [hcn] at HCN
              have HACT := Hid.mk' (Dk.act_waits hBa hcn j keep)
              have hAo := hBo.withArms (l := [(j + 1, keep)]) (fun x hx => by rw [List.mem_singleton] at hx; subst hx; exact ⟨by show ((j + 1 : Nat) : Int) ≤ _; omega, hk1, hk2⟩)
              have HA2 := Hid.mk' (hB2.ok.withArms (l := [(j, keep)]) (fun x hx => by rw [List.mem_singleton] at hx; subst hx; exact ⟨by show ((j : Nat) : Int) ≤ _; omega, hk1, hk2⟩))
              clear h5 h5k hcn hT ej hj hz2
              go_wp2_with (go_at_call 59; refine HCN.out.mono ?_; rintro e v0 ⟨v, rfl, rfl, hT'⟩; have hT := hT'.swap; clear hT'; have q0 := hT.cell (i := 0) (v := .int .i64 K) rfl; have q1 := hT.cell (i := 1) (v := .int .i64 O) rfl; have q2 := hT.cell (i := 2) (v := .int .i64 N) rfl; have q3 := hT.cell (i := 3) (v := .int .i64 M) rfl; have q4 := hT.cell (i := 4) (v := .string DT) rfl)
              refine (law12_act' HE.out hAo (⟨K, O, N, M, DT⟩ : Stp) hso (by simp [Dk.withArms]) (b := ba) (F := 1 * blk bw SC 99 * blk bt [.int .i64 K, .int .i64 O, .int .i64 N, .int .i64 M, .string DT] 83 * dk bb B) (hT.perm (by ac_rfl))).mono ?_
              rintro e v1 ⟨v, rfl, a1, n1, _, rfl, hx⟩
              rw [HACT.out] at hx ⊢
              have hy := hx.new #[.slice a1 (B.act (⟨K, O, N, M, DT⟩ : Stp)).1.list.length n1, .int .i64 (B.act (⟨K, O, N, M, DT⟩ : Stp)).1.num, .int .i64 ((B.act (⟨K, O, N, M, DT⟩ : Stp)).1.err : Int)] 87
              generalize hb9 : v1.heap.size = b9 at hy
              have hT9 := hy.perm (B := 1 * blk bw SC 99 * blk bt [.int .i64 K, .int .i64 O, .int .i64 N, .int .i64 M, .string DT] 83 * dk bb B * vec 5 1 (.slice a1 (B.act (⟨K, O, N, M, DT⟩ : Stp)).1.list.length n1) (B.act (⟨K, O, N, M, DT⟩ : Stp)).1.list.length (bvs (B.act (⟨K, O, N, M, DT⟩ : Stp)).1.list) * dk ba ((B.act (⟨K, O, N, M, DT⟩ : Stp)).2.withArms [(j, keep)]) * blk b9 [.slice a1 (B.act (⟨K, O, N, M, DT⟩ : Stp)).1.list.length n1, .int .i64 (B.act (⟨K, O, N, M, DT⟩ : Stp)).1.num, .int .i64 ((B.act (⟨K, O, N, M, DT⟩ : Stp)).1.err : Int)] 87) (by ac_rfl)
              have hT8 := hy.perm (B := 1 * blk bw SC 99 * blk b9 [.slice a1 (B.act (⟨K, O, N, M, DT⟩ : Stp)).1.list.length n1, .int .i64 (B.act (⟨K, O, N, M, DT⟩ : Stp)).1.num, .int .i64 ((B.act (⟨K, O, N, M, DT⟩ : Stp)).1.err : Int)] 87 * dk bb B * vec 5 1 (.slice a1 (B.act (⟨K, O, N, M, DT⟩ : Stp)).1.list.length n1) (B.act (⟨K, O, N, M, DT⟩ : Stp)).1.list.length (bvs (B.act (⟨K, O, N, M, DT⟩ : Stp)).1.list) * dk ba ((B.act (⟨K, O, N, M, DT⟩ : Stp)).2.withArms [(j, keep)]) * blk bt [.int .i64 K, .int .i64 O, .int .i64 N, .int .i64 M, .string DT] 83) (by ac_rfl)
              clear hx hy hT q0 q1 q2 q3 q4
              go_wp2_with fail
              go_region_held3 (fun wr => (wr.cell? ⟨b9, 0, none⟩ = some (.slice a1 (B.act (⟨K, O, N, M, DT⟩ : Stp)).1.list.length n1) ∧ wr.cell? ⟨b9, 1, none⟩ = some (.int .i64 (B.act (⟨K, O, N, M, DT⟩ : Stp)).1.num) ∧ wr.cell? ⟨b9, 2, none⟩ = some (.int .i64 ((B.act (⟨K, O, N, M, DT⟩ : Stp)).1.err : Int))) ∧ wr.cell? ⟨bt, 0, none⟩ = some (.int .i64 K) ∧ wr.cell? ⟨bt, 1, none⟩ = some (.int .i64 O) ∧ wr.cell? ⟨bt, 2, none⟩ = some (.int .i64 N) ∧ wr.cell? ⟨bt, 3, none⟩ = some (.int .i64 M) ∧ wr.cell? ⟨bt, 4, none⟩ = some (.string DT))
                (first | exact ⟨⟨hT9.cell rfl, hT9.cell rfl, hT9.cell rfl⟩, hT8.cell rfl, hT8.cell rfl, hT8.cell rfl, hT8.cell rfl, hT8.cell rfl⟩ | exact ⟨⟨hU9.cell rfl, hU9.cell rfl, hU9.cell rfl⟩, hU8.cell rfl, hU8.cell rfl, hU8.cell rfl, hU8.cell rfl, hU8.cell rfl⟩ | exact ⟨⟨(hU9.then1 hq).cell rfl, (hU9.then1 hq).cell rfl, (hU9.then1 hq).cell rfl⟩, (hU8.then1 hq).cell rfl, (hU8.then1 hq).cell rfl, (hU8.then1 hq).cell rfl, (hU8.then1 hq).cell rfl, (hU8.then1 hq).cell rfl⟩)
                (first | (go_at_call 48; refine (law12_same' (B.act (⟨K, O, N, M, DT⟩ : Stp)).1 a1 a2 n1 n2 hU8.rot5.rd hU8.rot4.rd hAl).mono ?_; rintro e v5 ⟨v, rfl, rfl, hq⟩) | (go_at_call 47; refine (law12_act' HE.out hBo (⟨K, O, N, M, DT⟩ : Stp) hso hBm (b := bb) (F := 1 * blk bw SC 99 * blk bt [.int .i64 K, .int .i64 O, .int .i64 N, .int .i64 M, .string DT] 83 * vec 5 1 (.slice a1 (B.act (⟨K, O, N, M, DT⟩ : Stp)).1.list.length n1) (B.act (⟨K, O, N, M, DT⟩ : Stp)).1.list.length (bvs (B.act (⟨K, O, N, M, DT⟩ : Stp)).1.list) * dk ba ((B.act (⟨K, O, N, M, DT⟩ : Stp)).2.withArms [(j, keep)]) * blk b9 [.slice a1 (B.act (⟨K, O, N, M, DT⟩ : Stp)).1.list.length n1, .int .i64 (B.act (⟨K, O, N, M, DT⟩ : Stp)).1.num, .int .i64 ((B.act (⟨K, O, N, M, DT⟩ : Stp)).1.err : Int)] 87) ((hT9.drewN 1).perm (by ac_rfl))).mono ?_; rintro e v4 ⟨v, rfl, a2, n2, _, rfl, hu⟩; have hU9 := hu.perm (B := 1 * blk bw SC 99 * blk bt [.int .i64 K, .int .i64 O, .int .i64 N, .int .i64 M, .string DT] 83 * vec 5 1 (.slice a1 (B.act (⟨K, O, N, M, DT⟩ : Stp)).1.list.length n1) (B.act (⟨K, O, N, M, DT⟩ : Stp)).1.list.length (bvs (B.act (⟨K, O, N, M, DT⟩ : Stp)).1.list) * vec 5 1 (.slice a2 (B.act (⟨K, O, N, M, DT⟩ : Stp)).1.list.length n2) (B.act (⟨K, O, N, M, DT⟩ : Stp)).1.list.length (bvs (B.act (⟨K, O, N, M, DT⟩ : Stp)).1.list) * dk ba ((B.act (⟨K, O, N, M, DT⟩ : Stp)).2.withArms [(j, keep)]) * dk bb (B.act (⟨K, O, N, M, DT⟩ : Stp)).2 * blk b9 [.slice a1 (B.act (⟨K, O, N, M, DT⟩ : Stp)).1.list.length n1, .int .i64 (B.act (⟨K, O, N, M, DT⟩ : Stp)).1.num, .int .i64 ((B.act (⟨K, O, N, M, DT⟩ : Stp)).1.err : Int)] 87) (by ac_rfl); have hU8 := hu.perm (B := 1 * blk bw SC 99 * blk b9 [.slice a1 (B.act (⟨K, O, N, M, DT⟩ : Stp)).1.list.length n1, .int .i64 (B.act (⟨K, O, N, M, DT⟩ : Stp)).1.num, .int .i64 ((B.act (⟨K, O, N, M, DT⟩ : Stp)).1.err : Int)] 87 * vec 5 1 (.slice a1 (B.act (⟨K, O, N, M, DT⟩ : Stp)).1.list.length n1) (B.act (⟨K, O, N, M, DT⟩ : Stp)).1.list.length (bvs (B.act (⟨K, O, N, M, DT⟩ : Stp)).1.list) * vec 5 1 (.slice a2 (B.act (⟨K, O, N, M, DT⟩ : Stp)).1.list.length n2) (B.act (⟨K, O, N, M, DT⟩ : Stp)).1.list.length (bvs (B.act (⟨K, O, N, M, DT⟩ : Stp)).1.list) * dk ba ((B.act (⟨K, O, N, M, DT⟩ : Stp)).2.withArms [(j, keep)]) * dk bb (B.act (⟨K, O, N, M, DT⟩ : Stp)).2 * blk bt [.int .i64 K, .int .i64 O, .int .i64 N, .int .i64 M, .string DT] 83) (by ac_rfl)))
              have hfin := ((hU9.then1 hq).perm (B := 1 * blk bw SC 99 * dk ba ((B.act (⟨K, O, N, M, DT⟩ : Stp)).2.withArms [(j, keep)]) * dk bb (B.act (⟨K, O, N, M, DT⟩ : Stp)).2 * (blk bt [.int .i64 K, .int .i64 O, .int .i64 N, .int .i64 M, .string DT] 83 * vec 5 1 (.slice a1 (B.act (⟨K, O, N, M, DT⟩ : Stp)).1.list.length n1) (B.act (⟨K, O, N, M, DT⟩ : Stp)).1.list.length (bvs (B.act (⟨K, O, N, M, DT⟩ : Stp)).1.list) * vec 5 1 (.slice a2 (B.act (⟨K, O, N, M, DT⟩ : Stp)).1.list.length n2) (B.act (⟨K, O, N, M, DT⟩ : Stp)).1.list.length (bvs (B.act (⟨K, O, N, M, DT⟩ : Stp)).1.list) * blk b9 [.slice a1 (B.act (⟨K, O, N, M, DT⟩ : Stp)).1.list.length n1, .int .i64 (B.act (⟨K, O, N, M, DT⟩ : Stp)).1.num, .int .i64 ((B.act (⟨K, O, N, M, DT⟩ : Stp)).1.err : Int)] 87)) (by ac_rfl)).drop
              clear hU9 hU8 hu hT9 hT8 hq
              have hA2o := HA2.out
              have hB2a := hB2.arms
              have hB2o := hB2.ok
              have hbe : ((B.act (⟨K, O, N, M, DT⟩ : Stp)).2.dead != (B.act (⟨K, O, N, M, DT⟩ : Stp)).2.dead) = false := bne_eq_false_iff_eq.2 rfl
              have HDa := Hid.mk' (disk_deadW (B := (B.act (⟨K, O, N, M, DT⟩ : Stp)).2) (l := [(j, keep)]) hfin.swap)
              have HDb := Hid.mk' (disk_dead (D := (B.act (⟨K, O, N, M, DT⟩ : Stp)).2) hfin)
              have hBl := hB2o.bytes
              go_wp2_with (first | (go_at_call 53; refine HDa.out.mono ?_; clear HDa; rintro e v5 ⟨rfl, rfl⟩) | (go_at_call 53; refine HDb.out.mono ?_; rintro e v5 ⟨rfl, rfl⟩))
              refine law12_look.mono ?_
              rintro e va ⟨v, rfl, rfl, hq⟩
              have hr1 := hfin.then1 hq
              clear hq
              go_wp2_with fail
              refine (law12_actLookW (B := (B.act (⟨K, O, N, M, DT⟩ : Stp)).2) (l := [(j, keep)]) HE.out hA2o (by simp) (F := 1 * blk bw SC 99 * dk bb (B.act (⟨K, O, N, M, DT⟩ : Stp)).2) (hr1.perm (by ac_rfl))).mono ?_
              rintro e vb ⟨v, rfl, la, lc, _, rfl, hr2⟩
              clear hr1
              go_wp2_with fail
              refine law12_look.mono ?_
              rintro e vc ⟨v, rfl, rfl, hq⟩
              have hr3 := hr2.then1 hq
              clear hq hr2
              go_wp2_with fail
              refine (law12_actLook (D := (B.act (⟨K, O, N, M, DT⟩ : Stp)).2) HE.out hB2o (by rw [hB2a]; decide) (F := 1 * blk bw SC 99 * dk ba ((B.act (⟨K, O, N, M, DT⟩ : Stp)).2.withArms [(j, keep)]) * vec 5 1 (.slice la (B.act (⟨K, O, N, M, DT⟩ : Stp)).2.bytes.length lc) (B.act (⟨K, O, N, M, DT⟩ : Stp)).2.bytes.length (bvs (B.act (⟨K, O, N, M, DT⟩ : Stp)).2.bytes)) (hr3.perm (by ac_rfl))).mono ?_
              rintro e vd ⟨v, rfl, ma, mc, _, rfl, hr4⟩
              clear hr3
              go_wp2_with fail
              refine (law12_sameLook (B.act (⟨K, O, N, M, DT⟩ : Stp)).2.bytes (B.act (⟨K, O, N, M, DT⟩ : Stp)).2.synced la ma lc mc hr4.rot3.rd hr4.rd hBl).mono ?_
              rintro e ve ⟨v, rfl, rfl, hq⟩
              have hr5 := (((hr4.then1 hq).drop.swap.drop).perm (B := 1 * blk bw SC 99 * dk ba ((B.act (⟨K, O, N, M, DT⟩ : Stp)).2.withArms [(j, keep)]) * dk bb (B.act (⟨K, O, N, M, DT⟩ : Stp)).2) (by ac_rfl))
              clear hq hr4
              go_wp2_with fail
              refine ⟨⟨k + 1, (B.act (⟨K, O, N, M, DT⟩ : Stp)).2, _, zz - 1, false, by omega, by first | rfl | go_num, rfl, by go_num, hB2, fun h => by (cases h), fun _ => ⟨by rw [HJ.out, Int.toNat_natCast], by have := HZ.out; omega⟩, hr5⟩, by simp [intOf]; omega⟩
    · go_wp2_with fail
      go_ret
      exact Ret.mk ⟨rfl, (Sat.start w).ext hS.below⟩
end Go.Proofs.YtjhlelcopofkkaaDoor
