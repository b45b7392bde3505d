/- The walk of the law DiskForgets. -/
import Derived.Test.YtjhlelcopofkkaaDoorDkLaws
import Derived.Test.YtjhlelcopofkkaaDoorDiskLookFreeW
namespace Go.Proofs.YtjhlelcopofkkaaDoor
open Go.RowKit

set_option maxRecDepth 20000 in
set_option maxHeartbeats 12800000 in
theorem walk_diskForgets {w : World} {E : Nat → Addr} (hE : Errs w E) (room keep : Int) (hk1 : -9223372036854775808 ≤ keep) (hk2 : keep ≤ 9223372036854775807) (ss ts : List Stp) (ao bo : Option Addr) (c d : Nat) (hr : Rd w ao (stps ss)) (hn : ss.length ≤ 2932031007402) (hok : ∀ s ∈ ss, s.Ok) (hr2 : Rd w bo (stps ts)) (hn2 : ts.length ≤ 2932031007402) (hok2 : ∀ s ∈ ts, s.Ok) :
    Calls Tryd.prog 13 #[.agg #[.int .i64 room, .slice ao ss.length c, .int .i64 keep, .slice bo ts.length d]] w (Ret fun v w' => v = .bool true ∧ Sat w w' 1) := by
  have HE := Hid.mk' hE
  have HR := Hid.mk' hr
  have HOK := Hid.mk' hok
  have HR2 := Hid.mk' hr2
  have HOK2 := Hid.mk' hok2
  have hs0 := (Sat.refl w).new #[.int .i64 room, .slice ao ss.length c, .int .i64 keep, .slice bo ts.length d] 106
  clear hE hr hok hr2 hok2
  obtain ⟨SC, hSC⟩ : ∃ SC, #[Value.int .i64 room, .slice ao ss.length c, .int .i64 keep, .slice bo ts.length d].toList = SC := ⟨_, rfl⟩
  have C0 := Hid.mk' (show SC[0]? = some (.int .i64 room) by rw [← hSC]; rfl)
  have C1 := Hid.mk' (show SC[1]? = some (.slice ao ss.length c) by rw [← hSC]; rfl)
  have C2 := Hid.mk' (show SC[2]? = some (.int .i64 keep) by rw [← hSC]; rfl)
  have C3 := Hid.mk' (show SC[3]? = some (.slice bo ts.length d) by rw [← hSC]; rfl)
  rw [hSC] at hs0
  clear hSC
  generalize hbw : w.heap.size = bw at hs0
  go_enter Tryd.func13, Tryd.ntmps13
  go_wp2_with fail
  refine (disk_new hs0 room).mono ?_
  rintro e w1 ⟨v, rfl, ba, rfl, hs1⟩
  clear hs0
  go_wp2_with fail
  go_loopw [4] (fun i wr => ∃ (k : Nat) (A : Dk), k ≤ ss.length ∧ i = .int .i64 k ∧ A.Calm (Dk.new [] room).room ∧ Sat w wr (1 * blk bw SC 106 * dk ba A)) (fun i _ => ss.length - (intOf i).toNat)
  case atStart => exact ⟨0, _, by omega, rfl, Dk.Calm.new [] (by simp) room, hs1⟩
  case round =>
    clear hs1
    obtain ⟨k, A, hk, rfl, hA, hS⟩ := hrel
    have k1 := hS.swap.cell C1.out
    by_cases hlt : k < ss.length
    · obtain ⟨b1, o1, rfl, c0, c1, c2, c3, c4⟩ := stps_rd (HR.out.of0 hS) hlt
      have hso := HOK.out _ (List.getElem_mem hlt)
      generalize ss[k] = s at c0 c1 c2 c3 c4 hso
      obtain ⟨K, O, N, M, DT⟩ := s
      simp only at c0 c1 c2 c3 c4
      by_cases h5 : K = 5
      · subst h5
        have HS := Hid.mk' hS
        have HA := Hid.mk' hA
        clear hS hA
        go_wp2_with fail
        refine ⟨⟨k + 1, A, by omega, by go_num, HA.out, HS.out⟩, by simp [intOf]; omega⟩
      · have h5b : (K != 5) = true := bne_iff_ne.2 h5
        have HA' := Hid.mk' (hA.act hso (show (⟨K, O, N, M, DT⟩ : Stp).kind ≠ 5 from h5))
        have hAm : A.arms.length < 8796093022207 := by rw [hA.arms]; decide
        have hAo := hA.ok
        clear h5 hA
        go_wp2_with fail
        refine (law12_act' HE.out hAo (⟨K, O, N, M, DT⟩ : Stp) hso hAm hS).mono ?_
        rintro e v1 ⟨v, rfl, a1, n1, _, rfl, hx⟩
        have hx' := hx.drop
        clear hx hS
        go_wp2_with fail
        refine ⟨⟨k + 1, (A.act (⟨K, O, N, M, DT⟩ : Stp)).2, by omega, by go_num, HA'.out, hx'⟩, by simp [intOf]; omega⟩
    · obtain rfl : k = ss.length := by omega
      have k2 := hS.swap.cell C2.out
      have hcr := hA.crash keep
      have HF := Hid.mk' (hcr.1.forgets hcr.2)
      have hbl := hcr.1.ok.bytes
      have HDE := Hid.mk' hcr.2
      have hAo := hA.ok
      clear hA hcr
      go_wp2_with fail
      refine (disk_crash hS hAo keep hk1 hk2).mono ?_
      rintro e w2 ⟨v, rfl, rfl, hs2⟩
      have HD := Hid.mk' (disk_dead hs2)
      rw [HDE.out] at HD
      clear hS k1 k2 hAo
      go_wp2_with (go_at_call 53; refine HD.out.mono ?_; rintro e v5 ⟨rfl, rfl⟩)
      refine (disk_revive hs2).mono ?_
      rintro e w3 ⟨v, rfl, rfl, hs3⟩
      rw [HF.out] at hs3
      clear hs2
      generalize (A.crash keep).bytes = bs at hs3 hbl
      go_wp2_with fail
      refine law12_look.mono ?_
      rintro e w4 ⟨v, rfl, rfl, hx⟩
      have hs4 := hs3.then1 hx
      clear hs3 hx
      go_wp2_with fail
      have hDo : (Dk.new bs room).Ok := Dk.Ok.new hbl room
      refine (show Calls Tryd.prog 47 #[.pointer (some ⟨ba, 0, none⟩), Stp.looks.val] w4 (Ret fun v w' => ∃ (a : Option Addr) (c : Nat), bs.length ≤ c ∧ v = .agg #[.slice a bs.length c, .int .i64 bs.length, .int .i64 0] ∧ Sat w w' (1 * blk bw SC 106 * dk ba (Dk.new bs room) * vec 5 1 (.slice a bs.length c) bs.length (bvs bs))) from law12_act' HE.out hDo Stp.looks Stp.looks_ok (show (0 : Nat) < 8796093022207 by decide) hs4).mono ?_
      rintro e w5 ⟨v, rfl, la, lc, hlc, rfl, hs5⟩
      have hs6 := hs5.new #[.slice la bs.length lc, .int .i64 bs.length, .int .i64 0] 87
      generalize hb5 : w5.heap.size = b5 at hs6
      have hHD := hDo
      clear hs4
      go_wp2_with fail
      go_region_held3 (fun wr => wr.cell? ⟨b5, 0, none⟩ = some (.slice la bs.length lc) ∧ wr.cell? ⟨bw, 0, none⟩ = some (.int .i64 room)) (first | exact ⟨hs6.cell rfl, hs6.rot4.cell C0.out⟩ | exact ⟨hs7.swap.cell rfl, hs7.rot5.cell C0.out⟩ | exact ⟨hs8.rot3.cell rfl, hs8.rot6.cell C0.out⟩)
        (first | (go_at_call 22; go_loud (refine (kit_copy bs la lc (hs6.drewN 1).swap.rd hbl).mono ?_); rintro e w7 ⟨v, rfl, hx⟩; have hs7 := (hs6.drewN 1).glue hx; obtain ⟨po, pc, rfl, _, hrp, _⟩ := hs7.vec_rd) | (go_at_call 42; go_loud (refine (disk_open hs7 bs po pc hrp hbl room).mono ?_); rintro e w8 ⟨v, rfl, bb, rfl, hs8⟩))
      have hs9 := hs8.swap.drop
      have HD9 := Hid.mk' (disk_dead hs8.rot5)
      have q0 := hs8.rot3.cell (i := 0) (v := .slice la bs.length lc) rfl
      have q1 := hs8.rot3.cell (i := 1) (v := .int .i64 bs.length) rfl
      have hbe : ((bs.length : Int) != (bs.length : Int)) = false := bne_eq_false_iff_eq.2 rfl
      go_wp2_with (go_at_call 53; refine HD9.out.mono ?_; rintro e v5 ⟨rfl, rfl⟩)
      have hsA := (hs8.perm (B := 1 * blk bw SC 106 * dk ba (Dk.new bs room) * dk bb (Dk.new bs room) * (vec 5 1 (.slice la bs.length lc) bs.length (bvs bs) * blk b5 [.slice la bs.length lc, .int .i64 bs.length, .int .i64 0] 87 * vec 5 1 (.slice po bs.length pc) bs.length (bvs bs))) (by ac_rfl)).drop
      clear hs9 hs8 hs7 hs6 hs5 hrp q0 q1
      go_loopw [7] (fun i wr => ∃ (k : Nat) (D : Dk), k ≤ ts.length ∧ i = .int .i64 k ∧ D.Ok ∧ D.arms.length ≤ k ∧ Sat w wr (1 * blk bw SC 106 * dk ba D * dk bb D)) (fun i _ => ts.length - (intOf i).toNat)
      case atStart => exact ⟨0, _, by omega, rfl, hDo, by simp [Dk.new], hsA⟩
      case round =>
        clear hsA
        obtain ⟨k, D, hk, rfl, hDo, hlen, hS⟩ := hrel
        have k3 := hS.rot3.cell C3.out
        by_cases hlt : k < ts.length
        · obtain ⟨b1, o1, rfl, c0, c1, c2, c3, c4⟩ := stps_rd (HR2.out.of0 hS) hlt
          have hso := HOK2.out _ (List.getElem_mem hlt)
          generalize ts[k] = s at c0 c1 c2 c3 c4 hso
          obtain ⟨K, O, N, M, DT⟩ := s
          simp only at c0 c1 c2 c3 c4
          have hT := hS.new #[.int .i64 K, .int .i64 O, .int .i64 N, .int .i64 M, .string DT] 83
          generalize hbt : wr.heap.size = bt at hT
          have hDo' := hDo.act hso
          have hAl := act_len hDo (⟨K, O, N, M, DT⟩ : Stp)
          have hAm := act_arms D (⟨K, O, N, M, DT⟩ : Stp)
          have hbe2 : ((D.act (⟨K, O, N, M, DT⟩ : Stp)).2.dead != (D.act (⟨K, O, N, M, DT⟩ : Stp)).2.dead) = false := bne_eq_false_iff_eq.2 rfl
          clear hS
          go_wp2_with fail
          go_region_held3 (fun wr => wr.cell? ⟨bt, 0, none⟩ = some (.int .i64 K) ∧ wr.cell? ⟨bt, 1, none⟩ = some (.int .i64 O) ∧ wr.cell? ⟨bt, 2, none⟩ = some (.int .i64 N) ∧ wr.cell? ⟨bt, 3, none⟩ = some (.int .i64 M) ∧ wr.cell? ⟨bt, 4, none⟩ = some (.string DT))
            (first | exact ⟨hT.cell rfl, hT.cell rfl, hT.cell rfl, hT.cell rfl, hT.cell rfl⟩ | exact ⟨hT2.cell rfl, hT2.cell rfl, hT2.cell rfl, hT2.cell rfl, hT2.cell rfl⟩ | exact ⟨hT3.cell rfl, hT3.cell rfl, hT3.cell rfl, hT3.cell rfl, hT3.cell rfl⟩ | exact ⟨hT4.cell rfl, hT4.cell rfl, hT4.cell rfl, hT4.cell rfl, hT4.cell rfl⟩)
            (first | (go_at_call 48; refine (law12_same' (D.act (⟨K, O, N, M, DT⟩ : Stp)).1 a1 a2 n1 n2 hT3.rot3.rd hT3.swap.rd hAl).mono ?_; rintro e v3 ⟨v, rfl, rfl, hz⟩; have hT4 := hT3.then1 hz; have HDa := disk_dead hT4.rot5; have HDb := disk_dead hT4.rot4; clear hT3) | (go_at_call 47; refine (law12_act' HE.out hDo (⟨K, O, N, M, DT⟩ : Stp) hso (by omega) (b := bb) (F := 1 * blk bw SC 106 * blk bt [.int .i64 K, .int .i64 O, .int .i64 N, .int .i64 M, .string DT] 83 * dk ba (D.act (⟨K, O, N, M, DT⟩ : Stp)).2 * vec 5 1 (.slice a1 (D.act (⟨K, O, N, M, DT⟩ : Stp)).1.list.length n1) (D.act (⟨K, O, N, M, DT⟩ : Stp)).1.list.length (bvs (D.act (⟨K, O, N, M, DT⟩ : Stp)).1.list)) (hT2.perm (by ac_rfl))).mono ?_; clear hT2; rintro e v2 ⟨v, rfl, a2, n2, _, rfl, hy⟩; have hT3 := hy.perm (B := 1 * blk bw SC 106 * dk ba (D.act (⟨K, O, N, M, DT⟩ : Stp)).2 * dk bb (D.act (⟨K, O, N, M, DT⟩ : Stp)).2 * vec 5 1 (.slice a1 (D.act (⟨K, O, N, M, DT⟩ : Stp)).1.list.length n1) (D.act (⟨K, O, N, M, DT⟩ : Stp)).1.list.length (bvs (D.act (⟨K, O, N, M, DT⟩ : Stp)).1.list) * vec 5 1 (.slice a2 (D.act (⟨K, O, N, M, DT⟩ : Stp)).1.list.length n2) (D.act (⟨K, O, N, M, DT⟩ : Stp)).1.list.length (bvs (D.act (⟨K, O, N, M, DT⟩ : Stp)).1.list) * blk bt [.int .i64 K, .int .i64 O, .int .i64 N, .int .i64 M, .string DT] 83) (by ac_rfl)) | (go_at_call 47; refine (law12_act' HE.out hDo (⟨K, O, N, M, DT⟩ : Stp) hso (by omega) (b := ba) (F := 1 * blk bw SC 106 * blk bt [.int .i64 K, .int .i64 O, .int .i64 N, .int .i64 M, .string DT] 83 * dk bb D) ((hT.drewN 1).perm (by ac_rfl))).mono ?_; clear hT; rintro e v1 ⟨v, rfl, a1, n1, _, rfl, hx⟩; have hT2 := hx.perm (B := 1 * blk bw SC 106 * dk bb D * dk ba (D.act (⟨K, O, N, M, DT⟩ : Stp)).2 * vec 5 1 (.slice a1 (D.act (⟨K, O, N, M, DT⟩ : Stp)).1.list.length n1) (D.act (⟨K, O, N, M, DT⟩ : Stp)).1.list.length (bvs (D.act (⟨K, O, N, M, DT⟩ : Stp)).1.list) * blk bt [.int .i64 K, .int .i64 O, .int .i64 N, .int .i64 M, .string DT] 83) (by ac_rfl)) | (go_at_call 53; refine HDa.mono ?_; clear HDa; rintro e v5 ⟨rfl, rfl⟩) | (go_at_call 53; refine HDb.mono ?_; rintro e v5 ⟨rfl, rfl⟩))
          have hfin := hT4.drop.drop.drop
          go_wp2_with fail
          refine ⟨⟨k + 1, (D.act (⟨K, O, N, M, DT⟩ : Stp)).2, by omega, by go_num, hDo', by omega, hfin⟩, by simp [intOf]; omega⟩
        · obtain rfl : k = ts.length := by omega
          have hAl := act_len hDo Stp.looks
          go_wp2_with fail
          refine law12_look.mono ?_
          rintro e v0 ⟨v, rfl, rfl, hx⟩
          have q0 := hS.then1 hx
          clear hx hS
          go_wp2_with fail
          refine (law12_act' HE.out hDo Stp.looks Stp.looks_ok (by omega) (F := 1 * blk bw SC 106 * dk bb D) (q0.perm (by ac_rfl))).mono ?_
          rintro e v1 ⟨v, rfl, a1, n1, _, rfl, hx⟩
          go_wp2_with fail
          refine law12_look.mono ?_
          rintro e v2 ⟨v, rfl, rfl, hy⟩
          have q2 := hx.then1 hy
          clear hx hy
          go_wp2_with fail
          refine (law12_act' HE.out hDo Stp.looks Stp.looks_ok (by omega) (F := 1 * blk bw SC 106 * dk ba (D.act Stp.looks).2 * vec 5 1 (.slice a1 (D.act Stp.looks).1.list.length n1) (D.act Stp.looks).1.list.length (bvs (D.act Stp.looks).1.list)) (q2.perm (by ac_rfl))).mono ?_
          rintro e v3 ⟨v, rfl, a2, n2, _, rfl, hx⟩
          go_wp2_with fail
          refine (law12_same' (D.act Stp.looks).1 a1 a2 n1 n2 hx.rot3.rd hx.rd hAl).mono ?_
          rintro e v4 ⟨v, rfl, rfl, hy⟩
          have q4 := hx.then1 hy
          clear hx hy
          go_wp2_with fail
          go_ret
          exact Ret.mk ⟨rfl, (Sat.start w).ext q4.below⟩
end Go.Proofs.YtjhlelcopofkkaaDoor
