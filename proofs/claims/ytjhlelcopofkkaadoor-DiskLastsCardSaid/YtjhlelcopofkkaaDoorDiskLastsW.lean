/- The walk of the law DiskLasts. -/
import Derived.Test.YtjhlelcopofkkaaDoorHeld4
namespace Go.Proofs.YtjhlelcopofkkaaDoor
open Go.RowKit

set_option maxRecDepth 20000 in
set_option maxHeartbeats 25600000 in
theorem walk_diskLasts {w : World} {E : Nat → Addr} (hE : Errs w E) (room : Int) (data : ByteArray) (other : Int) (ss : List Stp) (ao : Option Addr) (c : Nat) (hr : Rd w ao (stps ss)) (hn : ss.length ≤ 2932031007402) (hok : ∀ s ∈ ss, s.Ok) :
    Calls Tryd.prog 14 #[.agg #[.int .i64 room, .string data, .int .i64 other, .slice ao ss.length c]] w (Ret fun v w' => v = .bool true ∧ Sat w w' 1) := by
  have HE := Hid.mk' hE
  have HR := Hid.mk' hr
  have HOK := Hid.mk' hok
  have hs0 := (Sat.refl w).new #[.int .i64 room, .string data, .int .i64 other, .slice ao ss.length c] 72
  clear hE hr hok
  obtain ⟨SC, hSC⟩ : ∃ SC, #[Value.int .i64 room, .string data, .int .i64 other, .slice ao ss.length c].toList = SC := ⟨_, rfl⟩
  have C0 := Hid.mk' (show SC[0]? = some (.int .i64 room) by rw [← hSC]; rfl)
  have C3 := Hid.mk' (show SC[3]? = some (.slice ao ss.length c) by rw [← hSC]; rfl)
  rw [hSC] at hs0
  clear hSC
  generalize hbw : w.heap.size = bw at hs0
  go_enter Tryd.func14, Tryd.ntmps14
  go_wp2_with fail
  refine (disk_new hs0 room).mono ?_
  rintro e w1 ⟨v, rfl, bd, rfl, hs1⟩
  clear hs0
  have hs2 := hs1.new #[.slice none 0 0, .slice none 0 0, .int .i64 0] 111
  generalize hbh : w1.heap.size = bh at hs2
  have hs3 : Sat w _ (1 * blk bw SC 72 * hk bh [] [] 0 * dk bd (Dk.new [] room)) := (Sat.hk_shut (G := []) (A := []) (n := 0) (b := bh) (((hs2.vec_nil 5 1).vec_nil 5 1).perm (B := 1 * blk bw SC 72 * dk bd (Dk.new [] room) * vec 5 1 (.slice none 0 0) 0 [] * vec 5 1 (.slice none 0 0) 0 [] * blk bh [.slice none 0 0, .slice none 0 0, .int .i64 0] 111) (by ac_rfl))).swap
  clear hs1 hs2
  have HRM := Hid.mk' (show (Dk.new [] room).bytes.length ≤ (Dk.new [] room).room from Nat.zero_le _)
  have hR3 : (Dk.new [] room).room ≤ 1073741824 := (Dk.Ok.new (bytes := []) (by simp) room).room
  go_wp2_with fail
  go_loopw [5] (fun i wr => ∃ (k : Nat) (D : Dk), k ≤ ss.length ∧ i = .int .i64 k ∧ D.Ok ∧ D.bytes.length ≤ D.room ∧ D.room = (Dk.new [] room).room ∧ D.arms.length ≤ k ∧ Sat w wr (1 * blk bw SC 72 * hk bh (D.bytes.take D.synced) D.bytes D.arms.length * dk bd D)) (fun i _ => ss.length - (intOf i).toNat)
  case atStart => exact ⟨0, Dk.new [] room, by omega, rfl, Dk.Ok.new (by simp) room, HRM.out, rfl, Nat.zero_le _, hs3⟩
  case round =>
    clear hs3
    obtain ⟨k, D, hkl, rfl, hDo, hDr, hRR, hlen, hS⟩ := hrel
    have k3 := hS.rot3.cell C3.out
    by_cases hlt : k < ss.length
    · obtain ⟨b1, o1, rfl, c0, c1, c2, c3, c4⟩ := stps_rd (HR.out.of0 hS) hlt
      have hso := HOK.out _ (List.getElem_mem hlt)
      generalize ss[k] = s at c0 c1 c2 c3 c4 hso
      obtain ⟨K, O, N, M, DT⟩ := s
      simp only at c0 c1 c2 c3 c4
      by_cases h4 : K = 4
      · subst h4
        have HS := Hid.mk' (hS.new #[.int .i64 4, .int .i64 O, .int .i64 N, .int .i64 M, .string DT] 83).drop
        clear hS
        go_wp2_with fail
        exact ⟨⟨k + 1, D, by omega, by go_num, hDo, hDr, hRR, by omega, HS.out⟩, by simp [intOf]; omega⟩
      · have h4b : (K == 4) = false := beq_eq_false_iff_ne.2 h4
        have h4k : (⟨K, O, N, M, DT⟩ : Stp).kind ≠ 4 := h4
        have hT0 := hS.new #[.int .i64 K, .int .i64 O, .int .i64 N, .int .i64 M, .string DT] 83
        generalize hbt : wr.heap.size = bt at hT0
        have hT := hT0.perm (B := 1 * blk bw SC 72 * blk bt [.int .i64 K, .int .i64 O, .int .i64 N, .int .i64 M, .string DT] 83 * hk bh (D.bytes.take D.synced) D.bytes D.arms.length * dk bd D) (by ac_rfl)
        have hDm : D.arms.length < 8796093022207 := by omega
        have HDD := Hid.mk' (disk_dead hT)
        clear hS hT0
        obtain ⟨D2, hD2⟩ : ∃ D2, (D.act ⟨K, O, N, M, DT⟩).2 = D2 := ⟨_, rfl⟩
        have hD2o := hDo.act hso
        have hD2a := act_arms D (⟨K, O, N, M, DT⟩ : Stp)
        have hD2x := Dk.act_room hDr (⟨K, O, N, M, DT⟩ : Stp)
        rw [hD2] at hD2o hD2a hD2x
        have HD2 := Hid.mk' hD2
        have hD2r := hD2x.1
        have HRR := Hid.mk' (hD2x.2.trans hRR)
        have hD2b := hD2o.bytes
        have hD2m : D2.arms.length < 8796093022207 := by omega
        have hD2s := hD2o.synced
        obtain ⟨G, hGe⟩ : ∃ G, D2.bytes.take D2.synced = G := ⟨_, rfl⟩
        have HGE := Hid.mk' hGe
        have hGl : G.length ≤ 140737488351232 := by rw [← hGe, List.length_take]; omega
        obtain ⟨q, hq⟩ : ∃ q, G ++ q = D2.bytes := ⟨D2.bytes.drop D2.synced, by rw [← hGe]; exact List.take_append_drop _ _⟩
        have HQ := Hid.mk' hq
        clear hD2 hGe hq hD2x
        by_cases h1 : K = 1
        · subst h1
          have hdz : DT.size ≤ 140737488351232 := hso.data
          have HLN := Hid.mk' (show DT.data.toList.length = DT.size from rfl)
          have hRn := Hid.mk' (show ((Dk.new [] room).room : Int) = (D.room : Int) by rw [hRR])
          have hro := hDo.room
          have hw2 : IntKind.i64.wrap ((D.bytes.length : Int) + (DT.size : Int)) = (D.bytes.length : Int) + (DT.size : Int) := by rw [IntKind.wrap_i64]; omega
          obtain ⟨gv, av, hO0⟩ := hT.swap.hk_open
          obtain ⟨aa, ac, rfl, _, _, _⟩ := hO0.swap.vec_rd
          have hB0 := hO0.perm (B := 1 * dk bd D * blk bt [.int .i64 1, .int .i64 O, .int .i64 N, .int .i64 M, .string DT] 83 * vec 5 1 gv (D.bytes.take D.synced).length (bvs (D.bytes.take D.synced)) * vec 5 1 (.slice aa D.bytes.length ac) D.bytes.length (bvs D.bytes) * blk bh [gv, .slice aa D.bytes.length ac, .int .i64 D.arms.length] 111 * blk bw SC 72) (by ac_rfl)
          by_cases hf : D.bytes.length + DT.size ≤ D.room
          · have bq1 : decide (((Dk.new [] room).room : Int) < (D.bytes.length : Int) + (DT.size : Int)) = false := decide_eq_false (by rw [hRn.out]; omega)
            go_wp2_with (go_at_call 53; refine HDD.out.mono ?_; rintro e v5 ⟨rfl, rfl⟩)
            go_region_held3 (fun wr => wr.cell? ⟨bt, 0, none⟩ = some (.int .i64 1) ∧ wr.cell? ⟨bt, 4, none⟩ = some (.string DT) ∧ wr.cell? ⟨bh, 1, none⟩ = some (.slice aa D.bytes.length ac) ∧ wr.cell? ⟨bw, 0, none⟩ = some (.int .i64 room)) (first | exact ⟨hT.rot3.cell rfl, hT.rot3.cell rfl, hO0.cell rfl, hB0.cell C0.out⟩ | exact ⟨(hT.drewN _).rot3.cell rfl, (hT.drewN _).rot3.cell rfl, (hO0.drewN _).cell rfl, (hB0.drewN _).cell C0.out⟩)
              (first | (go_at_call 55; refine (law12_roomy room).mono ?_; rintro e v5 ⟨rfl, rfl⟩))
            all_goals
              have hT2 := hT.drewN 1
              clear hT hO0 hB0
              have q0 := hT2.rot3.cell (i := 0) (v := .int .i64 1) rfl
              have q1 := hT2.rot3.cell (i := 1) (v := .int .i64 O) rfl
              have q2 := hT2.rot3.cell (i := 2) (v := .int .i64 N) rfl
              have q3 := hT2.rot3.cell (i := 3) (v := .int .i64 M) rfl
              have q4 := hT2.rot3.cell (i := 4) (v := .string DT) rfl
              go_wp2_with fail
              try rw [bq1]
              refine (held_lasts HE.out hDo hDm hDr (⟨1, O, N, M, DT⟩ : Stp) hso h4k false ((decide_eq_false (fun h => h.2 hf)).symm) (F := 1 * blk bw SC 72 * blk bt [.int .i64 1, .int .i64 O, .int .i64 N, .int .i64 M, .string DT] 83) hT2).mono ?_
              rintro e v2 ⟨v, rfl, rfl, hU⟩
              rw [HD2.out, HGE.out] at hU
              clear hT2 q0 q1 q2 q3 q4
              go_wp2_with fail
              refine law12_look.mono ?_
              rintro e v3 ⟨v, rfl, rfl, hq⟩
              have hV := hU.then1 hq
              clear hq hU
              go_wp2_with fail
              refine (law12_actLook (D := D2) (b := bd) HE.out hD2o hD2m (F := 1 * blk bw SC 72 * blk bt [.int .i64 1, .int .i64 O, .int .i64 N, .int .i64 M, .string DT] 83 * hk bh G D2.bytes D2.arms.length) hV).mono ?_
              rintro e v4 ⟨v, rfl, na, nc, hnc, rfl, hx⟩
              have hx1 := hx.new #[.slice na D2.bytes.length nc, .int .i64 D2.synced, .int .i64 0] 87
              generalize hb10 : v4.heap.size = b10 at hx1
              have hX := hx1.perm (B := 1 * blk bw SC 72 * blk bt [.int .i64 1, .int .i64 O, .int .i64 N, .int .i64 M, .string DT] 83 * dk bd D2 * vec 5 1 (.slice na D2.bytes.length nc) D2.bytes.length (bvs D2.bytes) * blk b10 [.slice na D2.bytes.length nc, .int .i64 D2.synced, .int .i64 0] 87 * hk bh G D2.bytes D2.arms.length) (by ac_rfl)
              have HNO := Hid.mk' hx.no
              have HNC := Hid.mk' hnc
              clear hx hx1 hV hnc
              obtain ⟨gv2, av2, hO⟩ := hX.hk_open
              obtain ⟨g2, gc2, rfl, _, _, _⟩ := hO.rot3.vec_rd
              obtain ⟨a2, ac2, rfl, _, _, _⟩ := hO.swap.vec_rd
              go_wp2_with fail
              go_region_held3 (fun wr => wr.cell? ⟨b10, 0, none⟩ = some (.slice na D2.bytes.length nc) ∧ wr.cell? ⟨bh, 0, none⟩ = some (.slice g2 G.length gc2) ∧ wr.cell? ⟨bh, 1, none⟩ = some (.slice a2 D2.bytes.length ac2)) (first | exact ⟨hO.rot4.cell rfl, hO.cell rfl, hO.cell rfl⟩ | exact ⟨hS1.rot4.cell rfl, hS1.cell rfl, hS1.cell rfl⟩ | exact ⟨hS2.rot4.cell rfl, hS2.cell rfl, hS2.cell rfl⟩)
                (first | (go_at_call 25; refine (ref0_same_true D2.bytes na a2 nc ac2 hS1.rot5.rd hS1.swap.rd hD2b).mono ?_; rintro e v6 ⟨rfl, m, rfl⟩; have hS2 := hS1.drewN m) | (go_at_call 65; refine (law12_starts G q na g2 D2.bytes.length nc gc2 (by rw [HQ.out]) (by rw [HQ.out]; exact (hO.drewN 1).rot5.rd) HNO.out HNC.out (hO.drewN 1).rot3.rd hGl).mono ?_; rintro e v5 ⟨v, rfl, rfl, hz⟩; have hS1 := (hO.drewN 1).then1 hz))
              all_goals
                go_wp2_with fail
                refine ⟨⟨k + 1, D2, by omega, by go_num, hD2o, hD2r, HRR.out, by omega, ?_⟩, by simp [intOf]; omega⟩
                rw [HGE.out]
                exact ((((hX.drewN 1).then1 hz).drewN _).perm (B := 1 * blk bw SC 72 * hk bh G D2.bytes D2.arms.length * dk bd D2 * (vec 5 1 (.slice na D2.bytes.length nc) D2.bytes.length (bvs D2.bytes) * blk b10 [.slice na D2.bytes.length nc, .int .i64 D2.synced, .int .i64 0] 87 * blk bt [.int .i64 1, .int .i64 O, .int .i64 N, .int .i64 M, .string DT] 83)) (by ac_rfl)).drop
          · have bq1 : decide (((Dk.new [] room).room : Int) < (D.bytes.length : Int) + (DT.size : Int)) = true := decide_eq_true (by rw [hRn.out]; omega)
            go_wp2_with (go_at_call 53; refine HDD.out.mono ?_; rintro e v5 ⟨rfl, rfl⟩)
            go_region_held3 (fun wr => wr.cell? ⟨bt, 0, none⟩ = some (.int .i64 1) ∧ wr.cell? ⟨bt, 4, none⟩ = some (.string DT) ∧ wr.cell? ⟨bh, 1, none⟩ = some (.slice aa D.bytes.length ac) ∧ wr.cell? ⟨bw, 0, none⟩ = some (.int .i64 room)) (first | exact ⟨hT.rot3.cell rfl, hT.rot3.cell rfl, hO0.cell rfl, hB0.cell C0.out⟩ | exact ⟨(hT.drewN _).rot3.cell rfl, (hT.drewN _).rot3.cell rfl, (hO0.drewN _).cell rfl, (hB0.drewN _).cell C0.out⟩)
              (first | (go_at_call 55; refine (law12_roomy room).mono ?_; rintro e v5 ⟨rfl, rfl⟩))
            all_goals
              have hT2 := hT.drewN 1
              clear hT hO0 hB0
              have q0 := hT2.rot3.cell (i := 0) (v := .int .i64 1) rfl
              have q1 := hT2.rot3.cell (i := 1) (v := .int .i64 O) rfl
              have q2 := hT2.rot3.cell (i := 2) (v := .int .i64 N) rfl
              have q3 := hT2.rot3.cell (i := 3) (v := .int .i64 M) rfl
              have q4 := hT2.rot3.cell (i := 4) (v := .string DT) rfl
              go_wp2_with fail
              try rw [bq1]
              refine (held_lasts HE.out hDo hDm hDr (⟨1, O, N, M, DT⟩ : Stp) hso h4k true ((decide_eq_true ⟨rfl, by show ¬ D.bytes.length + DT.size ≤ D.room; omega⟩).symm) (F := 1 * blk bw SC 72 * blk bt [.int .i64 1, .int .i64 O, .int .i64 N, .int .i64 M, .string DT] 83) hT2).mono ?_
              rintro e v2 ⟨v, rfl, rfl, hU⟩
              rw [HD2.out, HGE.out] at hU
              clear hT2 q0 q1 q2 q3 q4
              go_wp2_with fail
              refine law12_look.mono ?_
              rintro e v3 ⟨v, rfl, rfl, hq⟩
              have hV := hU.then1 hq
              clear hq hU
              go_wp2_with fail
              refine (law12_actLook (D := D2) (b := bd) HE.out hD2o hD2m (F := 1 * blk bw SC 72 * blk bt [.int .i64 1, .int .i64 O, .int .i64 N, .int .i64 M, .string DT] 83 * hk bh G D2.bytes D2.arms.length) hV).mono ?_
              rintro e v4 ⟨v, rfl, na, nc, hnc, rfl, hx⟩
              have hx1 := hx.new #[.slice na D2.bytes.length nc, .int .i64 D2.synced, .int .i64 0] 87
              generalize hb10 : v4.heap.size = b10 at hx1
              have hX := hx1.perm (B := 1 * blk bw SC 72 * blk bt [.int .i64 1, .int .i64 O, .int .i64 N, .int .i64 M, .string DT] 83 * dk bd D2 * vec 5 1 (.slice na D2.bytes.length nc) D2.bytes.length (bvs D2.bytes) * blk b10 [.slice na D2.bytes.length nc, .int .i64 D2.synced, .int .i64 0] 87 * hk bh G D2.bytes D2.arms.length) (by ac_rfl)
              have HNO := Hid.mk' hx.no
              have HNC := Hid.mk' hnc
              clear hx hx1 hV hnc
              obtain ⟨gv2, av2, hO⟩ := hX.hk_open
              obtain ⟨g2, gc2, rfl, _, _, _⟩ := hO.rot3.vec_rd
              obtain ⟨a2, ac2, rfl, _, _, _⟩ := hO.swap.vec_rd
              go_wp2_with fail
              go_region_held3 (fun wr => wr.cell? ⟨b10, 0, none⟩ = some (.slice na D2.bytes.length nc) ∧ wr.cell? ⟨bh, 0, none⟩ = some (.slice g2 G.length gc2) ∧ wr.cell? ⟨bh, 1, none⟩ = some (.slice a2 D2.bytes.length ac2)) (first | exact ⟨hO.rot4.cell rfl, hO.cell rfl, hO.cell rfl⟩ | exact ⟨hS1.rot4.cell rfl, hS1.cell rfl, hS1.cell rfl⟩ | exact ⟨hS2.rot4.cell rfl, hS2.cell rfl, hS2.cell rfl⟩)
                (first | (go_at_call 25; refine (ref0_same_true D2.bytes na a2 nc ac2 hS1.rot5.rd hS1.swap.rd hD2b).mono ?_; rintro e v6 ⟨rfl, m, rfl⟩; have hS2 := hS1.drewN m) | (go_at_call 65; refine (law12_starts G q na g2 D2.bytes.length nc gc2 (by rw [HQ.out]) (by rw [HQ.out]; exact (hO.drewN 1).rot5.rd) HNO.out HNC.out (hO.drewN 1).rot3.rd hGl).mono ?_; rintro e v5 ⟨v, rfl, rfl, hz⟩; have hS1 := (hO.drewN 1).then1 hz))
              all_goals
                go_wp2_with fail
                refine ⟨⟨k + 1, D2, by omega, by go_num, hD2o, hD2r, HRR.out, by omega, ?_⟩, by simp [intOf]; omega⟩
                rw [HGE.out]
                exact ((((hX.drewN 1).then1 hz).drewN _).perm (B := 1 * blk bw SC 72 * hk bh G D2.bytes D2.arms.length * dk bd D2 * (vec 5 1 (.slice na D2.bytes.length nc) D2.bytes.length (bvs D2.bytes) * blk b10 [.slice na D2.bytes.length nc, .int .i64 D2.synced, .int .i64 0] 87 * blk bt [.int .i64 1, .int .i64 O, .int .i64 N, .int .i64 M, .string DT] 83)) (by ac_rfl)).drop
        · have h1b : (K == 1) = false := beq_eq_false_iff_ne.2 h1
          have HFU := Hid.mk' (show false = decide ((⟨K, O, N, M, DT⟩ : Stp).kind = 1 ∧ ¬ D.fits (⟨K, O, N, M, DT⟩ : Stp).data.data.toList.length) from (decide_eq_false (fun h => h1 h.1)).symm)
          have q0 := hT.rot3.cell (i := 0) (v := .int .i64 K) rfl
          go_wp2_with (go_at_call 53; refine HDD.out.mono ?_; rintro e v5 ⟨rfl, rfl⟩)
          go_quiet (fail)
          have hT2 := hT.drewN nq
          clear hT q0
          have q0 := hT2.rot3.cell (i := 0) (v := .int .i64 K) rfl
          have q1 := hT2.rot3.cell (i := 1) (v := .int .i64 O) rfl
          have q2 := hT2.rot3.cell (i := 2) (v := .int .i64 N) rfl
          have q3 := hT2.rot3.cell (i := 3) (v := .int .i64 M) rfl
          have q4 := hT2.rot3.cell (i := 4) (v := .string DT) rfl
          go_wp2_with fail
          refine (held_lasts HE.out hDo hDm hDr (⟨K, O, N, M, DT⟩ : Stp) hso h4k false (HFU.out) (F := 1 * blk bw SC 72 * blk bt [.int .i64 K, .int .i64 O, .int .i64 N, .int .i64 M, .string DT] 83) hT2).mono ?_
          rintro e v2 ⟨v, rfl, rfl, hU⟩
          rw [HD2.out, HGE.out] at hU
          clear hT2 q0 q1 q2 q3 q4
          go_wp2_with fail
          refine law12_look.mono ?_
          rintro e v3 ⟨v, rfl, rfl, hq⟩
          have hV := hU.then1 hq
          clear hq hU
          go_wp2_with fail
          refine (law12_actLook (D := D2) (b := bd) HE.out hD2o hD2m (F := 1 * blk bw SC 72 * blk bt [.int .i64 K, .int .i64 O, .int .i64 N, .int .i64 M, .string DT] 83 * hk bh G D2.bytes D2.arms.length) hV).mono ?_
          rintro e v4 ⟨v, rfl, na, nc, hnc, rfl, hx⟩
          have hx1 := hx.new #[.slice na D2.bytes.length nc, .int .i64 D2.synced, .int .i64 0] 87
          generalize hb10 : v4.heap.size = b10 at hx1
          have hX := hx1.perm (B := 1 * blk bw SC 72 * blk bt [.int .i64 K, .int .i64 O, .int .i64 N, .int .i64 M, .string DT] 83 * dk bd D2 * vec 5 1 (.slice na D2.bytes.length nc) D2.bytes.length (bvs D2.bytes) * blk b10 [.slice na D2.bytes.length nc, .int .i64 D2.synced, .int .i64 0] 87 * hk bh G D2.bytes D2.arms.length) (by ac_rfl)
          have HNO := Hid.mk' hx.no
          have HNC := Hid.mk' hnc
          clear hx hx1 hV hnc
          obtain ⟨gv2, av2, hO⟩ := hX.hk_open
          obtain ⟨g2, gc2, rfl, _, _, _⟩ := hO.rot3.vec_rd
          obtain ⟨a2, ac2, rfl, _, _, _⟩ := hO.swap.vec_rd
          go_wp2_with fail
          go_region_held3 (fun wr => wr.cell? ⟨b10, 0, none⟩ = some (.slice na D2.bytes.length nc) ∧ wr.cell? ⟨bh, 0, none⟩ = some (.slice g2 G.length gc2) ∧ wr.cell? ⟨bh, 1, none⟩ = some (.slice a2 D2.bytes.length ac2)) (first | exact ⟨hO.rot4.cell rfl, hO.cell rfl, hO.cell rfl⟩ | exact ⟨hS1.rot4.cell rfl, hS1.cell rfl, hS1.cell rfl⟩ | exact ⟨hS2.rot4.cell rfl, hS2.cell rfl, hS2.cell rfl⟩)
            (first | (go_at_call 25; refine (ref0_same_true D2.bytes na a2 nc ac2 hS1.rot5.rd hS1.swap.rd hD2b).mono ?_; rintro e v6 ⟨rfl, m, rfl⟩; have hS2 := hS1.drewN m) | (go_at_call 65; refine (law12_starts G q na g2 D2.bytes.length nc gc2 (by rw [HQ.out]) (by rw [HQ.out]; exact (hO.drewN 1).rot5.rd) HNO.out HNC.out (hO.drewN 1).rot3.rd hGl).mono ?_; rintro e v5 ⟨v, rfl, rfl, hz⟩; have hS1 := (hO.drewN 1).then1 hz))
          all_goals
            go_wp2_with fail
            refine ⟨⟨k + 1, D2, by omega, by go_num, hD2o, hD2r, HRR.out, by omega, ?_⟩, by simp [intOf]; omega⟩
            rw [HGE.out]
            exact ((((hX.drewN 1).then1 hz).drewN _).perm (B := 1 * blk bw SC 72 * hk bh G D2.bytes D2.arms.length * dk bd D2 * (vec 5 1 (.slice na D2.bytes.length nc) D2.bytes.length (bvs D2.bytes) * blk b10 [.slice na D2.bytes.length nc, .int .i64 D2.synced, .int .i64 0] 87 * blk bt [.int .i64 K, .int .i64 O, .int .i64 N, .int .i64 M, .string DT] 83)) (by ac_rfl)).drop
    · go_wp2_with fail
      go_ret
      exact Ret.mk ⟨rfl, (Sat.start w).ext hS.below⟩
end Go.Proofs.YtjhlelcopofkkaaDoor
