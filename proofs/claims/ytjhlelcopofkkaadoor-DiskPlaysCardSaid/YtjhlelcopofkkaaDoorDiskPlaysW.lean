/- The walk of the law DiskPlays. -/
import Derived.Test.YtjhlelcopofkkaaDoorSame
namespace Go.Proofs.YtjhlelcopofkkaaDoor
open Go.RowKit

set_option maxRecDepth 20000 in
set_option maxHeartbeats 12800000 in
theorem walk_diskPlays {w : World} {E : Nat → Addr} (hE : Errs w E) (room : Int) (data : ByteArray) (hdz : data.size ≤ 140737488351232) (other : Int) (ss : List Stp) (ao : Option Addr) (c : Nat) (hr : Rd w ao (stps ss)) (hn : ss.length ≤ 2932031007402) (hok : ∀ s ∈ ss, s.Ok) :
    Calls Tryd.prog 10 #[.agg #[.int .i64 room, .string data, .int .i64 other, .slice ao ss.length c]] w (Ret fun v w' => v = .bool true ∧ Sat w w' 1) := by
  have HE := Hid.mk' hE
  have HR := Hid.mk' hr
  have HOK := Hid.mk' hok
  have hs0 := (Sat.refl w).new #[.int .i64 room, .string data, .int .i64 other, .slice ao ss.length c] 72
  clear hE hr hok
  generalize hbw : w.heap.size = bw at hs0
  go_enter Tryd.func10, Tryd.ntmps10
  go_wp2_with fail
  refine (disk_new hs0 room).mono ?_
  rintro e w1 ⟨v, rfl, ba, rfl, hs1⟩
  have k1 := hs1.swap.cell (i := 1) (v := .string data) rfl
  have k2 := hs1.swap.cell (i := 2) (v := .int .i64 other) rfl
  go_wp2_with fail
  have hsz : data.data.toList.length = data.size := rfl
  go_region_held3 (fun wr => wr.cell? ⟨bw, 1, none⟩ = some (.string data) ∧ wr.cell? ⟨bw, 2, none⟩ = some (.int .i64 other)) (first | exact ⟨k1, k2⟩ | exact ⟨hs3.rot3.cell rfl, hs3.rot3.cell rfl⟩ | exact ⟨hs4.rot4.cell rfl, hs4.rot4.cell rfl⟩)
    (first | (go_at_call 41; go_loud (refine (kit_bytes data hdz).mono ?_); rintro e w3 ⟨v, rfl, hx⟩; have hs3 := (hs1.drewN 1).glue hx; obtain ⟨po, pc, rfl, _, hrp, _⟩ := hs3.vec_rd) | (go_at_call 42; go_loud (refine (disk_open hs3 data.data.toList po pc hrp hdz other).mono ?_); rintro e w4 ⟨v, rfl, bb, rfl, hs4⟩))
  have hs5 := hs4.swap.drop
  clear hs4 hs3 hs1 hrp k1 k2
  have k0 := hs5.rot3.cell (i := 0) (v := .int .i64 room) rfl
  go_wp2_with fail
  refine (ref12_new hs5 room).mono ?_
  rintro e w5 ⟨v, rfl, bc, rfl, hs6⟩
  have k1 := hs6.rot4.cell (i := 1) (v := .string data) rfl
  have k2 := hs6.rot4.cell (i := 2) (v := .int .i64 other) rfl
  clear hs5
  go_wp2_with fail
  go_region_held3 (fun wr => wr.cell? ⟨bw, 1, none⟩ = some (.string data) ∧ wr.cell? ⟨bw, 2, none⟩ = some (.int .i64 other)) (first | exact ⟨k1, k2⟩ | exact ⟨hs7.rot5.cell rfl, hs7.rot5.cell rfl⟩ | exact ⟨hs8.rot6.cell rfl, hs8.rot6.cell rfl⟩)
    (first | (go_at_call 41; go_loud (refine (kit_bytes data hdz).mono ?_); rintro e w6 ⟨v, rfl, hx⟩; have hs7 := (hs6.drewN 1).glue hx; obtain ⟨po, pc, rfl, _, hrp, _⟩ := hs7.vec_rd) | (go_at_call 43; go_loud (refine (ref12_open hs7 data.data.toList po pc hrp hdz other).mono ?_); rintro e w7 ⟨v, rfl, bd, rfl, hs8⟩))
  have hs9 := hs8.swap.drop
  clear hs8 hs7 hs6 hrp k1 k2
  go_wp2_with fail
  go_loopw [7] (fun i wr => ∃ (k : Nat) (A B : Dk), k ≤ ss.length ∧ i = .int .i64 k ∧ A.Ok ∧ B.Ok ∧ A.arms.length + B.arms.length ≤ k ∧ Sat w wr (1 * blk bw [.int .i64 room, .string data, .int .i64 other, .slice ao ss.length c] 72 * dk ba A * dk bb B * rk bc A * rk bd B)) (fun i _ => ss.length - (intOf i).toNat)
  case atStart => exact ⟨0, _, _, by omega, rfl, Dk.Ok.new (by simp) room, Dk.Ok.new hdz other, by simp [Dk.new], hs9⟩
  case round =>
    clear hs9
    obtain ⟨k, A, B, hk, rfl, hAo, hBo, hlen, hS⟩ := hrel
    have k3 := hS.rot5.cell (i := 3) (v := .slice ao ss.length c) rfl
    by_cases hlt : k < ss.length
    · obtain ⟨b1, o1, rfl, c0, c1, c2, c3, c4⟩ := stps_rd (HR.out.of0 hS) hlt
      have hso := HOK.out _ (List.getElem_mem hlt)
      generalize ss[k] = s at c0 c1 c2 c3 c4 hso
      obtain ⟨K, O, N, M, DT⟩ := s
      simp only at c0 c1 c2 c3 c4
      have hT0 := hS.new #[.int .i64 K, .int .i64 O, .int .i64 N, .int .i64 M, .string DT] 83
      generalize hbt : wr.heap.size = bt at hT0
      have hT := hT0
      clear hT0 hS
      by_cases hev : (O.tmod 2 == 0) = true
      · skip
        go_wp2_with fail
        go_region_held3 (fun wr => wr.cell? ⟨bt, 0, none⟩ = some (.int .i64 K) ∧ wr.cell? ⟨bt, 1, none⟩ = some (.int .i64 O) ∧ wr.cell? ⟨bt, 2, none⟩ = some (.int .i64 N) ∧ wr.cell? ⟨bt, 3, none⟩ = some (.int .i64 M) ∧ wr.cell? ⟨bt, 4, none⟩ = some (.string DT))
          (first | exact ⟨hT.cell rfl, hT.cell rfl, hT.cell rfl, hT.cell rfl, hT.cell rfl⟩ | exact ⟨hT2.cell rfl, hT2.cell rfl, hT2.cell rfl, hT2.cell rfl, hT2.cell rfl⟩ | exact ⟨hT3.cell rfl, hT3.cell rfl, hT3.cell rfl, hT3.cell rfl, hT3.cell rfl⟩ | exact ⟨hT4.cell rfl, hT4.cell rfl, hT4.cell rfl, hT4.cell rfl, hT4.cell rfl⟩)
          (first | (go_at_call 47; go_loud (refine (law12_act HE.out hAo (⟨K, O, N, M, DT⟩ : Stp) hso (by omega) (F := 1 * blk bw [.int .i64 room, .string data, .int .i64 other, .slice (some ⟨b1, o1, none⟩) ss.length c] 72 * dk bb B * rk bd B * blk bt [.int .i64 K, .int .i64 O, .int .i64 N, .int .i64 M, .string DT] 83 * rk bc A) ((hT.drewN 1).perm (by ac_rfl))).mono ?_); rintro e w2 ⟨v, rfl, u1, rfl, hx⟩; obtain ⟨a1, c1, rfl, _, _, _⟩ := hx.vec_rd; have hT2 := hx.perm (B := 1 * blk bw [.int .i64 room, .string data, .int .i64 other, .slice (some ⟨b1, o1, none⟩) ss.length c] 72 * dk bb B * rk bd B * rk bc A * dk ba (A.act (⟨K, O, N, M, DT⟩ : Stp)).2 * vec 5 1 (.slice a1 (A.act (⟨K, O, N, M, DT⟩ : Stp)).1.list.length c1) (A.act (⟨K, O, N, M, DT⟩ : Stp)).1.list.length (bvs (A.act (⟨K, O, N, M, DT⟩ : Stp)).1.list) * blk bt [.int .i64 K, .int .i64 O, .int .i64 N, .int .i64 M, .string DT] 83) (by ac_rfl)) | (go_at_call 49; go_loud (refine (law12_told hAo (⟨K, O, N, M, DT⟩ : Stp) hso (by omega) (F := 1 * blk bw [.int .i64 room, .string data, .int .i64 other, .slice (some ⟨b1, o1, none⟩) ss.length c] 72 * dk bb B * rk bd B * blk bt [.int .i64 K, .int .i64 O, .int .i64 N, .int .i64 M, .string DT] 83 * dk ba (A.act (⟨K, O, N, M, DT⟩ : Stp)).2 * vec 5 1 (.slice a1 (A.act (⟨K, O, N, M, DT⟩ : Stp)).1.list.length c1) (A.act (⟨K, O, N, M, DT⟩ : Stp)).1.list.length (bvs (A.act (⟨K, O, N, M, DT⟩ : Stp)).1.list)) (hT2.perm (by ac_rfl))).mono ?_); rintro e w3 ⟨v, rfl, u2, rfl, hy⟩; obtain ⟨a2, c2, rfl, _, _, _⟩ := hy.vec_rd; have hT3 := hy.perm (B := 1 * blk bw [.int .i64 room, .string data, .int .i64 other, .slice (some ⟨b1, o1, none⟩) ss.length c] 72 * dk bb B * rk bd B * dk ba (A.act (⟨K, O, N, M, DT⟩ : Stp)).2 * rk bc (A.act (⟨K, O, N, M, DT⟩ : Stp)).2 * vec 5 1 (.slice a1 (A.act (⟨K, O, N, M, DT⟩ : Stp)).1.list.length c1) (A.act (⟨K, O, N, M, DT⟩ : Stp)).1.list.length (bvs (A.act (⟨K, O, N, M, DT⟩ : Stp)).1.list) * vec 5 1 (.slice a2 (A.act (⟨K, O, N, M, DT⟩ : Stp)).1.list.length c2) (A.act (⟨K, O, N, M, DT⟩ : Stp)).1.list.length (bvs (A.act (⟨K, O, N, M, DT⟩ : Stp)).1.list) * blk bt [.int .i64 K, .int .i64 O, .int .i64 N, .int .i64 M, .string DT] 83) (by ac_rfl)) | (go_at_call 48; go_loud (refine (law12_same_true (A.act (⟨K, O, N, M, DT⟩ : Stp)).1 a1 a2 c1 c2 hT3.rot3.rd hT3.swap.rd (act_len hAo _)).mono ?_); rintro e w4 ⟨v, rfl, rfl, hz⟩; have hT4 := hT3.then1 hz))
        have hfin := (hT4.drop.drop.drop).perm (B := 1 * blk bw [.int .i64 room, .string data, .int .i64 other, .slice (some ⟨b1, o1, none⟩) ss.length c] 72 * dk ba (A.act (⟨K, O, N, M, DT⟩ : Stp)).2 * dk bb B * rk bc (A.act (⟨K, O, N, M, DT⟩ : Stp)).2 * rk bd B) (by ac_rfl)
        go_wp2_with fail
        refine ⟨⟨k + 1, (A.act (⟨K, O, N, M, DT⟩ : Stp)).2, B, by omega, by go_num, hAo.act hso, hBo, (by have := act_arms A (⟨K, O, N, M, DT⟩ : Stp); omega), hfin⟩, by simp [intOf]; omega⟩
      · have hev' : (O.tmod 2 == 0) = false := by simpa using hev
        clear hev
        go_wp2_with fail
        go_region_held3 (fun wr => wr.cell? ⟨bt, 0, none⟩ = some (.int .i64 K) ∧ wr.cell? ⟨bt, 1, none⟩ = some (.int .i64 O) ∧ wr.cell? ⟨bt, 2, none⟩ = some (.int .i64 N) ∧ wr.cell? ⟨bt, 3, none⟩ = some (.int .i64 M) ∧ wr.cell? ⟨bt, 4, none⟩ = some (.string DT))
          (first | exact ⟨hT.cell rfl, hT.cell rfl, hT.cell rfl, hT.cell rfl, hT.cell rfl⟩ | exact ⟨hT2.cell rfl, hT2.cell rfl, hT2.cell rfl, hT2.cell rfl, hT2.cell rfl⟩ | exact ⟨hT3.cell rfl, hT3.cell rfl, hT3.cell rfl, hT3.cell rfl, hT3.cell rfl⟩ | exact ⟨hT4.cell rfl, hT4.cell rfl, hT4.cell rfl, hT4.cell rfl, hT4.cell rfl⟩)
          (first | (go_at_call 47; go_loud (refine (law12_act HE.out hBo (⟨K, O, N, M, DT⟩ : Stp) hso (by omega) (F := 1 * blk bw [.int .i64 room, .string data, .int .i64 other, .slice (some ⟨b1, o1, none⟩) ss.length c] 72 * dk ba A * rk bc A * blk bt [.int .i64 K, .int .i64 O, .int .i64 N, .int .i64 M, .string DT] 83 * rk bd B) ((hT.drewN 1).perm (by ac_rfl))).mono ?_); rintro e w2 ⟨v, rfl, u1, rfl, hx⟩; obtain ⟨a1, c1, rfl, _, _, _⟩ := hx.vec_rd; have hT2 := hx.perm (B := 1 * blk bw [.int .i64 room, .string data, .int .i64 other, .slice (some ⟨b1, o1, none⟩) ss.length c] 72 * dk ba A * rk bc A * rk bd B * dk bb (B.act (⟨K, O, N, M, DT⟩ : Stp)).2 * vec 5 1 (.slice a1 (B.act (⟨K, O, N, M, DT⟩ : Stp)).1.list.length c1) (B.act (⟨K, O, N, M, DT⟩ : Stp)).1.list.length (bvs (B.act (⟨K, O, N, M, DT⟩ : Stp)).1.list) * blk bt [.int .i64 K, .int .i64 O, .int .i64 N, .int .i64 M, .string DT] 83) (by ac_rfl)) | (go_at_call 49; go_loud (refine (law12_told hBo (⟨K, O, N, M, DT⟩ : Stp) hso (by omega) (F := 1 * blk bw [.int .i64 room, .string data, .int .i64 other, .slice (some ⟨b1, o1, none⟩) ss.length c] 72 * dk ba A * rk bc A * blk bt [.int .i64 K, .int .i64 O, .int .i64 N, .int .i64 M, .string DT] 83 * dk bb (B.act (⟨K, O, N, M, DT⟩ : Stp)).2 * vec 5 1 (.slice a1 (B.act (⟨K, O, N, M, DT⟩ : Stp)).1.list.length c1) (B.act (⟨K, O, N, M, DT⟩ : Stp)).1.list.length (bvs (B.act (⟨K, O, N, M, DT⟩ : Stp)).1.list)) (hT2.perm (by ac_rfl))).mono ?_); rintro e w3 ⟨v, rfl, u2, rfl, hy⟩; obtain ⟨a2, c2, rfl, _, _, _⟩ := hy.vec_rd; have hT3 := hy.perm (B := 1 * blk bw [.int .i64 room, .string data, .int .i64 other, .slice (some ⟨b1, o1, none⟩) ss.length c] 72 * dk ba A * rk bc A * dk bb (B.act (⟨K, O, N, M, DT⟩ : Stp)).2 * rk bd (B.act (⟨K, O, N, M, DT⟩ : Stp)).2 * vec 5 1 (.slice a1 (B.act (⟨K, O, N, M, DT⟩ : Stp)).1.list.length c1) (B.act (⟨K, O, N, M, DT⟩ : Stp)).1.list.length (bvs (B.act (⟨K, O, N, M, DT⟩ : Stp)).1.list) * vec 5 1 (.slice a2 (B.act (⟨K, O, N, M, DT⟩ : Stp)).1.list.length c2) (B.act (⟨K, O, N, M, DT⟩ : Stp)).1.list.length (bvs (B.act (⟨K, O, N, M, DT⟩ : Stp)).1.list) * blk bt [.int .i64 K, .int .i64 O, .int .i64 N, .int .i64 M, .string DT] 83) (by ac_rfl)) | (go_at_call 48; go_loud (refine (law12_same_true (B.act (⟨K, O, N, M, DT⟩ : Stp)).1 a1 a2 c1 c2 hT3.rot3.rd hT3.swap.rd (act_len hBo _)).mono ?_); rintro e w4 ⟨v, rfl, rfl, hz⟩; have hT4 := hT3.then1 hz))
        have hfin := (hT4.drop.drop.drop).perm (B := 1 * blk bw [.int .i64 room, .string data, .int .i64 other, .slice (some ⟨b1, o1, none⟩) ss.length c] 72 * dk ba A * dk bb (B.act (⟨K, O, N, M, DT⟩ : Stp)).2 * rk bc A * rk bd (B.act (⟨K, O, N, M, DT⟩ : Stp)).2) (by ac_rfl)
        go_wp2_with fail
        refine ⟨⟨k + 1, A, (B.act (⟨K, O, N, M, DT⟩ : Stp)).2, by omega, by go_num, hAo, hBo.act hso, (by have := act_arms B (⟨K, O, N, M, DT⟩ : Stp); omega), hfin⟩, by simp [intOf]; omega⟩
    · have hkk : k = ss.length := by omega
      subst hkk
      have hA1 := hAo
      have hB2 := hBo
      go_wp2_with fail
      refine law12_look.mono ?_
      rintro e v10 ⟨v, rfl, rfl, hx⟩
      have q10 := hS.then1 hx
      clear hx
      go_wp2_with fail
      refine (law12_act HE.out hA1 Stp.looks Stp.looks_ok (by omega) (F := 1 * blk bw [.int .i64 room, .string data, .int .i64 other, .slice ao ss.length c] 72 * dk bb B * rk bd B * rk bc A) (q10.perm (by ac_rfl))).mono ?_
      rintro e v11 ⟨v, rfl, u1, rfl, hx⟩
      obtain ⟨a1, c1, rfl, _, _, _⟩ := hx.vec_rd
      go_wp2_with fail
      refine law12_look.mono ?_
      rintro e v12 ⟨v, rfl, rfl, hy⟩
      have q12 := hx.then1 hy
      clear hx hy
      go_wp2_with fail
      refine (law12_told hA1 Stp.looks Stp.looks_ok (by omega) (F := 1 * blk bw [.int .i64 room, .string data, .int .i64 other, .slice ao ss.length c] 72 * dk bb B * rk bd B * dk ba (A.act Stp.looks).2 * vec 5 1 (.slice a1 (A.act Stp.looks).1.list.length c1) (A.act Stp.looks).1.list.length (bvs (A.act Stp.looks).1.list)) (q12.perm (by ac_rfl))).mono ?_
      rintro e v13 ⟨v, rfl, u2, rfl, hx⟩
      obtain ⟨a2, c2, rfl, _, _, _⟩ := hx.vec_rd
      go_wp2_with fail
      refine (law12_same_true (A.act Stp.looks).1 a1 a2 c1 c2 hx.swap.swap.rot3.rd hx.rd (act_len hA1 _)).mono ?_
      rintro e v14 ⟨v, rfl, rfl, hy⟩
      have q14 := hx.then1 hy
      clear hx hy
      have r1 := (q14.drop.swap.drop.perm (B := 1 * blk bw [.int .i64 room, .string data, .int .i64 other, .slice ao ss.length c] 72 * dk bb B * rk bd B * (dk ba (A.act Stp.looks).2 * rk bc (A.act Stp.looks).2)) (by ac_rfl)).drop
      clear q14 q12 q10
      go_wp2_with fail
      refine law12_look.mono ?_
      rintro e v20 ⟨v, rfl, rfl, hx⟩
      have q20 := r1.then1 hx
      clear hx
      go_wp2_with fail
      refine (law12_act HE.out hB2 Stp.looks Stp.looks_ok (by omega) (F := 1 * blk bw [.int .i64 room, .string data, .int .i64 other, .slice ao ss.length c] 72 * rk bd B) (q20.perm (by ac_rfl))).mono ?_
      rintro e v21 ⟨v, rfl, u1, rfl, hx⟩
      obtain ⟨a1, c1, rfl, _, _, _⟩ := hx.vec_rd
      go_wp2_with fail
      refine law12_look.mono ?_
      rintro e v22 ⟨v, rfl, rfl, hy⟩
      have q22 := hx.then1 hy
      clear hx hy
      go_wp2_with fail
      refine (law12_told hB2 Stp.looks Stp.looks_ok (by omega) (F := 1 * blk bw [.int .i64 room, .string data, .int .i64 other, .slice ao ss.length c] 72 * dk bb (B.act Stp.looks).2 * vec 5 1 (.slice a1 (B.act Stp.looks).1.list.length c1) (B.act Stp.looks).1.list.length (bvs (B.act Stp.looks).1.list)) (q22.perm (by ac_rfl))).mono ?_
      rintro e v23 ⟨v, rfl, u2, rfl, hx⟩
      obtain ⟨a2, c2, rfl, _, _, _⟩ := hx.vec_rd
      go_wp2_with fail
      refine (law12_same_true (B.act Stp.looks).1 a1 a2 c1 c2 hx.swap.swap.rot3.rd hx.rd (act_len hB2 _)).mono ?_
      rintro e v24 ⟨v, rfl, rfl, hy⟩
      have q24 := hx.then1 hy
      clear hx hy
      go_wp2_with fail
      go_ret
      exact Ret.mk ⟨rfl, (Sat.start w).ext q24.below⟩
end Go.Proofs.YtjhlelcopofkkaaDoor
