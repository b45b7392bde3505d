/- The walk of the law DiskLookFree. -/
import Derived.Test.YtjhlelcopofkkaaDoorAct
namespace Go.Proofs.YtjhlelcopofkkaaDoor
open Go.RowKit

theorem law12_act' {w0 w : World} {F : HP} {b : Nat} {D : Dk} {E : Nat → Addr} (hE : Errs w0 E) (hD : D.Ok) (s : Stp) (hS : s.Ok) (hm : D.arms.length < 8796093022207) (hs : Sat w0 w (F * dk b D)) :
    Calls Tryd.prog 47 #[.pointer (some ⟨b, 0, none⟩), .agg #[.int .i64 s.kind, .int .i64 s.on, .int .i64 s.n, .int .i64 s.m, .string s.data]] w (Ret fun v w' => ∃ (a : Option Addr) (c : Nat), (D.act s).1.list.length ≤ c ∧ v = .agg #[.slice a (D.act s).1.list.length c, .int .i64 (D.act s).1.num, .int .i64 ((D.act s).1.err : Int)] ∧
      Sat w0 w' (F * dk b (D.act s).2 * vec 5 1 (.slice a (D.act s).1.list.length c) (D.act s).1.list.length (bvs (D.act s).1.list))) := by
  refine (law12_act hE hD s hS hm hs).mono ?_
  rintro e w' ⟨v, rfl, u, rfl, hx⟩
  obtain ⟨a, c, rfl, hc, _, _⟩ := hx.vec_rd
  exact Ret.mk ⟨a, c, hc, rfl, hx⟩
theorem law12_same' {w : World} (S : Said) (a1 a2 : Option Addr) (c1 c2 : Nat) (h1 : Rd w a1 (bvs S.list)) (h2 : Rd w a2 (bvs S.list)) (hl : S.list.length ≤ 140737488351232) :
    Calls Tryd.prog 48 #[.agg #[.slice a1 S.list.length c1, .int .i64 S.num, .int .i64 (S.err : Int)], .agg #[.slice a2 S.list.length c2, .int .i64 S.num, .int .i64 (S.err : Int)]] w (Ret fun v w' => v = .bool true ∧ Sat w w' 1) :=
  law12_same_true S a1 a2 c1 c2 h1 h2 hl

def kept4 : List UInt8 := [107, 101, 112, 116]
theorem kit_kept {w : World} : Calls Tryd.prog 41 #[.string ⟨#[107, 101, 112, 116]⟩] w (Ret fun v w' => Sat w w' (vec 5 1 v 4 (bvs kept4))) := kit_bytes ⟨#[107, 101, 112, 116]⟩ (by decide)

set_option maxRecDepth 20000 in
set_option maxHeartbeats 12800000 in
theorem walk_diskLookFree {w : World} {E : Nat → Addr} (hE : Errs w E) (room : Int) (data : ByteArray) (other : Int) (ss : List Stp) (ao : Option Addr) (c : Nat) (hr : Rd w ao (stps ss)) (hn : ss.length ≤ 2932031007402) (hok : ∀ s ∈ ss, s.Ok) :
    Calls Tryd.prog 12 #[.agg #[.int .i64 room, .string data, .int .i64 other, .slice ao ss.length c]] w (Ret fun v w' => v = .bool true ∧ Sat w w' 1) := by
  have HE := Hid.mk' hE
  have HR := Hid.mk' hr
  have HOK := Hid.mk' hok
  have hs0 := (Sat.refl w).new #[.int .i64 room, .string data, .int .i64 other, .slice ao ss.length c] 72
  clear hE hr hok
  obtain ⟨SC, hSC⟩ : ∃ SC, #[Value.int .i64 room, .string data, .int .i64 other, .slice ao ss.length c].toList = SC := ⟨_, rfl⟩
  have C0 := Hid.mk' (show SC[0]? = some (.int .i64 room) by rw [← hSC]; rfl)
  have C3 := Hid.mk' (show SC[3]? = some (.slice ao ss.length c) by rw [← hSC]; rfl)
  rw [hSC] at hs0
  clear hSC
  generalize hbw : w.heap.size = bw at hs0
  go_enter Tryd.func12, Tryd.ntmps12
  go_wp2_with fail
  refine (disk_new hs0 room).mono ?_
  rintro e w1 ⟨v, rfl, ba, rfl, hs1⟩
  have k0 := hs1.swap.cell C0.out
  go_wp2_with fail
  refine (disk_new hs1 room).mono ?_
  rintro e w2 ⟨v, rfl, bb, rfl, hs2⟩
  clear hs0 hs1 k0
  go_wp2_with fail
  refine kit_kept.mono ?_
  rintro e w3 ⟨v, rfl, hx⟩
  have hs3 := hs2.glue hx
  obtain ⟨po, pc, rfl, _, hrp, _⟩ := hs3.vec_rd
  clear hx
  go_wp2_with fail
  refine (disk_open hs3 kept4 po pc hrp (by decide) 0).mono ?_
  rintro e w4 ⟨v, rfl, bc, rfl, hs4⟩
  clear hrp hs3
  go_wp2_with fail
  refine law12_look.mono ?_
  rintro e w5 ⟨v, rfl, rfl, hy⟩
  have hs5 := hs4.then1 hy
  clear hy hs4
  go_wp2_with fail
  refine (show Calls Tryd.prog 47 #[.pointer (some ⟨bc, 0, none⟩), Stp.looks.val] w5 (Ret fun v w' => ∃ (a : Option Addr) (c : Nat), 4 ≤ c ∧ v = .agg #[.slice a 4 c, .int .i64 4, .int .i64 0] ∧ Sat w w' (1 * blk bw SC 72 * dk ba (Dk.new [] room) * dk bb (Dk.new [] room) * vec 5 1 (.slice po 4 pc) 4 (bvs kept4) * dk bc (Dk.new kept4 0) * vec 5 1 (.slice a 4 c) 4 (bvs kept4))) from law12_act' HE.out (Dk.Ok.new (by decide) 0) Stp.looks Stp.looks_ok (by decide) hs5).mono ?_
  rintro e w6 ⟨v, rfl, la, lc, hlc, rfl, hs6⟩
  have hs7 := hs6.new #[.slice la 4 lc, .int .i64 4, .int .i64 0] 87
  generalize hb6 : w6.heap.size = b6 at hs7
  clear hs5
  go_wp2_with fail
  go_region_held3 (fun wr => wr.cell? ⟨b6, 0, none⟩ = some (.slice la 4 lc) ∧ wr.cell? ⟨b6, 1, none⟩ = some (.int .i64 4)) (first | exact ⟨hs7.cell rfl, hs7.cell rfl⟩ | exact ⟨hs8.swap.cell rfl, hs8.swap.cell rfl⟩ | exact ⟨hs9.swap.cell rfl, hs9.swap.cell rfl⟩)
    (first | (go_at_call 41; go_loud (refine kit_kept.mono ?_); rintro e w8 ⟨v, rfl, hx⟩; have hs8 := (hs7.drewN 1).glue hx; obtain ⟨qo, qc, rfl, _, hrq, _⟩ := hs8.vec_rd) | (go_at_call 25; go_loud (refine (ref0_sameBytes kept4 kept4 la qo lc qc hs8.rot3.rd hrq (by decide)).mono ?_); rintro e w9 ⟨rfl, m9, rfl⟩; rw [decide_eq_true rfl]; have hs9 := hs8.drewN m9))
  have hs10 := (hs9.drop.drop.drop.drop.drop).perm (B := 1 * blk bw SC 72 * dk ba (Dk.new [] room) * dk bb (Dk.new [] room)) (by ac_rfl)
  generalize w8.drewN m9 = w10 at hs10 ⊢
  clear hs9 hs8 hs7 hs6 hrq
  go_wp2_with fail
  go_loopw [7] (fun i wr => ∃ (k : Nat) (D : Dk), k ≤ ss.length ∧ i = .int .i64 k ∧ D.Ok ∧ D.arms.length ≤ k ∧ Sat w wr (1 * blk bw SC 72 * dk ba D * dk bb D)) (fun i _ => ss.length - (intOf i).toNat)
  case atStart => exact ⟨0, _, by omega, rfl, Dk.Ok.new (by simp) room, by simp [Dk.new], hs10⟩
  case round =>
    clear hs10
    obtain ⟨k, D, hk, rfl, hDo, hlen, hS⟩ := hrel
    have k3 := hS.rot3.cell C3.out
    by_cases hlt : k < ss.length
    · obtain ⟨b1, o1, rfl, c0, c1, c2, c3, c4⟩ := stps_rd (HR.out.of0 hS) hlt
      have hso := HOK.out _ (List.getElem_mem hlt)
      generalize ss[k] = s at c0 c1 c2 c3 c4 hso
      obtain ⟨K, O, N, M, DT⟩ := s
      simp only at c0 c1 c2 c3 c4
      have hT := hS.new #[.int .i64 K, .int .i64 O, .int .i64 N, .int .i64 M, .string DT] 83
      generalize hbt : wr.heap.size = bt at hT
      clear hS
      go_wp2_with fail
      refine (law12_act' HE.out hDo (⟨K, O, N, M, DT⟩ : Stp) hso (by omega) (F := 1 * blk bw SC 72 * blk bt [.int .i64 K, .int .i64 O, .int .i64 N, .int .i64 M, .string DT] 83 * dk bb D) (hT.perm (by ac_rfl))).mono ?_
      rintro e v1 ⟨v, rfl, a1, n1, _, rfl, hx⟩
      have hy := hx.new #[.slice a1 (D.act (⟨K, O, N, M, DT⟩ : Stp)).1.list.length n1, .int .i64 (D.act (⟨K, O, N, M, DT⟩ : Stp)).1.num, .int .i64 ((D.act (⟨K, O, N, M, DT⟩ : Stp)).1.err : Int)] 87
      generalize hb9 : v1.heap.size = b9 at hy
      have hDo' := hDo.act hso
      have hAl := act_len hDo (⟨K, O, N, M, DT⟩ : Stp)
      have hAm := act_arms D (⟨K, O, N, M, DT⟩ : Stp)
      have HD := Hid.mk' (disk_dead hy.rot3)
      have HLK := Hid.mk' (disk_look hDo' hy.rot3)
      clear hT hx
      go_wp2_with (first | (go_at_call 53; refine HD.out.mono ?_; rintro e v2 ⟨rfl, rfl⟩) | (go_at_call 61; refine HLK.out.mono ?_; rintro e v3 ⟨v, rfl, u3, rfl, hz⟩; have hz' := hz.drop))
      have hT9 := hz'.perm (B := 1 * blk bw SC 72 * blk bt [.int .i64 K, .int .i64 O, .int .i64 N, .int .i64 M, .string DT] 83 * dk bb D * vec 5 1 (.slice a1 (D.act (⟨K, O, N, M, DT⟩ : Stp)).1.list.length n1) (D.act (⟨K, O, N, M, DT⟩ : Stp)).1.list.length (bvs (D.act (⟨K, O, N, M, DT⟩ : Stp)).1.list) * dk ba (D.act (⟨K, O, N, M, DT⟩ : Stp)).2 * blk b9 [.slice a1 (D.act (⟨K, O, N, M, DT⟩ : Stp)).1.list.length n1, .int .i64 (D.act (⟨K, O, N, M, DT⟩ : Stp)).1.num, .int .i64 ((D.act (⟨K, O, N, M, DT⟩ : Stp)).1.err : Int)] 87) (by ac_rfl)
      have hT8 := hz'.perm (B := 1 * blk bw SC 72 * blk b9 [.slice a1 (D.act (⟨K, O, N, M, DT⟩ : Stp)).1.list.length n1, .int .i64 (D.act (⟨K, O, N, M, DT⟩ : Stp)).1.num, .int .i64 ((D.act (⟨K, O, N, M, DT⟩ : Stp)).1.err : Int)] 87 * dk bb D * vec 5 1 (.slice a1 (D.act (⟨K, O, N, M, DT⟩ : Stp)).1.list.length n1) (D.act (⟨K, O, N, M, DT⟩ : Stp)).1.list.length (bvs (D.act (⟨K, O, N, M, DT⟩ : Stp)).1.list) * dk ba (D.act (⟨K, O, N, M, DT⟩ : Stp)).2 * blk bt [.int .i64 K, .int .i64 O, .int .i64 N, .int .i64 M, .string DT] 83) (by ac_rfl)
      clear hz hz' hy
      go_region_held3 (fun wr => (wr.cell? ⟨b9, 0, none⟩ = some (.slice a1 (D.act (⟨K, O, N, M, DT⟩ : Stp)).1.list.length n1) ∧ wr.cell? ⟨b9, 1, none⟩ = some (.int .i64 (D.act (⟨K, O, N, M, DT⟩ : Stp)).1.num) ∧ wr.cell? ⟨b9, 2, none⟩ = some (.int .i64 ((D.act (⟨K, O, N, M, DT⟩ : Stp)).1.err : Int))) ∧ wr.cell? ⟨bt, 0, none⟩ = some (.int .i64 K) ∧ wr.cell? ⟨bt, 1, none⟩ = some (.int .i64 O) ∧ wr.cell? ⟨bt, 2, none⟩ = some (.int .i64 N) ∧ wr.cell? ⟨bt, 3, none⟩ = some (.int .i64 M) ∧ wr.cell? ⟨bt, 4, none⟩ = some (.string DT))
        (first | exact ⟨⟨hT9.cell rfl, hT9.cell rfl, hT9.cell rfl⟩, hT8.cell rfl, hT8.cell rfl, hT8.cell rfl, hT8.cell rfl, hT8.cell rfl⟩ | exact ⟨⟨hU9.cell rfl, hU9.cell rfl, hU9.cell rfl⟩, hU8.cell rfl, hU8.cell rfl, hU8.cell rfl, hU8.cell rfl, hU8.cell rfl⟩ | exact ⟨⟨(hU9.then1 hq).cell rfl, (hU9.then1 hq).cell rfl, (hU9.then1 hq).cell rfl⟩, (hU8.then1 hq).cell rfl, (hU8.then1 hq).cell rfl, (hU8.then1 hq).cell rfl, (hU8.then1 hq).cell rfl, (hU8.then1 hq).cell rfl⟩)
        (first | (go_at_call 47; go_loud (refine (law12_act' HE.out hDo (⟨K, O, N, M, DT⟩ : Stp) hso (by omega) (F := 1 * blk bw SC 72 * blk bt [.int .i64 K, .int .i64 O, .int .i64 N, .int .i64 M, .string DT] 83 * vec 5 1 (.slice a1 (D.act (⟨K, O, N, M, DT⟩ : Stp)).1.list.length n1) (D.act (⟨K, O, N, M, DT⟩ : Stp)).1.list.length (bvs (D.act (⟨K, O, N, M, DT⟩ : Stp)).1.list) * dk ba (D.act (⟨K, O, N, M, DT⟩ : Stp)).2 * blk b9 [.slice a1 (D.act (⟨K, O, N, M, DT⟩ : Stp)).1.list.length n1, .int .i64 (D.act (⟨K, O, N, M, DT⟩ : Stp)).1.num, .int .i64 ((D.act (⟨K, O, N, M, DT⟩ : Stp)).1.err : Int)] 87) ((hT9.drewN 1).perm (by ac_rfl))).mono ?_); rintro e v4 ⟨v, rfl, a2, n2, _, rfl, hu⟩; have hU9 := hu.perm (B := 1 * blk bw SC 72 * blk bt [.int .i64 K, .int .i64 O, .int .i64 N, .int .i64 M, .string DT] 83 * vec 5 1 (.slice a1 (D.act (⟨K, O, N, M, DT⟩ : Stp)).1.list.length n1) (D.act (⟨K, O, N, M, DT⟩ : Stp)).1.list.length (bvs (D.act (⟨K, O, N, M, DT⟩ : Stp)).1.list) * vec 5 1 (.slice a2 (D.act (⟨K, O, N, M, DT⟩ : Stp)).1.list.length n2) (D.act (⟨K, O, N, M, DT⟩ : Stp)).1.list.length (bvs (D.act (⟨K, O, N, M, DT⟩ : Stp)).1.list) * dk ba (D.act (⟨K, O, N, M, DT⟩ : Stp)).2 * dk bb (D.act (⟨K, O, N, M, DT⟩ : Stp)).2 * blk b9 [.slice a1 (D.act (⟨K, O, N, M, DT⟩ : Stp)).1.list.length n1, .int .i64 (D.act (⟨K, O, N, M, DT⟩ : Stp)).1.num, .int .i64 ((D.act (⟨K, O, N, M, DT⟩ : Stp)).1.err : Int)] 87) (by ac_rfl); have hU8 := hu.perm (B := 1 * blk bw SC 72 * blk b9 [.slice a1 (D.act (⟨K, O, N, M, DT⟩ : Stp)).1.list.length n1, .int .i64 (D.act (⟨K, O, N, M, DT⟩ : Stp)).1.num, .int .i64 ((D.act (⟨K, O, N, M, DT⟩ : Stp)).1.err : Int)] 87 * vec 5 1 (.slice a1 (D.act (⟨K, O, N, M, DT⟩ : Stp)).1.list.length n1) (D.act (⟨K, O, N, M, DT⟩ : Stp)).1.list.length (bvs (D.act (⟨K, O, N, M, DT⟩ : Stp)).1.list) * vec 5 1 (.slice a2 (D.act (⟨K, O, N, M, DT⟩ : Stp)).1.list.length n2) (D.act (⟨K, O, N, M, DT⟩ : Stp)).1.list.length (bvs (D.act (⟨K, O, N, M, DT⟩ : Stp)).1.list) * dk ba (D.act (⟨K, O, N, M, DT⟩ : Stp)).2 * dk bb (D.act (⟨K, O, N, M, DT⟩ : Stp)).2 * blk bt [.int .i64 K, .int .i64 O, .int .i64 N, .int .i64 M, .string DT] 83) (by ac_rfl)) | (go_at_call 48; go_loud (refine (law12_same' (D.act (⟨K, O, N, M, DT⟩ : Stp)).1 a1 a2 n1 n2 hU8.rot5.rd hU8.rot4.rd hAl).mono ?_); rintro e v5 ⟨v, rfl, rfl, hq⟩))
      have hfin := ((hU9.then1 hq).perm (B := 1 * blk bw SC 72 * dk ba (D.act (⟨K, O, N, M, DT⟩ : Stp)).2 * dk bb (D.act (⟨K, O, N, M, DT⟩ : Stp)).2 * (blk bt [.int .i64 K, .int .i64 O, .int .i64 N, .int .i64 M, .string DT] 83 * vec 5 1 (.slice a1 (D.act (⟨K, O, N, M, DT⟩ : Stp)).1.list.length n1) (D.act (⟨K, O, N, M, DT⟩ : Stp)).1.list.length (bvs (D.act (⟨K, O, N, M, DT⟩ : Stp)).1.list) * vec 5 1 (.slice a2 (D.act (⟨K, O, N, M, DT⟩ : Stp)).1.list.length n2) (D.act (⟨K, O, N, M, DT⟩ : Stp)).1.list.length (bvs (D.act (⟨K, O, N, M, DT⟩ : Stp)).1.list) * blk b9 [.slice a1 (D.act (⟨K, O, N, M, DT⟩ : Stp)).1.list.length n1, .int .i64 (D.act (⟨K, O, N, M, DT⟩ : Stp)).1.num, .int .i64 ((D.act (⟨K, O, N, M, DT⟩ : Stp)).1.err : Int)] 87)) (by ac_rfl)).drop
      clear hU9 hU8 hu hT9 hT8
      go_wp2_with fail
      refine ⟨⟨k + 1, (D.act (⟨K, O, N, M, DT⟩ : Stp)).2, by omega, by go_num, hDo', by omega, hfin⟩, by simp [intOf]; omega⟩
    · have hkk : k = ss.length := by omega
      subst hkk
      have hAl := act_len hDo Stp.looks
      go_wp2_with fail
      refine law12_look.mono ?_
      rintro e v0 ⟨v, rfl, rfl, hx⟩
      have q0 := hS.then1 hx
      clear hx hS
      go_wp2_with fail
      refine (law12_act' HE.out hDo Stp.looks Stp.looks_ok (by omega) (F := 1 * blk bw SC 72 * dk bb D) (q0.perm (by ac_rfl))).mono ?_
      rintro e v1 ⟨v, rfl, a1, n1, _, rfl, hx⟩
      go_wp2_with fail
      refine law12_look.mono ?_
      rintro e v2 ⟨v, rfl, rfl, hy⟩
      have q2 := hx.then1 hy
      clear hx hy
      go_wp2_with fail
      refine (law12_act' HE.out hDo Stp.looks Stp.looks_ok (by omega) (F := 1 * blk bw SC 72 * dk ba (D.act Stp.looks).2 * vec 5 1 (.slice a1 (D.act Stp.looks).1.list.length n1) (D.act Stp.looks).1.list.length (bvs (D.act Stp.looks).1.list)) (q2.perm (by ac_rfl))).mono ?_
      rintro e v3 ⟨v, rfl, a2, n2, _, rfl, hx⟩
      go_wp2_with fail
      refine (law12_same' (D.act Stp.looks).1 a1 a2 n1 n2 hx.rot3.rd hx.rd hAl).mono ?_
      rintro e v4 ⟨v, rfl, rfl, hy⟩
      have q4 := hx.then1 hy
      have HD1 := Hid.mk' (disk_dead (q4.perm (B := 1 * blk bw SC 72 * vec 5 1 (.slice a1 (D.act Stp.looks).1.list.length n1) (D.act Stp.looks).1.list.length (bvs (D.act Stp.looks).1.list) * dk bb (D.act Stp.looks).2 * vec 5 1 (.slice a2 (D.act Stp.looks).1.list.length n2) (D.act Stp.looks).1.list.length (bvs (D.act Stp.looks).1.list) * dk ba (D.act Stp.looks).2) (by ac_rfl)))
      have HD2 := Hid.mk' (disk_dead (q4.perm (B := 1 * blk bw SC 72 * vec 5 1 (.slice a1 (D.act Stp.looks).1.list.length n1) (D.act Stp.looks).1.list.length (bvs (D.act Stp.looks).1.list) * dk ba (D.act Stp.looks).2 * vec 5 1 (.slice a2 (D.act Stp.looks).1.list.length n2) (D.act Stp.looks).1.list.length (bvs (D.act Stp.looks).1.list) * dk bb (D.act Stp.looks).2) (by ac_rfl)))
      have hbe : ((D.act Stp.looks).2.dead == (D.act Stp.looks).2.dead) = true := beq_self_eq_true _
      clear hx hy
      go_wp2_with (first | (go_at_call 53; refine HD1.out.mono ?_; rintro e v5 ⟨rfl, rfl⟩) | (go_at_call 53; refine HD2.out.mono ?_; rintro e v5 ⟨rfl, rfl⟩))
      go_ret
      exact Ret.mk ⟨rfl, (Sat.start w).ext q4.below⟩
end Go.Proofs.YtjhlelcopofkkaaDoor
