/- The document's log on a disk: its opening, a Put. -/
import Derived.Test.YtjhlelcopofkkaaDoorWLogs
namespace Go.Proofs.YtjhlelcopofkkaaDoor
open Go.RowKit

def rl (bl b : Nat) (L : Lg) : HP := blk bl [.pointer (some ⟨b, 0, none⟩), .bool L.dead, .int .i64 L.count, .int .i64 L.size] 191

set_option maxRecDepth 20000 in
set_option maxHeartbeats 6400000 in
theorem ref13_open {w0 w : World} {F : HP} {b : Nat} {D : Dk} (hm : D.arms.length < 8796093022207) (hD : D.Ok) (hl : D.bytes.length ≤ 16777216) (hs : Sat w0 w (F * rk b D)) :
    Calls Tryd.prog 79 #[.pointer (some ⟨b, 0, none⟩)] w (Ret fun v w' =>
      (D.wopen.2 = 0 ∧ ∃ bl u, v = .tuple #[.pointer (some ⟨bl, 0, none⟩), u, .int .i64 0] ∧ Sat w0 w' (F * rk b D.wopen.1 * rl bl b ⟨(frames D.bytes).length, size (frames D.bytes), false⟩ * vecs u (frames D.bytes)))
      ∨ (D.wopen.2 = 10 ∧ v = .tuple #[.pointer none, .slice none 0 0, .int .i64 10] ∧ Sat w0 w' (F * rk b D.wopen.1))) := by
  have HRA := Hid.mk' (ref12_readAll hD hs hm)
  have hgo : (D.gate id).1.Ok := hD.gate (fun _ h => h)
  rcases D.gate_cases id with hg | hg
  · have hgk := (Dk.gate_ok hg).1
    have HW := Hid.mk' (show D.wopen = if size (frames D.bytes) < D.bytes.length then (if (D.ticked.trunc (size (frames D.bytes))).2 = 0 then (D.ticked.trunc (size (frames D.bytes))).1.sync else D.ticked.trunc (size (frames D.bytes))) else D.ticked.sync by unfold Dk.wopen; rw [if_pos hg, hgk])
    rw [hgk] at hgo
    rw [hg, if_pos rfl, hgk] at HRA
    have HF := Hid.mk' (size_frames D.bytes)
    have hm1 : D.ticked.arms.length < 8796093022207 := by have := rest_len D; show D.rest.length < _; omega
    clear hs hg hgk
    go_enter Tryd.func79, Tryd.ntmps79
    go_wp2_with (go_at_call 111; refine HRA.out.mono ?_; clear HRA; rintro e w1 ⟨v, rfl, u, rfl, hs1⟩; have hs1 : Sat w0 w1 (F * rk b D.ticked * vec 5 1 u D.bytes.length (bvs D.bytes)) := hs1; obtain ⟨ua, uc, rfl, huc, hru, _⟩ := hs1.vec_rd)
    refine (ref13_scan D.bytes ua uc hru hl huc).mono ?_
    rintro e w2 ⟨v, rfl, fu, rfl, hx⟩
    have hs2 := hs1.glue hx
    clear hx hs1 hru
    obtain ⟨lo, lc, rfl, _, _, _⟩ := hs2.vecs_rd
    obtain ⟨z, hz⟩ : ∃ z, size (frames D.bytes) = z := ⟨_, rfl⟩
    have hzl : z ≤ D.bytes.length := hz ▸ HF.out
    have HZ := Hid.mk' hz
    rw [hz] at HW ⊢
    clear hz
    have hs2' := hs2.perm (B := F * vec 5 1 (.slice ua D.bytes.length uc) D.bytes.length (bvs D.bytes) * vecs (.slice lo (frames D.bytes).length lc) (frames D.bytes) * rk b D.ticked) (by ac_rfl)
    clear hs2
    by_cases hlt : z < D.bytes.length
    · rw [if_pos hlt] at HW
      have hto : (D.ticked.trunc z).1.Ok := hgo.trunc z
      have hm2 : (D.ticked.trunc z).1.arms.length < 8796093022207 := Nat.lt_of_le_of_lt (trunc_arms _ _) hm1
      have htc := Dk.trunc_cases (D := D.ticked) (n := z) hzl
      go_wp2_with fail
      refine (ref12_truncate hgo hs2' hm1 (z : Int)).mono ?_
      rintro e w3 ⟨v, rfl, rfl, hs3⟩
      obtain ⟨T, hT⟩ : ∃ T, D.ticked.trunc z = T := ⟨_, rfl⟩
      rw [hT] at hs3 hto htc HW hm2 ⊢
      obtain ⟨T1, T2⟩ := T
      simp only at hs3 hto htc HW hm2 ⊢
      clear hT hs2'
      rcases htc with rfl | rfl
      · rw [if_pos rfl] at HW
        go_wp2_with fail
        refine (ref12_sync hto hs3 hm2).mono ?_
        rintro e w4 ⟨v, rfl, rfl, hs4⟩
        have hsc := Dk.sync_cases (T1)
        obtain ⟨S, hS⟩ : ∃ S, (T1).sync = S := ⟨_, rfl⟩
        rw [hS] at hs4 hsc ⊢
        have HW2 := Hid.mk' (show D.wopen = S by rw [HW.out, hS])
        obtain ⟨S1, S2⟩ := S
        simp only at hsc hs4 ⊢
        clear hS hs3
        rcases hsc with rfl | rfl
        · have hs5 := hs4.new #[.pointer (some ⟨b, 0, none⟩), .bool false, .int .i64 (frames D.bytes).length, .int .i64 z] 191
          generalize hbl : w4.heap.size = bl at hs5
          go_wp2_with fail
          go_ret3
          refine Ret.mk (Or.inl ⟨by rw [HW2.out], bl, _, rfl, ?_⟩)
          rw [HW2.out, HZ.out]
          exact (hs5.perm (B := F * rk b S1 * rl bl b ⟨(frames D.bytes).length, z, false⟩ * vecs (.slice lo (frames D.bytes).length lc) (frames D.bytes) * vec 5 1 (.slice ua D.bytes.length uc) D.bytes.length (bvs D.bytes)) (by unfold rl; ac_rfl)).drop
        · go_wp2_with fail
          go_ret3
          refine Ret.mk (Or.inr ⟨by rw [HW2.out], rfl, ?_⟩)
          rw [HW2.out]
          exact hs4.swap.drop.swap.drop
      · have HW2 := Hid.mk' (show D.wopen = (T1, 10) from HW.out.trans (if_neg (show ¬ (10 : Nat) = 0 by decide)))
        go_wp2_with fail
        go_ret3
        refine Ret.mk (Or.inr ⟨by rw [HW2.out], rfl, ?_⟩)
        rw [HW2.out]
        exact hs3.swap.drop.swap.drop
    · rw [if_neg hlt] at HW
      have hs3 := hs2'
      clear hs2'
      go_wp2_with fail
      refine (ref12_sync hgo hs3 hm1).mono ?_
      rintro e w4 ⟨v, rfl, rfl, hs4⟩
      have hsc := Dk.sync_cases (D.ticked)
      obtain ⟨S, hS⟩ : ∃ S, (D.ticked).sync = S := ⟨_, rfl⟩
      rw [hS] at hs4 hsc ⊢
      have HW2 := Hid.mk' (show D.wopen = S by rw [HW.out, hS])
      obtain ⟨S1, S2⟩ := S
      simp only at hsc hs4 ⊢
      clear hS hs3
      rcases hsc with rfl | rfl
      · have hs5 := hs4.new #[.pointer (some ⟨b, 0, none⟩), .bool false, .int .i64 (frames D.bytes).length, .int .i64 z] 191
        generalize hbl : w4.heap.size = bl at hs5
        go_wp2_with fail
        go_ret3
        refine Ret.mk (Or.inl ⟨by rw [HW2.out], bl, _, rfl, ?_⟩)
        rw [HW2.out, HZ.out]
        exact (hs5.perm (B := F * rk b S1 * rl bl b ⟨(frames D.bytes).length, z, false⟩ * vecs (.slice lo (frames D.bytes).length lc) (frames D.bytes) * vec 5 1 (.slice ua D.bytes.length uc) D.bytes.length (bvs D.bytes)) (by unfold rl; ac_rfl)).drop
      · go_wp2_with fail
        go_ret3
        refine Ret.mk (Or.inr ⟨by rw [HW2.out], rfl, ?_⟩)
        rw [HW2.out]
        exact hs4.swap.drop.swap.drop
  · have HW := Hid.mk' (show D.wopen = D.gate id by unfold Dk.wopen; rw [if_neg (by omega)])
    obtain ⟨g, hgg⟩ : ∃ g, D.gate id = g := ⟨_, rfl⟩
    rw [hgg] at HRA HW hg
    obtain ⟨g1, g2⟩ := g
    obtain rfl : g2 = 10 := hg
    rw [if_neg (show ¬ (10 : Nat) = 0 by decide)] at HRA
    clear hs hgo hgg
    go_enter Tryd.func79, Tryd.ntmps79
    go_wp2_with (go_at_call 111; refine HRA.out.mono ?_; clear HRA; rintro e w1 ⟨v, rfl, u, rfl, hs1⟩)
    go_ret3
    refine Ret.mk (Or.inr ⟨by rw [HW.out], rfl, ?_⟩)
    rw [HW.out]
    exact hs1.drop

set_option maxRecDepth 20000 in
set_option maxHeartbeats 6400000 in
theorem ref13_put {w0 w : World} {F : HP} {b bl : Nat} {D : Dk} {L : Lg} (hm : D.arms.length < 8796093022207) (hD : D.Ok) (hc1 : L.count < 9223372036854775807) (hc2 : L.size + 8200 ≤ 9223372036854775807) (p : List UInt8) (ao : Option Addr) (c : Nat) (hr : Rd w ao (bvs p)) (hno0 : ao = none → p.length = 0 ∧ c = 0) (hs : Sat w0 w (F * rl bl b L * rk b D)) :
    Calls Tryd.prog 130 #[.pointer (some ⟨bl, 0, none⟩), .slice ao p.length c] w (Ret fun v w' => v = .int .i64 (L.put D p).2.2 ∧ Sat w0 w' (F * rl bl b (L.put D p).1 * rk b (L.put D p).2.1)) := by
  have HR := Hid.mk' hr
  obtain ⟨n, s, d⟩ := L
  have hs : Sat w0 w (F * blk bl [.pointer (some ⟨b, 0, none⟩), .bool d, .int .i64 n, .int .i64 s] 191 * rk b D) := hs
  simp only at hc1 hc2
  by_cases hg : 1 ≤ p.length ∧ p.length ≤ 8192
  · have hwl := wframe_length p
    cases d with
    | true =>
      have HP := Hid.mk' (show Lg.put ⟨n, s, true⟩ D p = (⟨n, s, true⟩, D, 10) by unfold Lg.put; rw [if_pos hg, if_pos rfl])
      clear hr
      go_enter Tryd.func130, Tryd.ntmps130
      go_wp2_with (go_at_call 24; refine (ref13_frame p ao c HR.out hno0 hg.1 hg.2).mono ?_; rintro e w1 ⟨v, rfl, u, rfl, hx⟩; have hs1 := (hs.glue hx).drop; have k3 := hs1.swap.cell (i := 1) (v := .bool true) rfl)
      go_ret
      exact Ret.mk ⟨by rw [HP.out]; rfl, by rw [HP.out]; exact hs1⟩
    | false =>
      have HP := Hid.mk' (show Lg.put ⟨n, s, false⟩ D p = if (D.append (wframe p)).2 = 0 then
        (if (D.append (wframe p)).1.sync.2 = 0 then (⟨n + 1, s + (8 + p.length), false⟩, (D.append (wframe p)).1.sync.1, 0)
         else (⟨n, s, true⟩, (D.append (wframe p)).1.sync.1, 10))
        else (⟨n, s, (D.append (wframe p)).2 == 10⟩, (D.append (wframe p)).1, (D.append (wframe p)).2) by unfold Lg.put; rw [if_pos hg, if_neg (show ¬ false = true by decide)])
      clear hr
      have hg2 := hg.2
      have HG := Hid.mk' hg
      clear hg
      go_enter Tryd.func130, Tryd.ntmps130
      go_wp2_with (go_at_call 24; refine (ref13_frame p ao c HR.out hno0 HG.out.1 HG.out.2).mono ?_; rintro e w1 ⟨v, rfl, u, rfl, hx⟩; have hs1 := hs.glue hx; obtain ⟨ua, uc, rfl, huc, _, hno⟩ := hs1.vec_rd; have k0 := hs1.rot3.cell (i := 0) (v := .pointer (some ⟨b, 0, none⟩)) rfl; have k3 := hs1.rot3.cell (i := 1) (v := .bool false) rfl)
      refine (show Calls Tryd.prog 46 #[.pointer (some ⟨b, 0, none⟩), .slice ua (8 + p.length) uc] w1 (Ret fun v w' => v = .int .i64 (D.append (wframe p)).2 ∧ Sat w0 w' (F * blk bl [.pointer (some ⟨b, 0, none⟩), .bool false, .int .i64 n, .int .i64 s] 191 * vec 5 1 (.slice ua (8 + p.length) uc) (8 + p.length) (bvs (wframe p)) * rk b (D.append (wframe p)).1)) from by
        have := ref12_append (F := F * blk bl [.pointer (some ⟨b, 0, none⟩), .bool false, .int .i64 n, .int .i64 s] 191 * vec 5 1 (.slice ua (8 + p.length) uc) (8 + p.length) (bvs (wframe p))) (wframe p) ua uc (by rw [hwl]; exact hno) (by omega) (fun w' A h => h.swap.rd) hD hs1.swap hm
        rw [hwl] at this
        exact this).mono ?_
      rintro e w2 ⟨v, rfl, rfl, hs2⟩
      have hc := Dk.append_cases D (wframe p)
      have hRo := hD.append (wframe p)
      have hm1 : (D.append (wframe p)).1.arms.length < 8796093022207 := Nat.lt_of_le_of_lt (append_arms _ _) hm
      obtain ⟨R, hR⟩ : ∃ R, D.append (wframe p) = R := ⟨_, rfl⟩
      rw [hR] at hs2 HP hc hRo hm1 ⊢
      obtain ⟨R1, R2⟩ := R
      simp only at hs2 hc hRo hm1
      clear hR hs1 hs k0 k3 hx
      rcases hc with rfl | rfl | rfl
      · rw [if_pos rfl] at HP
        simp only at HP
        have k0 := hs2.rot3.cell (i := 0) (v := .pointer (some ⟨b, 0, none⟩)) rfl
        go_wp2_with fail
        refine (ref12_sync hRo hs2 hm1).mono ?_
        rintro e w3 ⟨v, rfl, rfl, hs3⟩
        have hsc := Dk.sync_cases R1
        obtain ⟨S, hS⟩ : ∃ S, R1.sync = S := ⟨_, rfl⟩
        rw [hS] at hs3 hsc HP ⊢
        obtain ⟨S1, S2⟩ := S
        simp only at hs3 hsc HP
        clear hS hs2 k0
        rcases hsc with rfl | rfl
        · rw [if_pos rfl] at HP
          obtain ⟨n2, hn2⟩ : ∃ n2 : Int, ((n + 1 : Nat) : Int) = n2 := ⟨_, rfl⟩
          obtain ⟨s2, hs2⟩ : ∃ s2 : Int, ((s + (8 + p.length) : Nat) : Int) = s2 := ⟨_, rfl⟩
          have hw1 : IntKind.i64.wrap ((n : Int) + 1) = n2 := by rw [IntKind.wrap_i64]; omega
          have hw2 : IntKind.i64.wrap ((s : Int) + (8 + (p.length : Int))) = s2 := by rw [IntKind.wrap_i64]; omega
          have HN2 := Hid.mk' hn2
          have HS2 := Hid.mk' hs2
          clear hn2 hs2
          have hb := hs3.rot3
          have f1 := hb.free 2
          have f2 := hb.free 3
          have k1 := hb.cell (i := 2) (v := .int .i64 n) rfl
          have k2 := hb.cell (i := 3) (v := .int .i64 s) rfl
          go_wp2_with fail
          go_ret
          refine Ret.mk ⟨by rw [HP.out]; rfl, ?_⟩
          rw [HP.out]
          refine (((hb.store 2 (.int .i64 n2)).store 3 (.int .i64 s2)).perm (B := F * rl bl b ⟨n + 1, s + (8 + p.length), false⟩ * rk b S1 * vec 5 1 (.slice ua (8 + p.length) uc) (8 + p.length) (bvs (wframe p))) ?_).drop
          unfold rl
          simp only [HN2.out, HS2.out, List.set_cons_succ, List.set_cons_zero]
          ac_rfl
        · rw [if_neg (show ¬ (10 : Nat) = 0 by decide)] at HP
          have hb := hs3.rot3
          have f3 := hb.free 1
          have k3 := hb.cell (i := 1) (v := .bool false) rfl
          have k0 := hb.cell (i := 0) (v := .pointer (some ⟨b, 0, none⟩)) rfl
          go_wp2_with fail
          go_ret
          refine Ret.mk ⟨by rw [HP.out]; rfl, ?_⟩
          rw [HP.out]
          exact ((hb.store 1 (.bool true)).perm (B := F * rl bl b ⟨n, s, true⟩ * rk b (S1) * vec 5 1 (.slice ua (8 + p.length) uc) (8 + p.length) (bvs (wframe p))) (by unfold rl; simp only [List.set_cons_succ, List.set_cons_zero]; ac_rfl)).drop
      · rw [if_neg (show ¬ (9 : Nat) = 0 by decide)] at HP
        simp only [Nat.reduceBEq] at HP
        have hb := hs2.rot3
        have f3 := hb.free 1
        have k3 := hb.cell (i := 1) (v := .bool false) rfl
        have k0 := hb.cell (i := 0) (v := .pointer (some ⟨b, 0, none⟩)) rfl
        go_wp2_with fail
        go_ret
        refine Ret.mk ⟨by rw [HP.out]; rfl, ?_⟩
        rw [HP.out]
        exact ((hb.store 1 (.bool false)).perm (B := F * rl bl b ⟨n, s, false⟩ * rk b (R1) * vec 5 1 (.slice ua (8 + p.length) uc) (8 + p.length) (bvs (wframe p))) (by unfold rl; simp only [List.set_cons_succ, List.set_cons_zero]; ac_rfl)).drop
      · rw [if_neg (show ¬ (10 : Nat) = 0 by decide)] at HP
        simp only [Nat.reduceBEq] at HP
        have hb := hs2.rot3
        have f3 := hb.free 1
        have k3 := hb.cell (i := 1) (v := .bool false) rfl
        have k0 := hb.cell (i := 0) (v := .pointer (some ⟨b, 0, none⟩)) rfl
        go_wp2_with fail
        go_ret
        refine Ret.mk ⟨by rw [HP.out]; rfl, ?_⟩
        rw [HP.out]
        exact ((hb.store 1 (.bool true)).perm (B := F * rl bl b ⟨n, s, true⟩ * rk b (R1) * vec 5 1 (.slice ua (8 + p.length) uc) (8 + p.length) (bvs (wframe p))) (by unfold rl; simp only [List.set_cons_succ, List.set_cons_zero]; ac_rfl)).drop
  · have HP := Hid.mk' (show Lg.put ⟨n, s, d⟩ D p = (⟨n, s, d⟩, D, 1) by unfold Lg.put; rw [if_neg hg])
    have HF := Hid.mk' (ref13_frame_no (w := w) p ao c hg)
    clear hr
    go_enter Tryd.func130, Tryd.ntmps130
    go_wp2_with (go_at_call 24; refine HF.out.mono ?_; rintro e w1 ⟨rfl, rfl⟩)
    go_ret
    exact Ret.mk ⟨by rw [HP.out]; rfl, by rw [HP.out]; exact hs⟩

theorem ref13_count {w0 w : World} {F : HP} {bl b : Nat} {L : Lg} (hs : Sat w0 w (F * rl bl b L)) : Calls Tryd.prog 81 #[.pointer (some ⟨bl, 0, none⟩)] w (Same (.int .i64 L.count) w) := by
  have k1 := Sat.cell (i := 2) (v := .int .i64 L.count) hs rfl
  clear hs
  go_enter Tryd.func81, Tryd.ntmps81
  go_wp2_with fail
  go_ret
  exact ⟨rfl, rfl⟩
theorem ref13_size {w0 w : World} {F : HP} {bl b : Nat} {L : Lg} (hs : Sat w0 w (F * rl bl b L)) : Calls Tryd.prog 82 #[.pointer (some ⟨bl, 0, none⟩)] w (Same (.int .i64 L.size) w) := by
  have k1 := Sat.cell (i := 3) (v := .int .i64 L.size) hs rfl
  clear hs
  go_enter Tryd.func82, Tryd.ntmps82
  go_wp2_with fail
  go_ret
  exact ⟨rfl, rfl⟩
end Go.Proofs.YtjhlelcopofkkaaDoor
