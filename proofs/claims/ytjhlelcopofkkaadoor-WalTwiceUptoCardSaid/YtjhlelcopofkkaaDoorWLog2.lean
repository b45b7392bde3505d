/- The program's log on a disk: a Put. -/
import Derived.Test.YtjhlelcopofkkaaDoorWLog
namespace Go.Proofs.YtjhlelcopofkkaaDoor
open Go.RowKit

/-- What a Put does, and what it answers. -/
def Lg.put (L : Lg) (D : Dk) (p : List UInt8) : Lg × Dk × Nat :=
  if 1 ≤ p.length ∧ p.length ≤ 8192 then
    if L.dead = true then (L, D, 10)
    else if (D.append (wframe p)).2 = 0 then
      (if (D.append (wframe p)).1.sync.2 = 0 then (⟨L.count + 1, L.size + (8 + p.length), false⟩, (D.append (wframe p)).1.sync.1, 0)
       else (⟨L.count, L.size, true⟩, (D.append (wframe p)).1.sync.1, 10))
    else (⟨L.count, L.size, (D.append (wframe p)).2 == 10⟩, (D.append (wframe p)).1, (D.append (wframe p)).2)
  else (L, D, 1)
theorem Dk.append_cases (D : Dk) (p : List UInt8) : (D.append p).2 = 0 ∨ (D.append p).2 = 9 ∨ (D.append p).2 = 10 := by
  unfold Dk.append
  rcases D.gate_cases (·.putp p) with h | h
  · rw [if_pos h]
    split
    · exact Or.inl rfl
    · exact Or.inr (Or.inl rfl)
  · rw [if_neg (by omega)]; exact Or.inr (Or.inr h)

set_option maxRecDepth 20000 in
set_option maxHeartbeats 6400000 in
theorem wal_put {w0 w : World} {F : HP} {b bl : Nat} {D : Dk} {L : Lg} {E : Nat → Addr} (hE : Errs w0 E) (hT : CrcTab w0) (hD : D.Ok) (hc1 : L.count < 9223372036854775807) (hc2 : L.size + 8200 ≤ 9223372036854775807) (p : List UInt8) (ao : Option Addr) (c : Nat) (hr : Rd w ao (bvs p)) (hs : Sat w0 w (F * lg bl b L * dk b D)) :
    Calls Tryd.prog 76 #[.pointer (some ⟨bl, 0, none⟩), .slice ao p.length c] w (Ret fun v w' => v = errv E (L.put D p).2.2 ∧ Sat w0 w' (F * lg bl b (L.put D p).1 * dk b (L.put D p).2.1)) := by
  have HE := Hid.mk' hE
  have HT := Hid.mk' hT
  have HR := Hid.mk' hr
  obtain ⟨n, s, d⟩ := L
  have hs : Sat w0 w (F * blk bl [.pointer (some ⟨b, 0, none⟩), .int .i64 n, .int .i64 s, .bool d] 188 * dk b D) := hs
  simp only at hc1 hc2
  by_cases hg : 1 ≤ p.length ∧ p.length ≤ 8192
  · have hwl := wframe_length p
    cases d with
    | true =>
      have HP := Hid.mk' (show Lg.put ⟨n, s, true⟩ D p = (⟨n, s, true⟩, D, 10) by unfold Lg.put; rw [if_pos hg, if_pos rfl])
      clear hE hT hr
      go_enter Tryd.func76, Tryd.ntmps76
      go_wp2_with (go_at_call 23; refine (wal_frame (HT.out.mono hs.below) p ao c HR.out hg.1 hg.2).mono ?_; rintro e w1 ⟨v, rfl, u, rfl, hx⟩; have hs1 := (hs.glue hx).drop; have k3 := hs1.swap.cell (i := 3) (v := .bool true) rfl; have c10 := (HE.out.of0 hs1).cell 10 (by omega) (by omega); simp only [gErr] at c10)
      go_ret
      exact Ret.mk ⟨by rw [HP.out]; rfl, by rw [HP.out]; exact hs1⟩
    | false =>
      have HP := Hid.mk' (show Lg.put ⟨n, s, false⟩ D p = if (D.append (wframe p)).2 = 0 then
        (if (D.append (wframe p)).1.sync.2 = 0 then (⟨n + 1, s + (8 + p.length), false⟩, (D.append (wframe p)).1.sync.1, 0)
         else (⟨n, s, true⟩, (D.append (wframe p)).1.sync.1, 10))
        else (⟨n, s, (D.append (wframe p)).2 == 10⟩, (D.append (wframe p)).1, (D.append (wframe p)).2) by unfold Lg.put; rw [if_pos hg, if_neg (show ¬ false = true by decide)])
      clear hE hT hr
      have hg2 := hg.2
      have HG := Hid.mk' hg
      clear hg
      go_enter Tryd.func76, Tryd.ntmps76
      go_wp2_with (go_at_call 23; refine (wal_frame (HT.out.mono hs.below) p ao c HR.out HG.out.1 HG.out.2).mono ?_; rintro e w1 ⟨v, rfl, u, rfl, hx⟩; have hs1 := hs.glue hx; obtain ⟨ua, uc, rfl, huc, _, hno⟩ := hs1.vec_rd; have k0 := hs1.rot3.cell (i := 0) (v := .pointer (some ⟨b, 0, none⟩)) rfl; have k3 := hs1.rot3.cell (i := 3) (v := .bool false) rfl)
      refine (show Calls Tryd.prog 45 #[.pointer (some ⟨b, 0, none⟩), .slice ua (8 + p.length) uc] w1 (Ret fun v w' => v = errv E (D.append (wframe p)).2 ∧ Sat w0 w' (F * blk bl [.pointer (some ⟨b, 0, none⟩), .int .i64 n, .int .i64 s, .bool false] 188 * vec 5 1 (.slice ua (8 + p.length) uc) (8 + p.length) (bvs (wframe p)) * dk b (D.append (wframe p)).1)) from by
        have := disk_append (F := F * blk bl [.pointer (some ⟨b, 0, none⟩), .int .i64 n, .int .i64 s, .bool false] 188 * vec 5 1 (.slice ua (8 + p.length) uc) (8 + p.length) (bvs (wframe p))) HE.out (wframe p) ua uc (by omega) (by rw [hwl]; exact hno) (by omega) (fun w' A h => h.swap.rd) hD hs1.swap
        rw [hwl] at this
        exact this).mono ?_
      rintro e w2 ⟨v, rfl, rfl, hs2⟩
      have hc := Dk.append_cases D (wframe p)
      have hRo := hD.append (wframe p)
      obtain ⟨R, hR⟩ : ∃ R, D.append (wframe p) = R := ⟨_, rfl⟩
      rw [hR] at hs2 HP hc hRo ⊢
      obtain ⟨R1, R2⟩ := R
      simp only at hs2 hc hRo
      clear hR hs1 hs k0 k3 hx
      rcases hc with rfl | rfl | rfl
      · rw [if_pos rfl] at HP
        simp only at HP
        have k0 := hs2.rot3.cell (i := 0) (v := .pointer (some ⟨b, 0, none⟩)) rfl
        simp only [errv]
        go_wp2_with fail
        refine (disk_sync HE.out hRo hs2).mono ?_
        rintro e w3 ⟨v, rfl, rfl, hs3⟩
        have hsc := Dk.sync_cases R1
        obtain ⟨S, hS⟩ : ∃ S, R1.sync = S := ⟨_, rfl⟩
        rw [hS] at hs3 hsc HP ⊢
        obtain ⟨S1, S2⟩ := S
        simp only at hs3 hsc HP
        clear hS hs2 k0
        rcases hsc with rfl | rfl
        · rw [if_pos rfl] at HP
          obtain ⟨n2, hn2⟩ : ∃ n2 : Int, ((n + 1 : Nat) : Int) = n2 := ⟨_, rfl⟩
          obtain ⟨s2, hs2⟩ : ∃ s2 : Int, ((s + (8 + p.length) : Nat) : Int) = s2 := ⟨_, rfl⟩
          have hw1 : IntKind.i64.wrap ((n : Int) + 1) = n2 := by rw [IntKind.wrap_i64]; omega
          have hw2 : IntKind.i64.wrap ((s : Int) + (8 + (p.length : Int))) = s2 := by rw [IntKind.wrap_i64]; omega
          have HN2 := Hid.mk' hn2
          have HS2 := Hid.mk' hs2
          clear hn2 hs2
          have hb := hs3.rot3
          have f1 := hb.free 1
          have f2 := hb.free 2
          have k1 := hb.cell (i := 1) (v := .int .i64 n) rfl
          have k2 := hb.cell (i := 2) (v := .int .i64 s) rfl
          simp only [errv]
          go_wp2_with fail
          go_ret
          refine Ret.mk ⟨by rw [HP.out]; rfl, ?_⟩
          rw [HP.out]
          refine (((hb.store 1 (.int .i64 n2)).store 2 (.int .i64 s2)).perm (B := F * lg bl b ⟨n + 1, s + (8 + p.length), false⟩ * dk b S1 * vec 5 1 (.slice ua (8 + p.length) uc) (8 + p.length) (bvs (wframe p))) ?_).drop
          unfold lg
          simp only [HN2.out, HS2.out, List.set_cons_succ, List.set_cons_zero]
          ac_rfl
        · rw [if_neg (show ¬ (10 : Nat) = 0 by decide)] at HP
          have HEE := HE.out.of0 hs3
          have c10 := HEE.cell 10 (by omega) (by omega)
          have e10 := HEE.eql 10 10 (by omega) (by omega) (by omega) (by omega)
          simp only [gErr] at c10
          simp only [decide_true] at e10
          have hb := hs3.rot3
          have f3 := hb.free 3
          have k3 := hb.cell (i := 3) (v := .bool false) rfl
          have k0 := hb.cell (i := 0) (v := .pointer (some ⟨b, 0, none⟩)) rfl
          clear HEE
          simp only [errv]
          go_wp2_with fail
          go_ret
          refine Ret.mk ⟨by rw [HP.out]; rfl, ?_⟩
          rw [HP.out]
          exact ((hb.store 3 (.bool true)).perm (B := F * lg bl b ⟨n, s, true⟩ * dk b (S1) * vec 5 1 (.slice ua (8 + p.length) uc) (8 + p.length) (bvs (wframe p))) (by unfold lg; simp only [List.set_cons_succ, List.set_cons_zero]; ac_rfl)).drop
      · rw [if_neg (show ¬ (9 : Nat) = 0 by decide)] at HP
        simp only [Nat.reduceBEq] at HP
        have HEE := HE.out.of0 hs2
        have c10 := HEE.cell 10 (by omega) (by omega)
        have e10 := HEE.eql 9 10 (by omega) (by omega) (by omega) (by omega)
        simp only [gErr] at c10
        simp only [Nat.reduceEqDiff, decide_false] at e10
        have hb := hs2.rot3
        have f3 := hb.free 3
        have k3 := hb.cell (i := 3) (v := .bool false) rfl
        have k0 := hb.cell (i := 0) (v := .pointer (some ⟨b, 0, none⟩)) rfl
        clear HEE
        simp only [errv]
        go_wp2_with fail
        go_ret
        refine Ret.mk ⟨by rw [HP.out]; rfl, ?_⟩
        rw [HP.out]
        exact ((hb.store 3 (.bool false)).perm (B := F * lg bl b ⟨n, s, false⟩ * dk b (R1) * vec 5 1 (.slice ua (8 + p.length) uc) (8 + p.length) (bvs (wframe p))) (by unfold lg; simp only [List.set_cons_succ, List.set_cons_zero]; ac_rfl)).drop
      · rw [if_neg (show ¬ (10 : Nat) = 0 by decide)] at HP
        simp only [Nat.reduceBEq] at HP
        have HEE := HE.out.of0 hs2
        have c10 := HEE.cell 10 (by omega) (by omega)
        have e10 := HEE.eql 10 10 (by omega) (by omega) (by omega) (by omega)
        simp only [gErr] at c10
        simp only [decide_true] at e10
        have hb := hs2.rot3
        have f3 := hb.free 3
        have k3 := hb.cell (i := 3) (v := .bool false) rfl
        have k0 := hb.cell (i := 0) (v := .pointer (some ⟨b, 0, none⟩)) rfl
        clear HEE
        simp only [errv]
        go_wp2_with fail
        go_ret
        refine Ret.mk ⟨by rw [HP.out]; rfl, ?_⟩
        rw [HP.out]
        exact ((hb.store 3 (.bool true)).perm (B := F * lg bl b ⟨n, s, true⟩ * dk b (R1) * vec 5 1 (.slice ua (8 + p.length) uc) (8 + p.length) (bvs (wframe p))) (by unfold lg; simp only [List.set_cons_succ, List.set_cons_zero]; ac_rfl)).drop
  · have HP := Hid.mk' (show Lg.put ⟨n, s, d⟩ D p = (⟨n, s, d⟩, D, 1) by unfold Lg.put; rw [if_neg hg])
    have c1 := (HE.out.of0 hs).cell 1 (by omega) (by omega)
    have HF := Hid.mk' (wal_frame_no (E := E) c1 p ao c hg)
    clear hE hT hr c1
    go_enter Tryd.func76, Tryd.ntmps76
    go_wp2_with (go_at_call 23; refine HF.out.mono ?_; rintro e w1 ⟨rfl, m, rfl⟩; simp only [errv])
    go_ret
    exact Ret.mk ⟨by rw [HP.out]; rfl, by rw [HP.out]; exact hs.drewN m⟩
end Go.Proofs.YtjhlelcopofkkaaDoor

