/- The program's log on a disk: its opening. · The program's log on a disk: a Put. -/
import Derived.Test.YtjhlelcopofkkaaDoorDLaw
import Derived.Test.YtjhlelcopofkkaaDoorScan

/-! WLog -/
namespace Go.Proofs.YtjhlelcopofkkaaDoor
open Go.RowKit

/-- What an opened log holds. -/
structure Lg where
  count : Nat
  size : Nat
  dead : Bool
def lg (bl b : Nat) (L : Lg) : HP := blk bl [.pointer (some ⟨b, 0, none⟩), .int .i64 L.count, .int .i64 L.size, .bool L.dead] 188

namespace Dk
/-- What an opening does to the disk, and what it answers. -/
def wopen (D : Dk) : Dk × Nat :=
  if (D.gate id).2 = 0 then
    if size (frames D.bytes) < D.bytes.length then
      if ((D.gate id).1.trunc (size (frames D.bytes))).2 = 0 then ((D.gate id).1.trunc (size (frames D.bytes))).1.sync else (D.gate id).1.trunc (size (frames D.bytes))
    else (D.gate id).1.sync
  else D.gate id
theorem gate_ok {D : Dk} (h : (D.gate id).2 = 0) : (D.gate id).1 = D.ticked ∧ D.dead = false := by
  cases hd : D.dead with
  | true => rw [gate_dead hd] at h; exact absurd h (show ¬ (10 : Nat) = 0 by decide)
  | false =>
    cases hk : D.diesB with
    | true => rw [gate_dies hd hk] at h; exact absurd h (show ¬ (10 : Nat) = 0 by decide)
    | false => rw [gate_lives hd hk]; exact ⟨rfl, rfl⟩
theorem sync_cases (D : Dk) : D.sync.2 = 0 ∨ D.sync.2 = 10 := by
  unfold sync
  rcases D.gate_cases id with h | h
  · rw [if_pos h]; exact Or.inl rfl
  · rw [if_neg (by omega)]; exact Or.inr h
theorem trunc_cases {D : Dk} {n : Nat} (hn : n ≤ D.bytes.length) : (D.trunc n).2 = 0 ∨ (D.trunc n).2 = 10 := by
  unfold trunc
  rw [if_neg (by omega)]
  rcases D.gate_cases id with h | h
  · rw [if_pos h]; exact Or.inl rfl
  · rw [if_neg (by omega)]; exact Or.inr h
theorem wopen_cases (D : Dk) : D.wopen.2 = 0 ∨ D.wopen.2 = 10 := by
  unfold wopen
  rcases D.gate_cases id with h | h
  · rw [if_pos h]
    have hg := (gate_ok h).1
    split
    · rename_i hlt
      have ht := trunc_cases (D := (D.gate id).1) (n := size (frames D.bytes)) (by rw [hg]; show _ ≤ D.bytes.length; omega)
      rcases ht with h2 | h2
      · rw [if_pos h2]; exact sync_cases _
      · rw [if_neg (by omega)]; exact Or.inr h2
    · exact sync_cases _
  · rw [if_neg (by omega)]; exact Or.inr h
end Dk

set_option maxRecDepth 20000 in
set_option maxHeartbeats 6400000 in
theorem wal_open {w0 w : World} {F : HP} {b : Nat} {D : Dk} {E : Nat → Addr} (hE1 : ErrAt w0 E 1) (hE : ErrAt w0 E 10) (hT : CrcTab w0) (hD : D.Ok) (hl : D.bytes.length ≤ 16777216) (hs : Sat w0 w (F * dk b D)) :
    Calls Tryd.prog 71 #[.pointer (some ⟨b, 0, none⟩)] w (Ret fun v w' =>
      (D.wopen.2 = 0 ∧ ∃ bl u, v = .tuple #[.pointer (some ⟨bl, 0, none⟩), u, .nilIface] ∧ Sat w0 w' (F * dk b D.wopen.1 * lg bl b ⟨(frames D.bytes).length, size (frames D.bytes), false⟩ * vecs u (frames D.bytes)))
      ∨ (D.wopen.2 = 10 ∧ v = .tuple #[.pointer none, .slice none 0 0, errv E 10] ∧ Sat w0 w' (F * dk b D.wopen.1))) := by
  have HE1 := Hid.mk' hE1
  have HE := Hid.mk' hE
  have HT := Hid.mk' hT
  have HRA := Hid.mk' (disk_readAll' hE hD hs)
  have hgo : (D.gate id).1.Ok := hD.gate (fun _ h => h)
  rcases D.gate_cases id with hg | hg
  · have hgk := (Dk.gate_ok hg).1
    have HW := Hid.mk' (show D.wopen = if size (frames D.bytes) < D.bytes.length then (if (D.ticked.trunc (size (frames D.bytes))).2 = 0 then (D.ticked.trunc (size (frames D.bytes))).1.sync else D.ticked.trunc (size (frames D.bytes))) else D.ticked.sync by unfold Dk.wopen; rw [if_pos hg, hgk])
    rw [hgk] at hgo
    rw [hg, if_pos rfl, hgk] at HRA
    have HF := Hid.mk' (size_frames D.bytes)
    clear hE hE1 hT hs hg hgk
    go_enter Tryd.func71, Tryd.ntmps71
    go_wp2_with (go_at_call 108; refine HRA.out.mono ?_; clear HRA; rintro e w1 ⟨v, rfl, u, rfl, hs1⟩; have hs1 : Sat w0 w1 (F * dk b D.ticked * vec 5 1 u D.bytes.length (bvs D.bytes)) := hs1; obtain ⟨ua, uc, rfl, huc, hru, _⟩ := hs1.vec_rd; simp only [errv])
    refine (wal_scan (HT.out.mono hs1.below) D.bytes ua uc hru huc hl).mono ?_
    rintro e w2 ⟨v, rfl, fu, rfl, hx⟩
    have hs2 := hs1.glue hx
    clear hx hs1 hru
    obtain ⟨lo, lc, rfl, _, _, _⟩ := hs2.vecs_rd
    obtain ⟨z, hz⟩ : ∃ z, size (frames D.bytes) = z := ⟨_, rfl⟩
    have hzl : z ≤ D.bytes.length := hz ▸ HF.out
    have HZ := Hid.mk' hz
    rw [hz] at HW ⊢
    clear hz
    have hs2' := hs2.perm (B := F * vec 5 1 (.slice ua D.bytes.length uc) D.bytes.length (bvs D.bytes) * vecs (.slice lo (frames D.bytes).length lc) (frames D.bytes) * dk b D.ticked) (by ac_rfl)
    clear hs2
    by_cases hlt : z < D.bytes.length
    · rw [if_pos hlt] at HW
      have hto : (D.ticked.trunc z).1.Ok := hgo.trunc z
      have htc := Dk.trunc_cases (D := D.ticked) (n := z) hzl
      go_wp2_with fail
      refine (disk_truncate' HE1.out HE.out hgo hs2' (z : Int)).mono ?_
      rintro e w3 ⟨v, rfl, rfl, hs3⟩
      obtain ⟨T, hT⟩ : ∃ T, D.ticked.trunc z = T := ⟨_, rfl⟩
      rw [hT] at hs3 hto htc HW ⊢
      obtain ⟨T1, T2⟩ := T
      simp only at hs3 hto htc HW ⊢
      clear hT hs2'
      rcases htc with rfl | rfl
      · rw [if_pos rfl] at HW
        simp only [errv]
        go_wp2_with fail
        refine (disk_sync' HE.out hto hs3).mono ?_
        rintro e w4 ⟨v, rfl, rfl, hs4⟩
        have hsc := Dk.sync_cases (T1)
        obtain ⟨S, hS⟩ : ∃ S, (T1).sync = S := ⟨_, rfl⟩
        rw [hS] at hs4 hsc ⊢
        have HW2 := Hid.mk' (show D.wopen = S by rw [HW.out, hS])
        obtain ⟨S1, S2⟩ := S
        simp only at hsc hs4 ⊢
        clear hS hs3
        rcases hsc with rfl | rfl
        · have hs5 := hs4.new #[.pointer (some ⟨b, 0, none⟩), .int .i64 (frames D.bytes).length, .int .i64 z, .bool false] 188
          generalize hbl : w4.heap.size = bl at hs5
          simp only [errv]
          go_wp2_with fail
          go_ret3
          refine Ret.mk (Or.inl ⟨by rw [HW2.out], bl, _, rfl, ?_⟩)
          rw [HW2.out, HZ.out]
          exact (hs5.perm (B := F * dk b S1 * lg bl b ⟨(frames D.bytes).length, z, false⟩ * vecs (.slice lo (frames D.bytes).length lc) (frames D.bytes) * vec 5 1 (.slice ua D.bytes.length uc) D.bytes.length (bvs D.bytes)) (by unfold lg; ac_rfl)).drop
        · simp only [errv]
          go_wp2_with fail
          go_ret3
          refine Ret.mk (Or.inr ⟨by rw [HW2.out], rfl, ?_⟩)
          rw [HW2.out]
          exact hs4.swap.drop.swap.drop
      · have HW2 := Hid.mk' (show D.wopen = (T1, 10) from HW.out.trans (if_neg (show ¬ (10 : Nat) = 0 by decide)))
        simp only [errv]
        go_wp2_with fail
        go_ret3
        refine Ret.mk (Or.inr ⟨by rw [HW2.out], rfl, ?_⟩)
        rw [HW2.out]
        exact hs3.swap.drop.swap.drop
    · rw [if_neg hlt] at HW
      have hs3 := hs2'
      clear hs2'
      go_wp2_with fail
      refine (disk_sync' HE.out hgo hs3).mono ?_
      rintro e w4 ⟨v, rfl, rfl, hs4⟩
      have hsc := Dk.sync_cases (D.ticked)
      obtain ⟨S, hS⟩ : ∃ S, (D.ticked).sync = S := ⟨_, rfl⟩
      rw [hS] at hs4 hsc ⊢
      have HW2 := Hid.mk' (show D.wopen = S by rw [HW.out, hS])
      obtain ⟨S1, S2⟩ := S
      simp only at hsc hs4 ⊢
      clear hS hs3
      rcases hsc with rfl | rfl
      · have hs5 := hs4.new #[.pointer (some ⟨b, 0, none⟩), .int .i64 (frames D.bytes).length, .int .i64 z, .bool false] 188
        generalize hbl : w4.heap.size = bl at hs5
        simp only [errv]
        go_wp2_with fail
        go_ret3
        refine Ret.mk (Or.inl ⟨by rw [HW2.out], bl, _, rfl, ?_⟩)
        rw [HW2.out, HZ.out]
        exact (hs5.perm (B := F * dk b S1 * lg bl b ⟨(frames D.bytes).length, z, false⟩ * vecs (.slice lo (frames D.bytes).length lc) (frames D.bytes) * vec 5 1 (.slice ua D.bytes.length uc) D.bytes.length (bvs D.bytes)) (by unfold lg; ac_rfl)).drop
      · simp only [errv]
        go_wp2_with fail
        go_ret3
        refine Ret.mk (Or.inr ⟨by rw [HW2.out], rfl, ?_⟩)
        rw [HW2.out]
        exact hs4.swap.drop.swap.drop
  · have HW := Hid.mk' (show D.wopen = D.gate id by unfold Dk.wopen; rw [if_neg (by omega)])
    obtain ⟨g, hgg⟩ : ∃ g, D.gate id = g := ⟨_, rfl⟩
    rw [hgg] at HRA HW hg
    obtain ⟨g1, g2⟩ := g
    obtain rfl : g2 = 10 := hg
    rw [if_neg (show ¬ (10 : Nat) = 0 by decide)] at HRA
    clear hE hE1 hT hs hgo hgg
    go_enter Tryd.func71, Tryd.ntmps71
    go_wp2_with (go_at_call 108; refine HRA.out.mono ?_; clear HRA; rintro e w1 ⟨v, rfl, u, rfl, hs1⟩; simp only [errv])
    go_ret3
    refine Ret.mk (Or.inr ⟨by rw [HW.out], rfl, ?_⟩)
    rw [HW.out]
    exact hs1.drop
end Go.Proofs.YtjhlelcopofkkaaDoor

/-! WLog2 -/
namespace Go.Proofs.YtjhlelcopofkkaaDoor
open Go.RowKit

/-- What a Put does, and what it answers. -/
def Lg.put (L : Lg) (D : Dk) (p : List UInt8) : Lg × Dk × Nat :=
  if 1 ≤ p.length ∧ p.length ≤ 8192 then
    if L.dead = true then (L, D, 10)
    else if (D.append (wframe p)).2 = 0 then
      (if (D.append (wframe p)).1.sync.2 = 0 then (⟨L.count + 1, L.size + (8 + p.length), false⟩, (D.append (wframe p)).1.sync.1, 0)
       else (⟨L.count, L.size, true⟩, (D.append (wframe p)).1.sync.1, 10))
    else (⟨L.count, L.size, (D.append (wframe p)).2 == 10⟩, (D.append (wframe p)).1, (D.append (wframe p)).2)
  else (L, D, 1)
theorem Dk.append_cases (D : Dk) (p : List UInt8) : (D.append p).2 = 0 ∨ (D.append p).2 = 9 ∨ (D.append p).2 = 10 := by
  unfold Dk.append
  rcases D.gate_cases (·.putp p) with h | h
  · rw [if_pos h]
    split
    · exact Or.inl rfl
    · exact Or.inr (Or.inl rfl)
  · rw [if_neg (by omega)]; exact Or.inr (Or.inr h)

set_option maxRecDepth 20000 in
set_option maxHeartbeats 6400000 in
theorem wal_put {w0 w : World} {F : HP} {b bl : Nat} {D : Dk} {L : Lg} {E : Nat → Addr} (hE : Errs w0 E) (hT : CrcTab w0) (hD : D.Ok) (hc1 : L.count < 9223372036854775807) (hc2 : L.size + 8200 ≤ 9223372036854775807) (p : List UInt8) (ao : Option Addr) (c : Nat) (hr : Rd w ao (bvs p)) (hs : Sat w0 w (F * lg bl b L * dk b D)) :
    Calls Tryd.prog 76 #[.pointer (some ⟨bl, 0, none⟩), .slice ao p.length c] w (Ret fun v w' => v = errv E (L.put D p).2.2 ∧ Sat w0 w' (F * lg bl b (L.put D p).1 * dk b (L.put D p).2.1)) := by
  have HE := Hid.mk' hE
  have HT := Hid.mk' hT
  have HR := Hid.mk' hr
  obtain ⟨n, s, d⟩ := L
  have hs : Sat w0 w (F * blk bl [.pointer (some ⟨b, 0, none⟩), .int .i64 n, .int .i64 s, .bool d] 188 * dk b D) := hs
  simp only at hc1 hc2
  by_cases hg : 1 ≤ p.length ∧ p.length ≤ 8192
  · have hwl := wframe_length p
    cases d with
    | true =>
      have HP := Hid.mk' (show Lg.put ⟨n, s, true⟩ D p = (⟨n, s, true⟩, D, 10) by unfold Lg.put; rw [if_pos hg, if_pos rfl])
      clear hE hT hr
      go_enter Tryd.func76, Tryd.ntmps76
      go_wp2_with (go_at_call 23; refine (wal_frame (HT.out.mono hs.below) p ao c HR.out hg.1 hg.2).mono ?_; rintro e w1 ⟨v, rfl, u, rfl, hx⟩; have hs1 := (hs.glue hx).drop; have k3 := hs1.swap.cell (i := 3) (v := .bool true) rfl; have c10 := (HE.out.of0 hs1).cell 10 (by omega) (by omega); simp only [gErr] at c10)
      go_ret
      exact Ret.mk ⟨by rw [HP.out]; rfl, by rw [HP.out]; exact hs1⟩
    | false =>
      have HP := Hid.mk' (show Lg.put ⟨n, s, false⟩ D p = if (D.append (wframe p)).2 = 0 then
        (if (D.append (wframe p)).1.sync.2 = 0 then (⟨n + 1, s + (8 + p.length), false⟩, (D.append (wframe p)).1.sync.1, 0)
         else (⟨n, s, true⟩, (D.append (wframe p)).1.sync.1, 10))
        else (⟨n, s, (D.append (wframe p)).2 == 10⟩, (D.append (wframe p)).1, (D.append (wframe p)).2) by unfold Lg.put; rw [if_pos hg, if_neg (show ¬ false = true by decide)])
      clear hE hT hr
      have hg2 := hg.2
      have HG := Hid.mk' hg
      clear hg
      go_enter Tryd.func76, Tryd.ntmps76
      go_wp2_with (go_at_call 23; refine (wal_frame (HT.out.mono hs.below) p ao c HR.out HG.out.1 HG.out.2).mono ?_; rintro e w1 ⟨v, rfl, u, rfl, hx⟩; have hs1 := hs.glue hx; obtain ⟨ua, uc, rfl, huc, _, hno⟩ := hs1.vec_rd; have k0 := hs1.rot3.cell (i := 0) (v := .pointer (some ⟨b, 0, none⟩)) rfl; have k3 := hs1.rot3.cell (i := 3) (v := .bool false) rfl)
      refine (show Calls Tryd.prog 45 #[.pointer (some ⟨b, 0, none⟩), .slice ua (8 + p.length) uc] w1 (Ret fun v w' => v = errv E (D.append (wframe p)).2 ∧ Sat w0 w' (F * blk bl [.pointer (some ⟨b, 0, none⟩), .int .i64 n, .int .i64 s, .bool false] 188 * vec 5 1 (.slice ua (8 + p.length) uc) (8 + p.length) (bvs (wframe p)) * dk b (D.append (wframe p)).1)) from by
        have := disk_append (F := F * blk bl [.pointer (some ⟨b, 0, none⟩), .int .i64 n, .int .i64 s, .bool false] 188 * vec 5 1 (.slice ua (8 + p.length) uc) (8 + p.length) (bvs (wframe p))) HE.out (wframe p) ua uc (by omega) (by rw [hwl]; exact hno) (by omega) (fun w' A h => h.swap.rd) hD hs1.swap
        rw [hwl] at this
        exact this).mono ?_
      rintro e w2 ⟨v, rfl, rfl, hs2⟩
      have hc := Dk.append_cases D (wframe p)
      have hRo := hD.append (wframe p)
      obtain ⟨R, hR⟩ : ∃ R, D.append (wframe p) = R := ⟨_, rfl⟩
      rw [hR] at hs2 HP hc hRo ⊢
      obtain ⟨R1, R2⟩ := R
      simp only at hs2 hc hRo
      clear hR hs1 hs k0 k3 hx
      rcases hc with rfl | rfl | rfl
      · rw [if_pos rfl] at HP
        simp only at HP
        have k0 := hs2.rot3.cell (i := 0) (v := .pointer (some ⟨b, 0, none⟩)) rfl
        simp only [errv]
        go_wp2_with fail
        refine (disk_sync HE.out hRo hs2).mono ?_
        rintro e w3 ⟨v, rfl, rfl, hs3⟩
        have hsc := Dk.sync_cases R1
        obtain ⟨S, hS⟩ : ∃ S, R1.sync = S := ⟨_, rfl⟩
        rw [hS] at hs3 hsc HP ⊢
        obtain ⟨S1, S2⟩ := S
        simp only at hs3 hsc HP
        clear hS hs2 k0
        rcases hsc with rfl | rfl
        · rw [if_pos rfl] at HP
          obtain ⟨n2, hn2⟩ : ∃ n2 : Int, ((n + 1 : Nat) : Int) = n2 := ⟨_, rfl⟩
          obtain ⟨s2, hs2⟩ : ∃ s2 : Int, ((s + (8 + p.length) : Nat) : Int) = s2 := ⟨_, rfl⟩
          have hw1 : IntKind.i64.wrap ((n : Int) + 1) = n2 := by rw [IntKind.wrap_i64]; omega
          have hw2 : IntKind.i64.wrap ((s : Int) + (8 + (p.length : Int))) = s2 := by rw [IntKind.wrap_i64]; omega
          have HN2 := Hid.mk' hn2
          have HS2 := Hid.mk' hs2
          clear hn2 hs2
          have hb := hs3.rot3
          have f1 := hb.free 1
          have f2 := hb.free 2
          have k1 := hb.cell (i := 1) (v := .int .i64 n) rfl
          have k2 := hb.cell (i := 2) (v := .int .i64 s) rfl
          simp only [errv]
          go_wp2_with fail
          go_ret
          refine Ret.mk ⟨by rw [HP.out]; rfl, ?_⟩
          rw [HP.out]
          refine (((hb.store 1 (.int .i64 n2)).store 2 (.int .i64 s2)).perm (B := F * lg bl b ⟨n + 1, s + (8 + p.length), false⟩ * dk b S1 * vec 5 1 (.slice ua (8 + p.length) uc) (8 + p.length) (bvs (wframe p))) ?_).drop
          unfold lg
          simp only [HN2.out, HS2.out, List.set_cons_succ, List.set_cons_zero]
          ac_rfl
        · rw [if_neg (show ¬ (10 : Nat) = 0 by decide)] at HP
          have HEE := HE.out.of0 hs3
          have c10 := HEE.cell 10 (by omega) (by omega)
          have e10 := HEE.eql 10 10 (by omega) (by omega) (by omega) (by omega)
          simp only [gErr] at c10
          simp only [decide_true] at e10
          have hb := hs3.rot3
          have f3 := hb.free 3
          have k3 := hb.cell (i := 3) (v := .bool false) rfl
          have k0 := hb.cell (i := 0) (v := .pointer (some ⟨b, 0, none⟩)) rfl
          clear HEE
          simp only [errv]
          go_wp2_with fail
          go_ret
          refine Ret.mk ⟨by rw [HP.out]; rfl, ?_⟩
          rw [HP.out]
          exact ((hb.store 3 (.bool true)).perm (B := F * lg bl b ⟨n, s, true⟩ * dk b (S1) * vec 5 1 (.slice ua (8 + p.length) uc) (8 + p.length) (bvs (wframe p))) (by unfold lg; simp only [List.set_cons_succ, List.set_cons_zero]; ac_rfl)).drop
      · rw [if_neg (show ¬ (9 : Nat) = 0 by decide)] at HP
        simp only [Nat.reduceBEq] at HP
        have HEE := HE.out.of0 hs2
        have c10 := HEE.cell 10 (by omega) (by omega)
        have e10 := HEE.eql 9 10 (by omega) (by omega) (by omega) (by omega)
        simp only [gErr] at c10
        simp only [Nat.reduceEqDiff, decide_false] at e10
        have hb := hs2.rot3
        have f3 := hb.free 3
        have k3 := hb.cell (i := 3) (v := .bool false) rfl
        have k0 := hb.cell (i := 0) (v := .pointer (some ⟨b, 0, none⟩)) rfl
        clear HEE
        simp only [errv]
        go_wp2_with fail
        go_ret
        refine Ret.mk ⟨by rw [HP.out]; rfl, ?_⟩
        rw [HP.out]
        exact ((hb.store 3 (.bool false)).perm (B := F * lg bl b ⟨n, s, false⟩ * dk b (R1) * vec 5 1 (.slice ua (8 + p.length) uc) (8 + p.length) (bvs (wframe p))) (by unfold lg; simp only [List.set_cons_succ, List.set_cons_zero]; ac_rfl)).drop
      · rw [if_neg (show ¬ (10 : Nat) = 0 by decide)] at HP
        simp only [Nat.reduceBEq] at HP
        have HEE := HE.out.of0 hs2
        have c10 := HEE.cell 10 (by omega) (by omega)
        have e10 := HEE.eql 10 10 (by omega) (by omega) (by omega) (by omega)
        simp only [gErr] at c10
        simp only [decide_true] at e10
        have hb := hs2.rot3
        have f3 := hb.free 3
        have k3 := hb.cell (i := 3) (v := .bool false) rfl
        have k0 := hb.cell (i := 0) (v := .pointer (some ⟨b, 0, none⟩)) rfl
        clear HEE
        simp only [errv]
        go_wp2_with fail
        go_ret
        refine Ret.mk ⟨by rw [HP.out]; rfl, ?_⟩
        rw [HP.out]
        exact ((hb.store 3 (.bool true)).perm (B := F * lg bl b ⟨n, s, true⟩ * dk b (R1) * vec 5 1 (.slice ua (8 + p.length) uc) (8 + p.length) (bvs (wframe p))) (by unfold lg; simp only [List.set_cons_succ, List.set_cons_zero]; ac_rfl)).drop
  · have HP := Hid.mk' (show Lg.put ⟨n, s, d⟩ D p = (⟨n, s, d⟩, D, 1) by unfold Lg.put; rw [if_neg hg])
    have c1 := (HE.out.of0 hs).cell 1 (by omega) (by omega)
    have HF := Hid.mk' (wal_frame_no (E := E) c1 p ao c hg)
    clear hE hT hr c1
    go_enter Tryd.func76, Tryd.ntmps76
    go_wp2_with (go_at_call 23; refine HF.out.mono ?_; rintro e w1 ⟨rfl, m, rfl⟩; simp only [errv])
    go_ret
    exact Ret.mk ⟨by rw [HP.out]; rfl, by rw [HP.out]; exact hs.drewN m⟩
end Go.Proofs.YtjhlelcopofkkaaDoor
