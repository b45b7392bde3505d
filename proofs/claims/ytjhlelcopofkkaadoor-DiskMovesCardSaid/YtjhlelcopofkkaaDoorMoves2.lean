/- What the law DiskMoves calls died and went. -/
import Derived.Test.YtjhlelcopofkkaaDoorMoves
namespace Go.Proofs.YtjhlelcopofkkaaDoor
open Go.RowKit

set_option maxRecDepth 20000 in
set_option maxHeartbeats 6400000 in
theorem died_fits {w0 w : World} {F : HP} {b : Nat} {D D2 : Dk} {O N M : Int} {DT : ByteArray} (keep : Int) (hdz : DT.size ≤ 140737488351232) (hD : D.Ok) (hD2 : (D.laid ⟨1, O, N, M, DT⟩).fail keep = D2) (hf : D.bytes.length + DT.size ≤ D.room) (wa na ga : Option Addr) (wc nc gc : Nat) (h1 : Rd w wa (bvs D.bytes)) (h2 : ∀ w' A, Sat w0 w' (F * A) → Rd w' na (bvs D2.bytes))
    (hs : Sat w0 w (F * dk b D2)) :
    Calls Tryd.prog 119 #[.pointer (some ⟨b, 0, none⟩), .agg #[.int .i64 1, .int .i64 O, .int .i64 N, .int .i64 M, .string DT], .int .i64 D.room, .bool true, .agg #[.slice wa D.bytes.length wc, .int .i64 D.synced, .int .i64 0], .agg #[.slice ga 0 gc, .int .i64 0, .int .i64 10], .agg #[.slice na D2.bytes.length nc, .int .i64 D2.synced, .int .i64 0]] w (Ret fun v w' => v = .bool true ∧ Sat w0 w' (F * dk b D2)) := by
  have hb := hD.bytes
  have hro := hD.room
  have hg := Dk.dying_good hD (⟨1, O, N, M, DT⟩ : Stp) keep
  have hdd : ((D.laid ⟨1, O, N, M, DT⟩).fail keep).dead = true := rfl
  rw [Dk.laid_bytes, show (if (⟨1, O, N, M, DT⟩ : Stp).kind = 1 ∧ D.fits (⟨1, O, N, M, DT⟩ : Stp).data.data.toList.length then D.bytes ++ (⟨1, O, N, M, DT⟩ : Stp).data.data.toList else D.bytes) = D.bytes ++ DT.data.toList from if_pos ⟨rfl, hf⟩] at hg
  rw [hD2] at hg hdd
  obtain ⟨r, hr⟩ := hg.2.1
  have HLN := Hid.mk' (show DT.data.toList.length = DT.size from rfl)
  have hl2 : D2.bytes.length ≤ 140737488351232 := by
    have := congrArg List.length hr
    simp only [List.length_append, HLN.out] at this
    omega
  have hs4 := (((hs.new #[.int .i64 1, .int .i64 O, .int .i64 N, .int .i64 M, .string DT] 83).new #[.slice wa D.bytes.length wc, .int .i64 D.synced, .int .i64 0] 87).new #[.slice ga 0 gc, .int .i64 0, .int .i64 10] 87).new #[.slice na D2.bytes.length nc, .int .i64 D2.synced, .int .i64 0] 87
  have H1 := Hid.mk' (h1.mono (((((Sat.refl w).new #[.int .i64 1, .int .i64 O, .int .i64 N, .int .i64 M, .string DT] 83).new #[.slice wa D.bytes.length wc, .int .i64 D.synced, .int .i64 0] 87).new #[.slice ga 0 gc, .int .i64 0, .int .i64 10] 87).new #[.slice na D2.bytes.length nc, .int .i64 D2.synced, .int .i64 0] 87).below)
  have H2 := Hid.mk' h2
  simp only [World.size_alloc] at hs4
  generalize hh : w.heap.size = h at hs4
  have hs5 := hs4.perm (B := F * dk b D2 * blk h [.int .i64 1, .int .i64 O, .int .i64 N, .int .i64 M, .string DT] 83 * blk (h + 1) [.slice wa D.bytes.length wc, .int .i64 D.synced, .int .i64 0] 87 * blk (h + 1 + 1) [.slice ga 0 gc, .int .i64 0, .int .i64 10] 87 * blk (h + 1 + 1 + 1) [.slice na D2.bytes.length nc, .int .i64 D2.synced, .int .i64 0] 87) (by ac_rfl)
  have HR := Hid.mk' hr
  have HDD := Hid.mk' hdd
  have HG1 := Hid.mk' hg.2.2.1
  have HG2 := Hid.mk' hg.2.2.2
  have hw : IntKind.i64.wrap ((D.bytes.length : Int) + (DT.size : Int)) = (D.bytes.length : Int) + (DT.size : Int) := by rw [IntKind.wrap_i64]; omega
  have bq1 : decide ((D.bytes.length : Int) + (DT.size : Int) ≤ (D.room : Int)) = true := decide_eq_true (by omega)
  have HSZ := Hid.mk' (show D.bytes.length + DT.size ≤ 142936511610880 by omega)
  clear hs hs4 hD hD2 h1 h2 hg hdd hr hf
  go_enter Tryd.func119, Tryd.ntmps119
  go_wp2_with fail
  refine (kit_copy D.bytes wa wc H1.out hb).mono ?_
  rintro e w1 ⟨v, rfl, hx⟩
  have hL := hs5.glue hx
  have H3 := Hid.mk' (H2.out _ _ (by have h' := hL; simp only [HP.assoc] at h'; exact h') : Rd w1 na (bvs D2.bytes))
  obtain ⟨la, lc, rfl, hlc, hrl, hnl⟩ := hL.vec_rd
  have q0 := hL.rot5.cell (i := 0) (v := .int .i64 1) rfl
  have q4 := hL.rot5.cell (i := 4) (v := .string DT) rfl
  have g0 := hL.rot3.cell (i := 0) (v := .slice ga 0 gc) rfl
  have p1 := hL.rot4.cell (i := 1) (v := .int .i64 D.synced) rfl
  have n0 := hL.swap.cell (i := 0) (v := .slice na D2.bytes.length nc) rfl
  have n1 := hL.swap.cell (i := 1) (v := .int .i64 D2.synced) rfl
  have n2 := hL.swap.cell (i := 2) (v := .int .i64 0) rfl
  clear hx
  go_wp2_with (at_builtin; refine sl_append_string rfl _ _ 22 9 rfl 5 Tryd.underlying22 Tryd.underlying9 info_u8 _ D.bytes.length _ rfl (by exact hL) DT rfl (by have := HSZ.out; simp only [maxLen]; omega) HSZ.out ?_; intro lv w2 hM; obtain ⟨ma, mc, rfl, hmc, hrm, hnm⟩ := hM.vec_rd; have g0' := hM.rot3.cell (i := 0) (v := .slice ga 0 gc) rfl; have p1' := hM.rot4.cell (i := 1) (v := .int .i64 D.synced) rfl; have n0' := hM.swap.cell (i := 0) (v := .slice na D2.bytes.length nc) rfl; have n1' := hM.swap.cell (i := 1) (v := .int .i64 D2.synced) rfl; have n2' := hM.swap.cell (i := 2) (v := .int .i64 0) rfl)
  refine (law12_survived (D := D2) (b := b) (F := F * (blk h [.int .i64 1, .int .i64 O, .int .i64 N, .int .i64 M, .string DT] 83 * blk (h + 1) [.slice wa D.bytes.length wc, .int .i64 D.synced, .int .i64 0] 87 * blk (h + 1 + 1) [.slice ga 0 gc, .int .i64 0, .int .i64 10] 87 * blk (h + 1 + 1 + 1) [.slice na D2.bytes.length nc, .int .i64 D2.synced, .int .i64 0] 87 * vec 5 1 (.slice ma (D.bytes.length + DT.size) mc) (D.bytes.length + DT.size) (bvs D.bytes ++ bvs DT.data.toList))) r ma na (D.bytes.length + DT.size) mc nc D.synced HDD.out HG1.out HG2.out (by rw [HR.out, List.length_append, HLN.out]) (by rw [HR.out, bvs_append]; exact hrm) hnm hmc (H2.out _ _ (by have h' := hM; simp only [HP.assoc] at h'; exact h')) hl2 (hM.perm (by ac_rfl))).mono ?_
  rintro e w3 ⟨v, rfl, rfl, hy⟩
  go_wp2_with fail
  go_ret
  exact Ret.mk ⟨rfl, hy.swap.drop⟩

set_option maxRecDepth 20000 in
set_option maxHeartbeats 6400000 in
theorem died_full {w0 w : World} {F : HP} {b : Nat} {D D2 : Dk} {O N M : Int} {DT : ByteArray} (keep : Int) (hdz : DT.size ≤ 140737488351232) (hD : D.Ok) (hD2 : (D.laid ⟨1, O, N, M, DT⟩).fail keep = D2) (hf : ¬ D.bytes.length + DT.size ≤ D.room) (wa na ga : Option Addr) (wc nc gc : Nat) (h1 : Rd w wa (bvs D.bytes)) (h2 : ∀ w' A, Sat w0 w' (F * A) → Rd w' na (bvs D2.bytes))
    (hs : Sat w0 w (F * dk b D2)) :
    Calls Tryd.prog 119 #[.pointer (some ⟨b, 0, none⟩), .agg #[.int .i64 1, .int .i64 O, .int .i64 N, .int .i64 M, .string DT], .int .i64 D.room, .bool true, .agg #[.slice wa D.bytes.length wc, .int .i64 D.synced, .int .i64 0], .agg #[.slice ga 0 gc, .int .i64 0, .int .i64 10], .agg #[.slice na D2.bytes.length nc, .int .i64 D2.synced, .int .i64 0]] w (Ret fun v w' => v = .bool true ∧ Sat w0 w' (F * dk b D2)) := by
  have hb := hD.bytes
  have hro := hD.room
  have hg := Dk.dying_good hD (⟨1, O, N, M, DT⟩ : Stp) keep
  have hdd : ((D.laid ⟨1, O, N, M, DT⟩).fail keep).dead = true := rfl
  rw [Dk.laid_bytes, show (if (⟨1, O, N, M, DT⟩ : Stp).kind = 1 ∧ D.fits (⟨1, O, N, M, DT⟩ : Stp).data.data.toList.length then D.bytes ++ (⟨1, O, N, M, DT⟩ : Stp).data.data.toList else D.bytes) = D.bytes from if_neg (fun h => hf h.2)] at hg
  rw [hD2] at hg hdd
  obtain ⟨r, hr⟩ := hg.2.1
  skip
  have hl2 : D2.bytes.length ≤ 140737488351232 := by
    have := congrArg List.length hr
    simp only [List.length_append] at this
    omega
  have hs4 := (((hs.new #[.int .i64 1, .int .i64 O, .int .i64 N, .int .i64 M, .string DT] 83).new #[.slice wa D.bytes.length wc, .int .i64 D.synced, .int .i64 0] 87).new #[.slice ga 0 gc, .int .i64 0, .int .i64 10] 87).new #[.slice na D2.bytes.length nc, .int .i64 D2.synced, .int .i64 0] 87
  have H1 := Hid.mk' (h1.mono (((((Sat.refl w).new #[.int .i64 1, .int .i64 O, .int .i64 N, .int .i64 M, .string DT] 83).new #[.slice wa D.bytes.length wc, .int .i64 D.synced, .int .i64 0] 87).new #[.slice ga 0 gc, .int .i64 0, .int .i64 10] 87).new #[.slice na D2.bytes.length nc, .int .i64 D2.synced, .int .i64 0] 87).below)
  have H2 := Hid.mk' h2
  simp only [World.size_alloc] at hs4
  generalize hh : w.heap.size = h at hs4
  have hs5 := hs4.perm (B := F * dk b D2 * blk h [.int .i64 1, .int .i64 O, .int .i64 N, .int .i64 M, .string DT] 83 * blk (h + 1) [.slice wa D.bytes.length wc, .int .i64 D.synced, .int .i64 0] 87 * blk (h + 1 + 1) [.slice ga 0 gc, .int .i64 0, .int .i64 10] 87 * blk (h + 1 + 1 + 1) [.slice na D2.bytes.length nc, .int .i64 D2.synced, .int .i64 0] 87) (by ac_rfl)
  have HR := Hid.mk' hr
  have HDD := Hid.mk' hdd
  have HG1 := Hid.mk' hg.2.2.1
  have HG2 := Hid.mk' hg.2.2.2
  have hw : IntKind.i64.wrap ((D.bytes.length : Int) + (DT.size : Int)) = (D.bytes.length : Int) + (DT.size : Int) := by rw [IntKind.wrap_i64]; omega
  have bq1 : decide ((D.bytes.length : Int) + (DT.size : Int) ≤ (D.room : Int)) = false := decide_eq_false (by omega)
  clear hs hs4 hD hD2 h1 h2 hg hdd hr hf
  go_enter Tryd.func119, Tryd.ntmps119
  go_wp2_with fail
  refine (kit_copy D.bytes wa wc H1.out hb).mono ?_
  rintro e w1 ⟨v, rfl, hx⟩
  have hL := hs5.glue hx
  have H3 := Hid.mk' (H2.out _ _ (by have h' := hL; simp only [HP.assoc] at h'; exact h') : Rd w1 na (bvs D2.bytes))
  obtain ⟨la, lc, rfl, hlc, hrl, hnl⟩ := hL.vec_rd
  have q0 := hL.rot5.cell (i := 0) (v := .int .i64 1) rfl
  have q4 := hL.rot5.cell (i := 4) (v := .string DT) rfl
  have g0 := hL.rot3.cell (i := 0) (v := .slice ga 0 gc) rfl
  have p1 := hL.rot4.cell (i := 1) (v := .int .i64 D.synced) rfl
  have n0 := hL.swap.cell (i := 0) (v := .slice na D2.bytes.length nc) rfl
  have n1 := hL.swap.cell (i := 1) (v := .int .i64 D2.synced) rfl
  have n2 := hL.swap.cell (i := 2) (v := .int .i64 0) rfl
  clear hx
  go_wp2_with fail
  refine (law12_survived (D := D2) (b := b) (F := F * (blk h [.int .i64 1, .int .i64 O, .int .i64 N, .int .i64 M, .string DT] 83 * blk (h + 1) [.slice wa D.bytes.length wc, .int .i64 D.synced, .int .i64 0] 87 * blk (h + 1 + 1) [.slice ga 0 gc, .int .i64 0, .int .i64 10] 87 * blk (h + 1 + 1 + 1) [.slice na D2.bytes.length nc, .int .i64 D2.synced, .int .i64 0] 87 * vec 5 1 (.slice la D.bytes.length lc) D.bytes.length (bvs D.bytes))) r la na D.bytes.length lc nc D.synced HDD.out HG1.out HG2.out (by rw [HR.out]) (by rw [HR.out]; exact hrl) hnl hlc H3.out hl2 (hL.perm (by ac_rfl))).mono ?_
  rintro e w3 ⟨v, rfl, rfl, hy⟩
  go_wp2_with fail
  go_ret
  exact Ret.mk ⟨rfl, hy.swap.drop⟩

set_option maxRecDepth 20000 in
set_option maxHeartbeats 6400000 in
theorem died_else {w0 w : World} {F : HP} {b : Nat} {D D2 : Dk} {K : Int} {O N M : Int} {DT : ByteArray} (keep : Int) (hD : D.Ok) (hD2 : (D.laid ⟨K, O, N, M, DT⟩).fail keep = D2) (h1k : K ≠ 1) (wa na ga : Option Addr) (wc nc gc : Nat) (h1 : Rd w wa (bvs D.bytes)) (h2 : ∀ w' A, Sat w0 w' (F * A) → Rd w' na (bvs D2.bytes))
    (hs : Sat w0 w (F * dk b D2)) :
    Calls Tryd.prog 119 #[.pointer (some ⟨b, 0, none⟩), .agg #[.int .i64 K, .int .i64 O, .int .i64 N, .int .i64 M, .string DT], .int .i64 D.room, .bool true, .agg #[.slice wa D.bytes.length wc, .int .i64 D.synced, .int .i64 0], .agg #[.slice ga 0 gc, .int .i64 0, .int .i64 10], .agg #[.slice na D2.bytes.length nc, .int .i64 D2.synced, .int .i64 0]] w (Ret fun v w' => v = .bool true ∧ Sat w0 w' (F * dk b D2)) := by
  have hb := hD.bytes
  have hro := hD.room
  have hg := Dk.dying_good hD (⟨K, O, N, M, DT⟩ : Stp) keep
  have hdd : ((D.laid ⟨K, O, N, M, DT⟩).fail keep).dead = true := rfl
  rw [Dk.laid_bytes, show (if (⟨K, O, N, M, DT⟩ : Stp).kind = 1 ∧ D.fits (⟨K, O, N, M, DT⟩ : Stp).data.data.toList.length then D.bytes ++ (⟨K, O, N, M, DT⟩ : Stp).data.data.toList else D.bytes) = D.bytes from if_neg (fun h => h1k h.1)] at hg
  rw [hD2] at hg hdd
  obtain ⟨r, hr⟩ := hg.2.1
  skip
  have hl2 : D2.bytes.length ≤ 140737488351232 := by
    have := congrArg List.length hr
    simp only [List.length_append] at this
    omega
  have hs4 := (((hs.new #[.int .i64 K, .int .i64 O, .int .i64 N, .int .i64 M, .string DT] 83).new #[.slice wa D.bytes.length wc, .int .i64 D.synced, .int .i64 0] 87).new #[.slice ga 0 gc, .int .i64 0, .int .i64 10] 87).new #[.slice na D2.bytes.length nc, .int .i64 D2.synced, .int .i64 0] 87
  have H1 := Hid.mk' (h1.mono (((((Sat.refl w).new #[.int .i64 K, .int .i64 O, .int .i64 N, .int .i64 M, .string DT] 83).new #[.slice wa D.bytes.length wc, .int .i64 D.synced, .int .i64 0] 87).new #[.slice ga 0 gc, .int .i64 0, .int .i64 10] 87).new #[.slice na D2.bytes.length nc, .int .i64 D2.synced, .int .i64 0] 87).below)
  have H2 := Hid.mk' h2
  simp only [World.size_alloc] at hs4
  generalize hh : w.heap.size = h at hs4
  have hs5 := hs4.perm (B := F * dk b D2 * blk h [.int .i64 K, .int .i64 O, .int .i64 N, .int .i64 M, .string DT] 83 * blk (h + 1) [.slice wa D.bytes.length wc, .int .i64 D.synced, .int .i64 0] 87 * blk (h + 1 + 1) [.slice ga 0 gc, .int .i64 0, .int .i64 10] 87 * blk (h + 1 + 1 + 1) [.slice na D2.bytes.length nc, .int .i64 D2.synced, .int .i64 0] 87) (by ac_rfl)
  have HR := Hid.mk' hr
  have HDD := Hid.mk' hdd
  have HG1 := Hid.mk' hg.2.2.1
  have HG2 := Hid.mk' hg.2.2.2
  have h1b : (K == 1) = false := beq_eq_false_iff_ne.2 h1k
  clear hs hs4 hD hD2 h1 h2 hg hdd hr h1k
  go_enter Tryd.func119, Tryd.ntmps119
  go_wp2_with fail
  refine (kit_copy D.bytes wa wc H1.out hb).mono ?_
  rintro e w1 ⟨v, rfl, hx⟩
  have hL := hs5.glue hx
  have H3 := Hid.mk' (H2.out _ _ (by have h' := hL; simp only [HP.assoc] at h'; exact h') : Rd w1 na (bvs D2.bytes))
  obtain ⟨la, lc, rfl, hlc, hrl, hnl⟩ := hL.vec_rd
  have q0 := hL.rot5.cell (i := 0) (v := .int .i64 K) rfl
  have q4 := hL.rot5.cell (i := 4) (v := .string DT) rfl
  have g0 := hL.rot3.cell (i := 0) (v := .slice ga 0 gc) rfl
  have p1 := hL.rot4.cell (i := 1) (v := .int .i64 D.synced) rfl
  have n0 := hL.swap.cell (i := 0) (v := .slice na D2.bytes.length nc) rfl
  have n1 := hL.swap.cell (i := 1) (v := .int .i64 D2.synced) rfl
  have n2 := hL.swap.cell (i := 2) (v := .int .i64 0) rfl
  clear hx
  go_wp2_with fail
  refine (law12_survived (D := D2) (b := b) (F := F * (blk h [.int .i64 K, .int .i64 O, .int .i64 N, .int .i64 M, .string DT] 83 * blk (h + 1) [.slice wa D.bytes.length wc, .int .i64 D.synced, .int .i64 0] 87 * blk (h + 1 + 1) [.slice ga 0 gc, .int .i64 0, .int .i64 10] 87 * blk (h + 1 + 1 + 1) [.slice na D2.bytes.length nc, .int .i64 D2.synced, .int .i64 0] 87 * vec 5 1 (.slice la D.bytes.length lc) D.bytes.length (bvs D.bytes))) r la na D.bytes.length lc nc D.synced HDD.out HG1.out HG2.out (by rw [HR.out]) (by rw [HR.out]; exact hrl) hnl hlc H3.out hl2 (hL.perm (by ac_rfl))).mono ?_
  rintro e w3 ⟨v, rfl, rfl, hy⟩
  go_wp2_with fail
  go_ret
  exact Ret.mk ⟨rfl, hy.swap.drop⟩

end Go.Proofs.YtjhlelcopofkkaaDoor
