/- The walk of the law WalNew. -/
import Derived.Test.YtjhlelcopofkkaaDoorNewB
import Derived.Test.YtjhlelcopofkkaaDoorWalTwiceW
namespace Go.Proofs.YtjhlelcopofkkaaDoor
open Go.RowKit

theorem behind_at {w : World} (va vb : List Value) {n m : Nat} (hn : va.length = n) (hm : vb.length = m) (ao bo : Option Addr) (c d : Nat) (hr : Rd w ao va) (hq : Rd w bo vb) (ha : Slices va) (hb : Slices vb) (hb2 : n + m ≤ 16777216) :
    Calls Tryd.prog 73 #[.slice ao n c, .slice bo m d] w (Ret fun v w' => Sat w w' (vec 22 1 v (n + m) (va ++ vb))) := by
  subst hn; subst hm
  exact law13_behind va vb ao bo c d hr hq ha hb hb2
set_option maxRecDepth 20000 in
set_option maxHeartbeats 51200000 in
theorem walk_walNew {w : World} {E : Nat → Addr} (hE1 : ErrAt w E 1) (hE : ErrAt w E 10) (hT : CrcTab w) (data : List UInt8) (da : Option Addr) (dc : Nat) (hr : Rd w da (bvs data)) (hdc : data.length ≤ dc) (hl : data.length ≤ 1048576) :
    Calls Tryd.prog 16 #[.slice da data.length dc] w (Ret fun v w' => v = .bool true ∧ Sat w w' 1) := by
  have HE1 := Hid.mk' hE1
  have HE := Hid.mk' hE
  have HT := Hid.mk' hT
  have HR := Hid.mk' hr
  obtain ⟨fs, hfs⟩ : ∃ fs, frames data = fs := ⟨_, rfl⟩
  obtain ⟨P, hP⟩ : ∃ P, head data = P := ⟨_, rfl⟩
  have hPl : P.length = size fs := by rw [← hP, head_length, hfs]
  have hPf : frames P = fs := by rw [← hP, frames_head, hfs]
  have hPh : head P = P := by rw [← hP, head_head]
  have hzl : P.length ≤ data.length := by rw [hPl, ← hfs]; exact size_frames data
  have hfl : fs.length ≤ 1048576 := by have := len_le_size fs; omega
  have hfm : ∀ p ∈ fs, 1 ≤ p.length ∧ p.length ≤ 8192 := fun p hp => by rw [← hfs] at hp; exact frames_mem p hp
  have hbd : data.length ≤ 140737488351232 := by omega
  have hbd2 : data.length ≤ 16777216 := by omega
  have hPb : P.length ≤ 140737488351232 := by omega
  have hPb2 : P.length ≤ 16777216 := by omega
  have HFS := Hid.mk' hfs
  have HPH := Hid.mk' hP
  have HZ := Hid.mk' hPl.symm
  have HPF := Hid.mk' hPf
  have HPP := Hid.mk' hPh
  have HFM := Hid.mk' hfm
  have hmf : ∀ (fn : Fn) (first cap : Array Value) (w : World), (Instr.makeFunc fn first cap).run Tryd.prog w = .ok (.func fn first cap) w := fun _ _ _ _ => rfl
  have hfn := @run_eql_func_nil
  clear hE hE1 hT hr hfs hP hPl hPf hPh hfm
  go_enter Tryd.func16, Tryd.ntmps16
  go_wp2_with fail
  refine (kit_copy data da dc HR.out hbd).mono ?_
  rintro e w1 ⟨v, rfl, hx⟩
  have hs1 : Sat w w1 (pr [_]) := hx.pr1
  obtain ⟨pa, pc, rfl, hpc, _, _⟩ := hx.one'.vec_rd
  clear hx
  go_wp2_with fail
  refine (disk_open hs1 data da dc (HR.out.of0 hs1) hbd 1073741824).mono ?_
  rintro e w2 ⟨v, rfl, bd, rfl, hs2⟩
  have hs2 := hs2.push
  clear hs1
  go_wp2_with (go_at_call 37; refine (law13_begun (HT.out.mono hs2.below)).mono ?_; rintro e w3 ⟨v, rfl, rfl, hx⟩)
  have hs3 := hs2.then1 hx
  clear hs2 hx
  refine (wal_scan_at (HT.out.mono hs3.below) HFS.out HZ.out da dc (HR.out.of0 hs3) hdc hbd2).mono ?_
  rintro e w4 ⟨v, rfl, o1, c1, rfl, hx⟩
  have hs4 := hs3.adds hx
  clear hs3 hx
  go_wp2_with fail
  refine (wal_open_at HE1.out HE.out HT.out hbd2 HFS.out HPH.out HZ.out (hs4.at 1)).mono ?_
  rintro e w5 ⟨v, rfl, bl, o2, c2, rfl, hs5⟩
  have hs5 := hs5.back3 (by simp)
  clear hs4
  go_wp2_with fail
  refine (disk_look (Dk.Ok.new hPb 1073741824) (hs5.at 1)).mono ?_
  rintro e w6 ⟨v, rfl, u, rfl, hs6⟩
  obtain ⟨a1, d1, rfl, _, _, _⟩ := hs6.vec_rd
  have hs6 := hs6.back2 (by simp)
  clear hs5
  go_wp2_with fail
  refine (wal_scan_at (HT.out.mono hs6.below) HFS.out HZ.out da dc (HR.out.of0 hs6) hdc hbd2).mono ?_
  rintro e w7 ⟨v, rfl, o3, c3, rfl, hx⟩
  have hs7 := hs6.adds hx
  clear hs6 hx
  go_wp2_with fail
  refine (wal_open_at HE1.out HE.out HT.out hPb2 HPF.out HPP.out HZ.out (hs7.at 1)).mono ?_
  rintro e w8 ⟨v, rfl, bl2, o4, c4, rfl, hs8⟩
  have hs8 := ((hs8.back3 (by simp)).new #[.slice none 0 0] 37).push
  clear hs7
  generalize hbw : w8.heap.size = bw at hs8
  go_wp2_with fail
  refine (wal_frames _ da data.length dc rfl).mono ?_
  rintro e w9 ⟨v, rfl, bfr, rfl, hx⟩
  have hs9 := hs8.adds hx.unone'
  clear hs8 hx
  have hs9' : Sat w w9 (pr [vec 5 1 (.slice pa data.length pc) data.length (bvs data), dk bd (Dk.new P 1073741824), vecs (.slice o1 fs.length c1) fs, lg bl bd ⟨fs.length, P.length, false⟩, vecs (.slice o2 fs.length c2) fs, vec 5 1 (.slice a1 P.length d1) P.length (bvs P), vecs (.slice o3 fs.length c3) fs, lg bl2 bd ⟨fs.length, P.length, false⟩, vecs (.slice o4 fs.length c4) fs] * blk bfr [.slice da data.length dc] 22 * blk bw [.slice none 0 0] 37) := hs9.perm (by simp only [pr, List.set_cons_succ, List.set_cons_zero, List.cons_append, List.nil_append]; ac_rfl)
  clear hs9
  go_wp2_with fail
  refine (law13_newRounds HT.out data da dc HR.out hdc hbd2 bfr bw hs9').mono ?_
  rintro e w10 ⟨v, rfl, rfl, u, hs10⟩
  rw [HFS.out] at hs10
  obtain ⟨o5, c5, rfl, _, _, _⟩ := hs10.vecs_rd
  have hs11 : Sat w w10 (pr [vec 5 1 (.slice pa data.length pc) data.length (bvs data), dk bd (Dk.new P 1073741824), vec 5 1 (.slice a1 P.length d1) P.length (bvs P)] * blk bw [.slice o5 fs.length c5] 37 * vecs (.slice o1 fs.length c1) fs * vecs (.slice o2 fs.length c2) fs * vecs (.slice o3 fs.length c3) fs * vecs (.slice o4 fs.length c4) fs * vecs (.slice o5 fs.length c5) fs) := (hs10.perm (B := pr [vec 5 1 (.slice pa data.length pc) data.length (bvs data), dk bd (Dk.new P 1073741824), vec 5 1 (.slice a1 P.length d1) P.length (bvs P)] * blk bw [.slice o5 fs.length c5] 37 * vecs (.slice o1 fs.length c1) fs * vecs (.slice o2 fs.length c2) fs * vecs (.slice o3 fs.length c3) fs * vecs (.slice o4 fs.length c4) fs * vecs (.slice o5 fs.length c5) fs * (lg bl bd ⟨fs.length, P.length, false⟩ * lg bl2 bd ⟨fs.length, P.length, false⟩ * blk bfr [.slice da data.length dc] 22)) (by simp only [pr]; ac_rfl)).drop
  clear hs9' hs10
  obtain ⟨v1, l1, hq1⟩ := (hs11.perm (B := pr [vec 5 1 (.slice pa data.length pc) data.length (bvs data), dk bd (Dk.new P 1073741824), vec 5 1 (.slice a1 P.length d1) P.length (bvs P)] * blk bw [.slice o5 fs.length c5] 37 * vecs (.slice o2 fs.length c2) fs * vecs (.slice o3 fs.length c3) fs * vecs (.slice o4 fs.length c4) fs * vecs (.slice o5 fs.length c5) fs * vecs (.slice o1 fs.length c1) fs) (by ac_rfl)).vecs_open
  obtain ⟨v2, l2, hq2⟩ := (hq1.perm (B := pr [vec 5 1 (.slice pa data.length pc) data.length (bvs data), dk bd (Dk.new P 1073741824), vec 5 1 (.slice a1 P.length d1) P.length (bvs P)] * blk bw [.slice o5 fs.length c5] 37 * vec 22 1 (.slice o1 fs.length c1) fs.length v1 * bvl v1 fs * vecs (.slice o3 fs.length c3) fs * vecs (.slice o4 fs.length c4) fs * vecs (.slice o5 fs.length c5) fs * vecs (.slice o2 fs.length c2) fs) (by ac_rfl)).vecs_open
  obtain ⟨v3, l3, hq3⟩ := (hq2.perm (B := pr [vec 5 1 (.slice pa data.length pc) data.length (bvs data), dk bd (Dk.new P 1073741824), vec 5 1 (.slice a1 P.length d1) P.length (bvs P)] * blk bw [.slice o5 fs.length c5] 37 * vec 22 1 (.slice o1 fs.length c1) fs.length v1 * bvl v1 fs * vec 22 1 (.slice o2 fs.length c2) fs.length v2 * bvl v2 fs * vecs (.slice o4 fs.length c4) fs * vecs (.slice o5 fs.length c5) fs * vecs (.slice o3 fs.length c3) fs) (by ac_rfl)).vecs_open
  obtain ⟨v4, l4, hq4⟩ := (hq3.perm (B := pr [vec 5 1 (.slice pa data.length pc) data.length (bvs data), dk bd (Dk.new P 1073741824), vec 5 1 (.slice a1 P.length d1) P.length (bvs P)] * blk bw [.slice o5 fs.length c5] 37 * vec 22 1 (.slice o1 fs.length c1) fs.length v1 * bvl v1 fs * vec 22 1 (.slice o2 fs.length c2) fs.length v2 * bvl v2 fs * vec 22 1 (.slice o3 fs.length c3) fs.length v3 * bvl v3 fs * vecs (.slice o5 fs.length c5) fs * vecs (.slice o4 fs.length c4) fs) (by ac_rfl)).vecs_open
  obtain ⟨v5, l5, hq5⟩ := (hq4.perm (B := pr [vec 5 1 (.slice pa data.length pc) data.length (bvs data), dk bd (Dk.new P 1073741824), vec 5 1 (.slice a1 P.length d1) P.length (bvs P)] * blk bw [.slice o5 fs.length c5] 37 * vec 22 1 (.slice o1 fs.length c1) fs.length v1 * bvl v1 fs * vec 22 1 (.slice o2 fs.length c2) fs.length v2 * bvl v2 fs * vec 22 1 (.slice o3 fs.length c3) fs.length v3 * bvl v3 fs * vec 22 1 (.slice o4 fs.length c4) fs.length v4 * bvl v4 fs * vecs (.slice o5 fs.length c5) fs) (by ac_rfl)).vecs_open
  have hs12 := hq5.perm (B := pr [vec 5 1 (.slice pa data.length pc) data.length (bvs data), dk bd (Dk.new P 1073741824), vec 5 1 (.slice a1 P.length d1) P.length (bvs P)] * blk bw [.slice o5 fs.length c5] 37 * bvl v1 fs * bvl v2 fs * bvl v3 fs * bvl v4 fs * bvl v5 fs * vec 22 1 (.slice o1 fs.length c1) fs.length v1 * vec 22 1 (.slice o2 fs.length c2) fs.length v2 * vec 22 1 (.slice o3 fs.length c3) fs.length v3 * vec 22 1 (.slice o4 fs.length c4) fs.length v4 * vec 22 1 (.slice o5 fs.length c5) fs.length v5) (by ac_rfl)
  clear hs11 hq1 hq2 hq3 hq4 hq5
  have s1 : Slices v1 := (hs12.perm (B := pr [vec 5 1 (.slice pa data.length pc) data.length (bvs data), dk bd (Dk.new P 1073741824), vec 5 1 (.slice a1 P.length d1) P.length (bvs P)] * blk bw [.slice o5 fs.length c5] 37 * bvl v2 fs * bvl v3 fs * bvl v4 fs * bvl v5 fs * vec 22 1 (.slice o1 fs.length c1) fs.length v1 * vec 22 1 (.slice o2 fs.length c2) fs.length v2 * vec 22 1 (.slice o3 fs.length c3) fs.length v3 * vec 22 1 (.slice o4 fs.length c4) fs.length v4 * vec 22 1 (.slice o5 fs.length c5) fs.length v5 * bvl v1 fs) (by ac_rfl)).bvl_slices
  have r1 : Rd w10 o1 v1 := (hs12.perm (B := pr [vec 5 1 (.slice pa data.length pc) data.length (bvs data), dk bd (Dk.new P 1073741824), vec 5 1 (.slice a1 P.length d1) P.length (bvs P)] * blk bw [.slice o5 fs.length c5] 37 * bvl v1 fs * bvl v2 fs * bvl v3 fs * bvl v4 fs * bvl v5 fs * vec 22 1 (.slice o2 fs.length c2) fs.length v2 * vec 22 1 (.slice o3 fs.length c3) fs.length v3 * vec 22 1 (.slice o4 fs.length c4) fs.length v4 * vec 22 1 (.slice o5 fs.length c5) fs.length v5 * vec 22 1 (.slice o1 fs.length c1) fs.length v1) (by ac_rfl)).rd
  have s2 : Slices v2 := (hs12.perm (B := pr [vec 5 1 (.slice pa data.length pc) data.length (bvs data), dk bd (Dk.new P 1073741824), vec 5 1 (.slice a1 P.length d1) P.length (bvs P)] * blk bw [.slice o5 fs.length c5] 37 * bvl v1 fs * bvl v3 fs * bvl v4 fs * bvl v5 fs * vec 22 1 (.slice o1 fs.length c1) fs.length v1 * vec 22 1 (.slice o2 fs.length c2) fs.length v2 * vec 22 1 (.slice o3 fs.length c3) fs.length v3 * vec 22 1 (.slice o4 fs.length c4) fs.length v4 * vec 22 1 (.slice o5 fs.length c5) fs.length v5 * bvl v2 fs) (by ac_rfl)).bvl_slices
  have r2 : Rd w10 o2 v2 := (hs12.perm (B := pr [vec 5 1 (.slice pa data.length pc) data.length (bvs data), dk bd (Dk.new P 1073741824), vec 5 1 (.slice a1 P.length d1) P.length (bvs P)] * blk bw [.slice o5 fs.length c5] 37 * bvl v1 fs * bvl v2 fs * bvl v3 fs * bvl v4 fs * bvl v5 fs * vec 22 1 (.slice o1 fs.length c1) fs.length v1 * vec 22 1 (.slice o3 fs.length c3) fs.length v3 * vec 22 1 (.slice o4 fs.length c4) fs.length v4 * vec 22 1 (.slice o5 fs.length c5) fs.length v5 * vec 22 1 (.slice o2 fs.length c2) fs.length v2) (by ac_rfl)).rd
  have s3 : Slices v3 := (hs12.perm (B := pr [vec 5 1 (.slice pa data.length pc) data.length (bvs data), dk bd (Dk.new P 1073741824), vec 5 1 (.slice a1 P.length d1) P.length (bvs P)] * blk bw [.slice o5 fs.length c5] 37 * bvl v1 fs * bvl v2 fs * bvl v4 fs * bvl v5 fs * vec 22 1 (.slice o1 fs.length c1) fs.length v1 * vec 22 1 (.slice o2 fs.length c2) fs.length v2 * vec 22 1 (.slice o3 fs.length c3) fs.length v3 * vec 22 1 (.slice o4 fs.length c4) fs.length v4 * vec 22 1 (.slice o5 fs.length c5) fs.length v5 * bvl v3 fs) (by ac_rfl)).bvl_slices
  have r3 : Rd w10 o3 v3 := (hs12.perm (B := pr [vec 5 1 (.slice pa data.length pc) data.length (bvs data), dk bd (Dk.new P 1073741824), vec 5 1 (.slice a1 P.length d1) P.length (bvs P)] * blk bw [.slice o5 fs.length c5] 37 * bvl v1 fs * bvl v2 fs * bvl v3 fs * bvl v4 fs * bvl v5 fs * vec 22 1 (.slice o1 fs.length c1) fs.length v1 * vec 22 1 (.slice o2 fs.length c2) fs.length v2 * vec 22 1 (.slice o4 fs.length c4) fs.length v4 * vec 22 1 (.slice o5 fs.length c5) fs.length v5 * vec 22 1 (.slice o3 fs.length c3) fs.length v3) (by ac_rfl)).rd
  have s4 : Slices v4 := (hs12.perm (B := pr [vec 5 1 (.slice pa data.length pc) data.length (bvs data), dk bd (Dk.new P 1073741824), vec 5 1 (.slice a1 P.length d1) P.length (bvs P)] * blk bw [.slice o5 fs.length c5] 37 * bvl v1 fs * bvl v2 fs * bvl v3 fs * bvl v5 fs * vec 22 1 (.slice o1 fs.length c1) fs.length v1 * vec 22 1 (.slice o2 fs.length c2) fs.length v2 * vec 22 1 (.slice o3 fs.length c3) fs.length v3 * vec 22 1 (.slice o4 fs.length c4) fs.length v4 * vec 22 1 (.slice o5 fs.length c5) fs.length v5 * bvl v4 fs) (by ac_rfl)).bvl_slices
  have r4 : Rd w10 o4 v4 := (hs12.perm (B := pr [vec 5 1 (.slice pa data.length pc) data.length (bvs data), dk bd (Dk.new P 1073741824), vec 5 1 (.slice a1 P.length d1) P.length (bvs P)] * blk bw [.slice o5 fs.length c5] 37 * bvl v1 fs * bvl v2 fs * bvl v3 fs * bvl v4 fs * bvl v5 fs * vec 22 1 (.slice o1 fs.length c1) fs.length v1 * vec 22 1 (.slice o2 fs.length c2) fs.length v2 * vec 22 1 (.slice o3 fs.length c3) fs.length v3 * vec 22 1 (.slice o5 fs.length c5) fs.length v5 * vec 22 1 (.slice o4 fs.length c4) fs.length v4) (by ac_rfl)).rd
  have s5 : Slices v5 := (hs12.perm (B := pr [vec 5 1 (.slice pa data.length pc) data.length (bvs data), dk bd (Dk.new P 1073741824), vec 5 1 (.slice a1 P.length d1) P.length (bvs P)] * blk bw [.slice o5 fs.length c5] 37 * bvl v1 fs * bvl v2 fs * bvl v3 fs * bvl v4 fs * vec 22 1 (.slice o1 fs.length c1) fs.length v1 * vec 22 1 (.slice o2 fs.length c2) fs.length v2 * vec 22 1 (.slice o3 fs.length c3) fs.length v3 * vec 22 1 (.slice o4 fs.length c4) fs.length v4 * vec 22 1 (.slice o5 fs.length c5) fs.length v5 * bvl v5 fs) (by ac_rfl)).bvl_slices
  have r5 : Rd w10 o5 v5 := (hs12.perm (B := pr [vec 5 1 (.slice pa data.length pc) data.length (bvs data), dk bd (Dk.new P 1073741824), vec 5 1 (.slice a1 P.length d1) P.length (bvs P)] * blk bw [.slice o5 fs.length c5] 37 * bvl v1 fs * bvl v2 fs * bvl v3 fs * bvl v4 fs * bvl v5 fs * vec 22 1 (.slice o1 fs.length c1) fs.length v1 * vec 22 1 (.slice o2 fs.length c2) fs.length v2 * vec 22 1 (.slice o3 fs.length c3) fs.length v3 * vec 22 1 (.slice o4 fs.length c4) fs.length v4 * vec 22 1 (.slice o5 fs.length c5) fs.length v5) (by ac_rfl)).rd
  have k0 : w10.cell? ⟨bw, 0, none⟩ = some (.slice o5 fs.length c5) := (hs12.perm (B := pr [vec 5 1 (.slice pa data.length pc) data.length (bvs data), dk bd (Dk.new P 1073741824), vec 5 1 (.slice a1 P.length d1) P.length (bvs P)] * bvl v1 fs * bvl v2 fs * bvl v3 fs * bvl v4 fs * bvl v5 fs * vec 22 1 (.slice o1 fs.length c1) fs.length v1 * vec 22 1 (.slice o2 fs.length c2) fs.length v2 * vec 22 1 (.slice o3 fs.length c3) fs.length v3 * vec 22 1 (.slice o4 fs.length c4) fs.length v4 * vec 22 1 (.slice o5 fs.length c5) fs.length v5 * blk bw [.slice o5 fs.length c5] 37) (by ac_rfl)).cell (i := 0) rfl
  have HB1 := Hid.mk' (fun k => show Calls Tryd.prog 73 #[.slice o1 fs.length c1, .slice o2 fs.length c2] (w10.drewN k) (Ret fun v w' => Sat (w10.drewN k) w' (vec 22 1 v (fs.length + fs.length) (v1 ++ v2))) from by
    have := law13_behind v1 v2 o1 o2 c1 c2 (r1.drewN (k := k)) (r2.drewN (k := k)) s1 s2 (by omega)
    rw [l1, l2] at this
    exact this)
  have R3 := Hid.mk' r3
  have R4 := Hid.mk' r4
  have R5 := Hid.mk' r5
  have S1 := Hid.mk' s1
  have S2 := Hid.mk' s2
  have S3 := Hid.mk' s3
  have S4 := Hid.mk' s4
  have S5 := Hid.mk' s5
  have L1 := Hid.mk' l1
  have L2 := Hid.mk' l2
  have L3 := Hid.mk' l3
  have L4 := Hid.mk' l4
  have L5 := Hid.mk' l5
  have LA := Hid.mk' (show (v1 ++ v2).length = fs.length + fs.length by rw [List.length_append, l1, l2])
  have LB := Hid.mk' (show (v3 ++ v4).length = fs.length + fs.length by rw [List.length_append, l3, l4])
  have LC := Hid.mk' (show ((v1 ++ v2) ++ (v3 ++ v4)).length = fs.length + fs.length + (fs.length + fs.length) by rw [List.length_append, LA.out, LB.out])
  clear r1 r2 r3 r4 r5 s1 s2 s3 s4 s5 l1 l2 l3 l4 l5
  have tok1 : True := trivial
  go_wp2_with fail
  go_region_held3 (fun wr => wr.cell? ⟨bw, 0, none⟩ = some (.slice o5 fs.length c5)) (first | exact k0 | exact kb1 | exact kb2 | exact kb3 | exact kb4)
    (first
      | (go_at_call 73; have _t := tok1; go_loud (refine (HB1.out _).mono ?_); rintro e w11 ⟨v, rfl, hx⟩; have hsa := (hs12.drewN _).glue hx; obtain ⟨x1, y1, rfl, _, _, _⟩ := hsa.vec_rd; have kb1 : w11.cell? ⟨bw, 0, none⟩ = some (.slice o5 fs.length c5) := (hx.below.cell (World.block_lt_of_cell? _ _ k0)).trans k0; clear tok1 _t; have tok2 : True := trivial)
      | (go_at_call 73; have _t := tok2; go_loud (refine (behind_at v3 v4 L3.out L4.out o3 o4 c3 c4 ((R3.out.drewN (k := 1)).mono hx.below) ((R4.out.drewN (k := 1)).mono hx.below) S3.out S4.out (by omega)).mono ?_); rintro e w12 ⟨v, rfl, hy⟩; have hsb := hsa.glue hy; obtain ⟨x2, y2, rfl, _, _, _⟩ := hsb.vec_rd; have kb2 : w12.cell? ⟨bw, 0, none⟩ = some (.slice o5 fs.length c5) := (hy.below.cell (World.block_lt_of_cell? _ _ kb1)).trans kb1; clear tok2 _t; have tok3 : True := trivial)
      | (go_at_call 73; have _t := tok3; go_loud (refine (behind_at (v1 ++ v2) (v3 ++ v4) LA.out LB.out x1 x2 y1 y2 hsb.swap.rd hsb.rd (S1.out.append S2.out) (S3.out.append S4.out) (by omega)).mono ?_); rintro e w13 ⟨v, rfl, hz⟩; have hsc := hsb.glue hz; obtain ⟨x3, y3, rfl, _, _, _⟩ := hsc.vec_rd; have kb3 : w13.cell? ⟨bw, 0, none⟩ = some (.slice o5 fs.length c5) := (hz.below.cell (World.block_lt_of_cell? _ _ kb2)).trans kb2; clear tok3 _t; have tok4 : True := trivial)
      | (go_at_call 73; have _t := tok4; go_loud (refine (behind_at ((v1 ++ v2) ++ (v3 ++ v4)) v5 LC.out L5.out x3 o5 y3 c5 hsc.rd ((((R5.out.drewN (k := 1)).mono hx.below).mono hy.below).mono hz.below) ((S1.out.append S2.out).append (S3.out.append S4.out)) S5.out (by omega)).mono ?_); rintro e w14 ⟨v, rfl, hv⟩; have hsd := hsc.glue hv; obtain ⟨x4, y4, rfl, _, _, _⟩ := hsd.vec_rd; have kb4 : w14.cell? ⟨bw, 0, none⟩ = some (.slice o5 fs.length c5) := (hv.below.cell (World.block_lt_of_cell? _ _ kb3)).trans kb3; clear tok4 _t))
  obtain ⟨N, hN⟩ : ∃ N, fs.length + fs.length + (fs.length + fs.length) + fs.length = N := ⟨_, rfl⟩
  obtain ⟨V, hV⟩ : ∃ V, ((v1 ++ v2) ++ (v3 ++ v4)) ++ v5 = V := ⟨_, rfl⟩
  obtain ⟨PS, hPS⟩ : ∃ PS, ((fs ++ fs) ++ (fs ++ fs)) ++ fs = PS := ⟨_, rfl⟩
  have hVN : V.length = N := by rw [← hV, ← hN, List.length_append, LC.out, L5.out]
  have hPN : PS.length = N := by rw [← hPS, ← hN]; simp only [List.length_append]
  have hPM : ∀ p ∈ PS, 1 ≤ p.length ∧ p.length ≤ 8192 := fun p hp => by
    rw [← hPS] at hp
    simp only [List.mem_append] at hp
    exact HFM.out p (by rcases hp with ((h | h) | (h | h)) | h <;> exact h)
  have hNb : N ≤ 5242880 := by omega
  have hs15 : Sat w w14 (pr [vec 5 1 (.slice pa data.length pc) data.length (bvs data), dk bd (Dk.new P 1073741824), vec 5 1 (.slice a1 P.length d1) P.length (bvs P)] * vec 22 1 (.slice x4 N y4) N V * bvl V PS) := by
    have e : bvl V PS = bvl v1 fs * bvl v2 fs * bvl v3 fs * bvl v4 fs * bvl v5 fs := by rw [← hV, ← hPS, bvl_append (by rw [LC.out]; simp only [List.length_append]), bvl_append (by rw [LA.out]; simp only [List.length_append]), bvl_append L1.out, bvl_append L3.out]; ac_rfl
    rw [e]
    rw [hN, hV] at hsd
    exact (hsd.perm (B := pr [vec 5 1 (.slice pa data.length pc) data.length (bvs data), dk bd (Dk.new P 1073741824), vec 5 1 (.slice a1 P.length d1) P.length (bvs P)] * vec 22 1 (.slice x4 N y4) N V * (bvl v1 fs * bvl v2 fs * bvl v3 fs * bvl v4 fs * bvl v5 fs) * (blk bw [.slice o5 fs.length c5] 37 * vec 22 1 (.slice o1 fs.length c1) fs.length v1 * vec 22 1 (.slice o2 fs.length c2) fs.length v2 * vec 22 1 (.slice o3 fs.length c3) fs.length v3 * vec 22 1 (.slice o4 fs.length c4) fs.length v4 * vec 22 1 (.slice o5 fs.length c5) fs.length v5 * vec 22 1 (.slice x1 (fs.length + fs.length) y1) (fs.length + fs.length) (v1 ++ v2) * vec 22 1 (.slice x2 (fs.length + fs.length) y2) (fs.length + fs.length) (v3 ++ v4) * vec 22 1 (.slice x3 (fs.length + fs.length + (fs.length + fs.length)) y3) (fs.length + fs.length + (fs.length + fs.length)) ((v1 ++ v2) ++ (v3 ++ v4)))) (by ac_rfl)).drop
  have HVN := Hid.mk' hVN
  have HPN := Hid.mk' hPN
  have HPM := Hid.mk' hPM
  rw [hN]
  clear hs2 hs5 hs6 hs8 hsd hsc hsb hsa hs12 hx hy hz hv kb1 kb2 kb3 kb4 k0 R3 R4 R5 S1 S2 S3 S4 S5 L1 L2 L3 L4 L5 LA LB LC HB1 hV hPS hN hVN hPN hPM
  go_wp2_with fail
  obtain ⟨hb, rfl⟩ | hN0 : (∃ hb, x4 = some ⟨hb, 0, none⟩) ∨ N = 0 := by
    obtain ⟨_, ⟨_, h, _⟩ | ⟨g, cap, sp, e, _⟩⟩ := hs15.swap.vec_cases
    · exact Or.inr h
    · cases e; exact Or.inl ⟨g, rfl⟩
  · go_loopw [22] (fun i wr => ∃ k : Nat, k ≤ N ∧ i = .int .i64 k ∧ Sat w wr ((pr [vec 5 1 (.slice pa data.length pc) data.length (bvs data), dk bd (Dk.new P 1073741824), vec 5 1 (.slice a1 P.length d1) P.length (bvs P)]) * vec 22 1 (.slice (some ⟨hb, 0, none⟩) N y4) N V * bvl V (filled PS k))) (fun i _ => N - (intOf i).toNat)
    case atStart => exact ⟨0, by omega, rfl, hs15⟩
    case round =>
      clear hs15
      obtain ⟨k, hk, rfl, hS⟩ := hrel
      by_cases hlt : k < N
      · obtain ⟨A, p, B, hpm, hA, hB, hf1, hf2⟩ := filled_step PS k (by rw [HPN.out]; exact hlt)
        have hkm := HPM.out p hpm
        obtain ⟨v, hv, hsp⟩ := bvl_split (V := V) (A := A) (B := B) (by rw [HVN.out, hA, hB, HPN.out]; omega)
        rw [hf1, hsp, hA] at hS
        rw [hA] at hv
        have HF2 := Hid.mk' (show bvl V (filled PS (k + 1)) = bvl (V.take k) A * bvl (V.drop (k + 1)) B * vec 5 1 v p.length (bvs (List.replicate p.length (mk1 k))) by rw [hf2, hsp, hA, List.length_replicate])
        have hp1 := hkm.1
        have hp2 := hkm.2
        have hS0 := hS.perm (B := (pr [vec 5 1 (.slice pa data.length pc) data.length (bvs data), dk bd (Dk.new P 1073741824), vec 5 1 (.slice a1 P.length d1) P.length (bvs P)]) * vec 22 1 (.slice (some ⟨hb, 0, none⟩) N y4) N V * bvl (V.take k) A * bvl (V.drop (k + 1)) B * vec 5 1 v p.length (bvs p)) (by ac_rfl)
        clear hS hf1 hf2 hsp hkm hpm
        obtain ⟨_, ⟨_, h, _⟩ | ⟨g, cap, sp, rfl, c1, c2, c3, hS1⟩⟩ := hS0.vec_cases
        · omega
        have hh := (hS1.rot4).rd
        obtain ⟨hbb, ho, he, hcells⟩ := hh.addr (by intro e; have := HVN.out; rw [e] at this; simp at this; omega)
        cases he
        have hc1 := hcells k _ hv
        rw [Nat.zero_add] at hc1
        have HC := Hid.mk' (fun (w' : World) (G : HP) (h : Sat w w' ((pr [vec 5 1 (.slice pa data.length pc) data.length (bvs data), dk bd (Dk.new P 1073741824), vec 5 1 (.slice a1 P.length d1) P.length (bvs P)]) * vec 22 1 (.slice (some ⟨hb, 0, none⟩) N y4) N V * G)) => show w'.cell? ⟨hb, k, none⟩ = some (.slice (some ⟨g, 0, none⟩) p.length cap) from by
          obtain ⟨b', o', e', hc'⟩ := (h.swap).rd.addr (by intro e; have := HVN.out; rw [e] at this; simp at this; omega)
          cases e'
          have := hc' k _ hv
          rwa [Nat.zero_add] at this)
        clear hS0 hh hcells hc1 hv
        have hS2 := hS1.perm (B := (pr [vec 5 1 (.slice pa data.length pc) data.length (bvs data), dk bd (Dk.new P 1073741824), vec 5 1 (.slice a1 P.length d1) P.length (bvs P)]) * vec 22 1 (.slice (some ⟨hb, 0, none⟩) N y4) N V * bvl (V.take k) A * bvl (V.drop (k + 1)) B * blk g (bvs (List.replicate 0 (mk1 k) ++ p.drop 0) ++ sp) 5) rfl
        clear hS1
        have HCC := Hid.mk' c3
        clear c3
        go_wp2_with fail
        go_loopw [23] (fun j wr => ∃ m : Nat, m ≤ p.length ∧ j = .int .i64 m ∧ Sat w wr ((pr [vec 5 1 (.slice pa data.length pc) data.length (bvs data), dk bd (Dk.new P 1073741824), vec 5 1 (.slice a1 P.length d1) P.length (bvs P)]) * vec 22 1 (.slice (some ⟨hb, 0, none⟩) N y4) N V * bvl (V.take k) A * bvl (V.drop (k + 1)) B * blk g (bvs (List.replicate m (mk1 k) ++ p.drop m) ++ sp) 5)) (fun j _ => p.length - (intOf j).toNat)
        case atStart => exact ⟨0, by omega, rfl, hS2⟩
        case round =>
          clear hS2
          obtain ⟨m, hm, rfl, hT⟩ := hrel
          have hcell := HC.out _ (bvl (V.take k) A * bvl (V.drop (k + 1)) B * blk g (bvs (List.replicate m (mk1 k) ++ p.drop m) ++ sp) 5) (hT.perm (by ac_rfl))
          by_cases hml : m < p.length
          · have hq := hT.cell (i := m) (v := bv p[m]) (by rw [List.getElem?_append_left (by rw [bvs_length, fill_len _ _ _ hm]; exact hml)]; exact fill_get p m _ hml)
            have hfz := hT.free m
            have HST := Hid.mk' (fun (X : Value) (hX : X = bv (mk1 k)) => show Sat w (wr.setCell ⟨g, m, none⟩ X) ((pr [vec 5 1 (.slice pa data.length pc) data.length (bvs data), dk bd (Dk.new P 1073741824), vec 5 1 (.slice a1 P.length d1) P.length (bvs P)]) * vec 22 1 (.slice (some ⟨hb, 0, none⟩) N y4) N V * bvl (V.take k) A * bvl (V.drop (k + 1)) B * blk g (bvs (List.replicate (m + 1) (mk1 k) ++ p.drop (m + 1)) ++ sp) 5) from by
              subst hX
              have h := hT.store m (bv (mk1 k))
              rw [List.set_append_left _ _ (by rw [bvs_length, fill_len _ _ _ hm]; exact hml), fill_set p m _ hml] at h
              exact h)
            unfold bv at hq
            go_wp2_with fail
            exact ⟨⟨m + 1, by omega, rfl, HST.out _ (ret_int (by rw [mk1_val]; omega))⟩, by simp [intOf]; omega⟩
          · obtain rfl : m = p.length := by omega
            rw [List.drop_length, List.append_nil] at hT
            have h5 := Sat.vec_mk (n := p.length) (cap := cap) (hT) (by rw [bvs_length, List.length_replicate, Nat.mul_one]) c1 c2 (by have := HCC.out; rw [List.length_append, bvs_length] at this; rw [List.length_append, bvs_length, List.length_replicate]; exact this)
            go_wp2_with fail
            refine ⟨⟨k + 1, by omega, rfl, ?_⟩, by simp [intOf]; omega⟩
            rw [HF2.out]
            exact h5.perm (by ac_rfl)
      · obtain rfl : N = k := by omega
        have hfa : filled PS N = marked 0 PS := by have := filled_all PS; rw [HPN.out] at this; exact this
        rw [hfa] at hS
        obtain ⟨Q, hQ⟩ : ∃ Q, marked 0 PS = Q := ⟨_, rfl⟩
        have HQM := Hid.mk' (show ∀ q ∈ Q, 1 ≤ q.length ∧ q.length ≤ 8192 from hQ ▸ marked_mem HPM.out)
        have HQN := Hid.mk' (show Q.length = N by rw [← hQ, marked_length]; exact HPN.out)
        rw [hQ] at hS
        have HQ := Hid.mk' hQ
        clear hQ hfa
        have hS2 : Sat w wr ((pr [vec 5 1 (.slice pa data.length pc) data.length (bvs data), dk bd (Dk.new P 1073741824), vec 5 1 (.slice a1 P.length d1) P.length (bvs P)]) * vec 22 1 (.slice (some ⟨hb, 0, none⟩) N y4) N V * vec 22 1 (.slice none 0 0) 0 [] * grl (V.take 0) (Q.take 0) [] (grown 0 (Q.take 0)) * bvl (V.drop 0) (Q.drop 0)) := by
          have h := (hS.vec_nil 22 1).one
          rw [← grl_nil] at h
          exact h.perm (by simp only [List.take_zero, List.drop_zero, grown]; ac_rfl)
        clear hS
        go_wp2_with fail
        go_loopw [24, 25] (fun lv i wr => ∃ (k : Nat) (us : List Value), k ≤ N ∧ i = .int .i64 k ∧ Sat w wr ((pr [vec 5 1 (.slice pa data.length pc) data.length (bvs data), dk bd (Dk.new P 1073741824), vec 5 1 (.slice a1 P.length d1) P.length (bvs P)]) * vec 22 1 (.slice (some ⟨hb, 0, none⟩) N y4) N V * vec 22 1 lv k us * grl (V.take k) (Q.take k) us (grown 0 (Q.take k)) * bvl (V.drop k) (Q.drop k))) (fun _ i _ => N - (intOf i).toNat)
        case atStart => exact ⟨0, [], by omega, rfl, hS2⟩
        case round =>
          clear hS2
          obtain ⟨k, us, hk, rfl, hS⟩ := hrel
          by_cases hlt : k < N
          · obtain ⟨v, q, hv, hq, hqm, ht1, ht2, hbd'⟩ := bvl_drop (V := V) (Q := Q) (k := k) (by rw [HVN.out]; exact hlt) (by rw [HQN.out]; exact hlt)
            have hq1 := (HQM.out q hqm).1
            have hq2 := (HQM.out q hqm).2
            have HTV := Hid.mk' ht1
            have HTQ := Hid.mk' ht2
            rw [hbd'] at hS
            obtain ⟨la, lcp, rfl, _, _, _⟩ := (hS.perm (B := (pr [vec 5 1 (.slice pa data.length pc) data.length (bvs data), dk bd (Dk.new P 1073741824), vec 5 1 (.slice a1 P.length d1) P.length (bvs P)]) * vec 22 1 (.slice (some ⟨hb, 0, none⟩) N y4) N V * grl (V.take k) (Q.take k) us (grown 0 (Q.take k)) * (vec 5 1 v q.length (bvs q) * bvl (V.drop (k + 1)) (Q.drop (k + 1))) * vec 22 1 _ k us) (by ac_rfl)).vec_rd
            obtain ⟨va, vcap, rfl, _, _, _⟩ := (hS.perm (B := (pr [vec 5 1 (.slice pa data.length pc) data.length (bvs data), dk bd (Dk.new P 1073741824), vec 5 1 (.slice a1 P.length d1) P.length (bvs P)]) * vec 22 1 (.slice (some ⟨hb, 0, none⟩) N y4) N V * vec 22 1 (.slice la k lcp) k us * grl (V.take k) (Q.take k) us (grown 0 (Q.take k)) * bvl (V.drop (k + 1)) (Q.drop (k + 1)) * vec 5 1 v q.length (bvs q)) (by ac_rfl)).vec_rd
            have hS1 := (hS.perm (B := (pr [vec 5 1 (.slice pa data.length pc) data.length (bvs data), dk bd (Dk.new P 1073741824), vec 5 1 (.slice a1 P.length d1) P.length (bvs P)]) * vec 22 1 (.slice (some ⟨hb, 0, none⟩) N y4) N V * vec 22 1 (.slice la k lcp) k us * grl (V.take k) (Q.take k) us (grown 0 (Q.take k)) * bvl (V.drop (k + 1)) (Q.drop (k + 1)) * vec 5 1 (.slice va q.length vcap) q.length (bvs q)) (by ac_rfl)).gr_start
            have hs16 : Sat w wr ((pr [vec 5 1 (.slice pa data.length pc) data.length (bvs data), dk bd (Dk.new P 1073741824), vec 5 1 (.slice a1 P.length d1) P.length (bvs P)]) * vec 22 1 (.slice (some ⟨hb, 0, none⟩) N y4) N V * vec 22 1 (.slice la k lcp) k us * grl (V.take k) (Q.take k) us (grown 0 (Q.take k)) * bvl (V.drop (k + 1)) (Q.drop (k + 1)) * gr 5 (.slice va q.length vcap) q.length (bvs q) (.slice va q.length vcap) (q.length + 0) (bvs (q ++ List.replicate 0 (mk2 k)))) := by
              rw [List.replicate_zero, List.append_nil]; exact hS1
            have hcell : wr.cell? ⟨hb, k, none⟩ = some (.slice va q.length vcap) := by
              obtain ⟨b', o', e', hc'⟩ := (hS1.perm (B := (pr [vec 5 1 (.slice pa data.length pc) data.length (bvs data), dk bd (Dk.new P 1073741824), vec 5 1 (.slice a1 P.length d1) P.length (bvs P)]) * vec 22 1 (.slice la k lcp) k us * grl (V.take k) (Q.take k) us (grown 0 (Q.take k)) * bvl (V.drop (k + 1)) (Q.drop (k + 1)) * gr 5 (.slice va q.length vcap) q.length (bvs q) (.slice va q.length vcap) q.length (bvs q) * vec 22 1 (.slice (some ⟨hb, 0, none⟩) N y4) N V) (by ac_rfl)).rd.addr (by intro e; have := HVN.out; rw [e] at this; simp at this; omega)
              cases e'
              have := hc' k _ hv
              rwa [Nat.zero_add] at this
            clear hS hS1 hbd' ht1 ht2 hqm hv hq
            go_wp2_with fail
            go_loopw [26, 27] (fun pv j wr => ∃ m : Nat, m ≤ 64 ∧ j = .int .i64 m ∧ Sat w wr ((pr [vec 5 1 (.slice pa data.length pc) data.length (bvs data), dk bd (Dk.new P 1073741824), vec 5 1 (.slice a1 P.length d1) P.length (bvs P)]) * vec 22 1 (.slice (some ⟨hb, 0, none⟩) N y4) N V * vec 22 1 (.slice la k lcp) k us * grl (V.take k) (Q.take k) us (grown 0 (Q.take k)) * bvl (V.drop (k + 1)) (Q.drop (k + 1)) * gr 5 (.slice va q.length vcap) q.length (bvs q) pv (q.length + m) (bvs (q ++ List.replicate m (mk2 k))))) (fun _ j _ => 64 - (intOf j).toNat)
            case atStart => exact ⟨0, by omega, rfl, hs16⟩
            case round =>
              clear hs16 hcell
              obtain ⟨m, hm, rfl, hT⟩ := hrel
              by_cases hml : m < 64
              · obtain ⟨_, _, po, pcp, _, rfl, _, _, _, _, _, _, _, _⟩ := hT.gr_rd
                go_wp2_with (at_builtin; go_loud (refine sl_append_gr rfl _ _ 22 rfl 5 (.int .u8 0) 1 Tryd.underlying22 info_u8 rfl _ _ _ (q.length + m) _ _ rfl (by exact hT.skip) _ 1 _ [.int .u8 (255 - (k : Int) % 2)] rfl rfl (by exact Rd.made _ _ _ _) (by intro u hu; rw [List.mem_singleton] at hu; subst hu; rfl) (by simp only [maxLen]; omega) (by omega) ?_); intro v' w' hS')
                refine ⟨⟨m + 1, by omega, rfl, ?_⟩, by simp [intOf]; omega⟩
                have e : bvs (q ++ List.replicate (m + 1) (mk2 k)) = bvs (q ++ List.replicate m (mk2 k)) ++ [.int .u8 (255 - (k : Int) % 2)] := by
                  rw [List.replicate_succ', ← List.append_assoc, bvs_append]
                  exact congrArg (fun x => bvs (q ++ List.replicate m (mk2 k)) ++ [Value.int .u8 x]) (by rw [mk2_val]; omega)
                rw [e]
                exact hS'
              · obtain rfl : m = 64 := by omega
                obtain ⟨_, _, po, pcp, _, rfl, _, _, _, _, _, _, _, _⟩ := hT.gr_rd
                have hT2 := hT.perm (B := (pr [vec 5 1 (.slice pa data.length pc) data.length (bvs data), dk bd (Dk.new P 1073741824), vec 5 1 (.slice a1 P.length d1) P.length (bvs P)]) * vec 22 1 (.slice (some ⟨hb, 0, none⟩) N y4) N V * grl (V.take k) (Q.take k) us (grown 0 (Q.take k)) * bvl (V.drop (k + 1)) (Q.drop (k + 1)) * gr 5 (.slice va q.length vcap) q.length (bvs q) (.slice po (q.length + 64) pcp) (q.length + 64) (bvs (q ++ List.replicate 64 (mk2 k))) * vec 22 1 (.slice la k lcp) k us) (by ac_rfl)
                have hgl := (hT2.swap.perm (B := (pr [vec 5 1 (.slice pa data.length pc) data.length (bvs data), dk bd (Dk.new P 1073741824), vec 5 1 (.slice a1 P.length d1) P.length (bvs P)]) * vec 22 1 (.slice (some ⟨hb, 0, none⟩) N y4) N V * bvl (V.drop (k + 1)) (Q.drop (k + 1)) * gr 5 (.slice va q.length vcap) q.length (bvs q) (.slice po (q.length + 64) pcp) (q.length + 64) (bvs (q ++ List.replicate 64 (mk2 k))) * vec 22 1 (.slice la k lcp) k us * grl (V.take k) (Q.take k) us (grown 0 (Q.take k))) (by ac_rfl)).grl_len
                have HGL := Hid.mk' hgl
                clear hT hgl
                go_wp2_with (at_builtin; go_loud (refine sl_append rfl _ _ 37 rfl 22 (.slice none 0 0) 1 24 Tryd.underlying37 info_lists rfl (by decide) _ k _ rfl (by exact hT2.skip) _ 1 _ [.slice po (q.length + 64) pcp] rfl rfl (by exact Rd.made _ _ _ _) (by intro u hu; rw [List.mem_singleton] at hu; subst hu; rfl) (by simp only [maxLen]; omega) (by omega) ?_); intro v' w' hS')
                refine ⟨⟨k + 1, us ++ [.slice po (q.length + 64) pcp], by omega, rfl, ?_⟩, by simp [intOf]; omega⟩
                have hlq : (Q.take k).length = k := by rw [List.length_take, HQN.out]; omega
                rw [HTV.out, HTQ.out, grown_snoc, Nat.zero_add, hlq, grl_snoc HGL.out.1 HGL.out.2.1 HGL.out.2.2, List.length_append, List.length_replicate]
                exact hS'.perm (by ac_rfl)
          · obtain rfl : N = k := by omega
            obtain ⟨la, lcp, rfl, _, hrl, _⟩ := (hS.perm (B := (pr [vec 5 1 (.slice pa data.length pc) data.length (bvs data), dk bd (Dk.new P 1073741824), vec 5 1 (.slice a1 P.length d1) P.length (bvs P)]) * vec 22 1 (.slice (some ⟨hb, 0, none⟩) N y4) N V * grl (V.take N) (Q.take N) us (grown 0 (Q.take N)) * bvl (V.drop N) (Q.drop N) * vec 22 1 _ N us) (by ac_rfl)).vec_rd
            have hS3 : Sat w wr ((pr [vec 5 1 (.slice pa data.length pc) data.length (bvs data), dk bd (Dk.new P 1073741824), vec 5 1 (.slice a1 P.length d1) P.length (bvs P)]) * vec 22 1 (.slice (some ⟨hb, 0, none⟩) N y4) N V * vec 22 1 (.slice la N lcp) N us * grl V Q us (grown 0 Q)) := by
              have e1 : V.take N = V := List.take_of_length_le (by rw [HVN.out]; exact Nat.le_refl _)
              have e2 : Q.take N = Q := List.take_of_length_le (by rw [HQN.out]; exact Nat.le_refl _)
              have e3 : V.drop N = [] := List.drop_eq_nil_of_le (by rw [HVN.out]; exact Nat.le_refl _)
              have e4 : Q.drop N = [] := List.drop_eq_nil_of_le (by rw [HQN.out]; exact Nat.le_refl _)
              rw [e1, e2, e3, e4, bvl_nil, HP.mul_one] at hS
              exact hS
            have hgl := hS3.grl_len
            have hrh := (hS3.perm (B := (pr [vec 5 1 (.slice pa data.length pc) data.length (bvs data), dk bd (Dk.new P 1073741824), vec 5 1 (.slice a1 P.length d1) P.length (bvs P)]) * vec 22 1 (.slice la N lcp) N us * grl V Q us (grown 0 Q) * vec 22 1 (.slice (some ⟨hb, 0, none⟩) N y4) N V) (by ac_rfl)).rd
            have HC2 := Hid.mk' (fun (k : Nat) (hk : k < N) => show ∃ (L ab ao c lb lo bb bo d : Nat), 1 ≤ L ∧ L ≤ 8192 ∧ L ≤ c ∧ L + 64 ≤ d ∧ la = some ⟨lb, lo, none⟩ ∧ wr.cell? ⟨hb, k, none⟩ = some (.slice (some ⟨ab, ao, none⟩) L c) ∧ wr.cell? ⟨lb, lo + k, none⟩ = some (.slice (some ⟨bb, bo, none⟩) (L + 64) d) ∧
                (∀ m, m < L → wr.cell? ⟨ab, ao + m, none⟩ = some (.int .u8 ((k : Int) % 250 + 1)) ∧ wr.cell? ⟨bb, bo + m, none⟩ = some (.int .u8 ((k : Int) % 250 + 1))) ∧ (∀ m, m < 64 → wr.cell? ⟨bb, bo + (L + m), none⟩ = some (.int .u8 (255 - (k : Int) % 2))) from by
              have hkP : k < PS.length := by rw [HPN.out]; exact hk
              have hqk := marked_get 0 PS k hkP
              rw [HQ.out, Nat.zero_add] at hqk
              have hgk := grown_get 0 Q k (by rw [HQN.out]; exact hk)
              obtain ⟨hk', hqe⟩ := List.getElem?_eq_some_iff.1 hqk
              rw [hqe, Nat.zero_add] at hgk
              have hpl := HPM.out PS[k] (List.getElem_mem hkP)
              generalize PS[k].length = L at hqk hgk hpl hqe
              obtain ⟨ao, bo, c, d, g1, g2, r1, r2, g3, g4⟩ := hS3.grl_rd hqk hgk
              simp only [List.length_append, List.length_replicate] at g1 g2 g3 g4
              obtain ⟨hb', ho', e', hc'⟩ := hrh.addr (by intro e; rw [e] at g1; simp at g1)
              cases e'
              obtain ⟨lb, lo, rfl, hc''⟩ := hrl.addr (by intro e; rw [e] at g2; simp at g2)
              obtain ⟨ab, ao', rfl, ha⟩ := r1.addr (by intro e; have := bvs_length (List.replicate L (mk1 k)); rw [e, List.length_replicate] at this; simp at this; omega)
              obtain ⟨bb, bo', rfl, hb2⟩ := r2.addr (by intro e; have := bvs_length (List.replicate L (mk1 k) ++ List.replicate 64 (mk2 k)); rw [e, List.length_append, List.length_replicate, List.length_replicate] at this; simp at this)
              have hm1 : bv (mk1 k) = .int .u8 ((k : Int) % 250 + 1) := ret_int (by rw [mk1_val]; omega)
              have hm2 : bv (mk2 k) = .int .u8 (255 - (k : Int) % 2) := ret_int (by rw [mk2_val]; omega)
              refine ⟨L, ab, ao', c, lb, lo, bb, bo', d, hpl.1, hpl.2, g3, g4, rfl, by have := hc' k _ g1; rwa [Nat.zero_add] at this, hc'' k _ g2, fun m hm => ⟨?_, ?_⟩, fun m hm => ?_⟩
              · rw [← hm1]; exact ha m _ (by rw [bvs_replicate, List.getElem?_replicate, if_pos hm])
              · rw [← hm1]; exact hb2 m _ (by rw [bvs_append, bvs_replicate, bvs_replicate, List.getElem?_append_left (by simpa using hm), List.getElem?_replicate, if_pos hm])
              · rw [← hm2]; exact hb2 (L + m) _ (by rw [bvs_append, bvs_replicate, bvs_replicate, List.getElem?_append_right (by simp), List.length_replicate, Nat.add_sub_cancel_left, List.getElem?_replicate, if_pos hm]))
            have HS3 := Hid.mk' hS3
            clear hS hrl hgl hrh hS3
            obtain ⟨wo, rfl⟩ : ∃ wo : World, wo = wr := ⟨_, rfl⟩
            go_wp2_with fail
            go_loopw [28] (fun i w' => ∃ k : Nat, k ≤ N ∧ i = .int .i64 k ∧ w' = wo) (fun i _ => N - (intOf i).toNat)
            case atStart => exact ⟨0, by omega, rfl, rfl⟩
            case round =>
              obtain ⟨k, hk, rfl, rfl⟩ := hrel
              by_cases hlt : k < N
              · obtain ⟨L, ab, ao, c, lb, lo, bb, bo, d, g1, g2, g3, g4, rfl, p1, p2, p3, p4⟩ := HC2.out k hlt
                have P3 := Hid.mk' p3
                have P4 := Hid.mk' p4
                clear p3 p4
                obtain ⟨wo, rfl⟩ : ∃ wo : World, wo = wr := ⟨_, rfl⟩
                go_wp2_with fail
                go_loopw [29] (fun j w' => ∃ m : Nat, m ≤ L ∧ j = .int .i64 m ∧ w' = wo) (fun j _ => L - (intOf j).toNat)
                case atStart => exact ⟨0, by omega, rfl, rfl⟩
                case round =>
                  obtain ⟨m, hm, rfl, rfl⟩ := hrel
                  by_cases hml : m < L
                  · obtain ⟨t1, t2⟩ := P3.out m hml
                    go_wp2_with fail
                    exact ⟨⟨m + 1, by omega, rfl, by first | rfl | trivial⟩, by simp [intOf]; omega⟩
                  · obtain rfl : L = m := by omega
                    obtain ⟨wo, rfl⟩ : ∃ wo : World, wo = wr := ⟨_, rfl⟩
                    go_wp2_with fail
                    go_loopw [30] (fun j w' => ∃ m : Nat, m ≤ 64 ∧ j = .int .i64 (L + m : Nat) ∧ w' = wo) (fun j _ => (L + 64) - (intOf j).toNat)
                    case atStart => exact ⟨0, by omega, rfl, rfl⟩
                    case round =>
                      obtain ⟨m, hm, rfl, rfl⟩ := hrel
                      by_cases hml : m < 64
                      · have t1 := P4.out m hml
                        go_wp2_with fail
                        exact ⟨⟨m + 1, by omega, by go_num, by first | rfl | trivial⟩, by simp [intOf]; omega⟩
                      · obtain rfl : m = 64 := by omega
                        go_wp2_with fail
                        exact ⟨⟨k + 1, by omega, rfl, by first | rfl | trivial⟩, by simp [intOf]; omega⟩
              · obtain rfl : N = k := by omega
                have hS4 := HS3.out.drop.drop.drop
                clear HC2 HS3
                have HKP := Hid.mk' hS4
                clear hS4
                go_wp2_with fail
                refine (disk_look (Dk.Ok.new hPb 1073741824) (HKP.out.at 1)).mono ?_
                rintro e wA ⟨v, rfl, u, rfl, hf1⟩
                obtain ⟨sa, sd, rfl, _, _, _⟩ := hf1.vec_rd
                have hf2 := hf1.back2 (by simp)
                clear hf1
                go_wp2_with fail
                refine (wal_scan_at (HT.out.mono hf2.below) HFS.out HZ.out da dc (HR.out.of0 hf2) hdc hbd2).mono ?_
                rintro e wB ⟨v, rfl, o6, c6, rfl, hx⟩
                have hf3 := hf2.adds hx
                clear hf2 hx
                go_wp2_with fail
                refine (ref13_scan data pa pc (hf3.at 0).rd hbd2 hpc).mono ?_
                rintro e wC ⟨v, rfl, u, rfl, hx⟩
                rw [HFS.out] at hx
                obtain ⟨o7, c7, rfl, _, _, _⟩ := hx.one'.vecs_rd
                have hf4 := hf3.adds hx
                clear hf3 hx
                go_wp2_with fail
                refine (law13_same_true fs o6 o7 _ _ c6 c7 rfl rfl (hf4.at 4).rdl (hf4.at 5).rdl (by omega) (fun p hp => by have := (HFM.out p hp).2; omega)).mono ?_
                rintro e wD ⟨rfl, m1, rfl⟩
                have hf5 := hf4.drewN m1
                generalize wC.drewN m1 = wE at hf5 ⊢
                clear hf4
                go_wp2_with fail
                refine (same_true' data da pa _ _ dc pc rfl rfl (HR.out.of0 hf5) (hf5.at 0).rd hbd).mono ?_
                rintro e wF ⟨rfl, m2, rfl⟩
                have hf6 := hf5.drewN m2
                generalize wE.drewN m2 = wG at hf6 ⊢
                clear hf5
                go_wp2_with fail
                refine (same_true' P a1 sa _ _ d1 sd rfl rfl (hf6.at 2).rd (hf6.at 3).rd hPb).mono ?_
                rintro e wH ⟨rfl, m3, rfl⟩
                go_wp2_with fail
                go_ret
                exact Ret.mk ⟨rfl, ((Sat.start w).ext hf6.below).drewN m3⟩
  · subst hN0
    obtain rfl : V = [] := List.eq_nil_of_length_eq_zero HVN.out
    obtain rfl : PS = [] := List.eq_nil_of_length_eq_zero HPN.out
    have HKP := Hid.mk' hs15.drop.drop
    clear hs15
    go_loopw [22] (fun i wr => i = .int .i64 0 ∧ wr = w14) (fun _ _ => 0)
    case atStart => exact ⟨rfl, rfl⟩
    case round =>
      obtain ⟨rfl, rfl⟩ := hrel
      go_wp2_with fail
      go_loopw [24, 25] (fun lv i w' => lv = .slice none 0 0 ∧ i = .int .i64 0 ∧ w' = wr) (fun _ _ _ => 0)
      case atStart => exact ⟨rfl, rfl, rfl⟩
      case round =>
        obtain ⟨rfl, rfl, rfl⟩ := hrel
        go_wp2_with fail
        go_loopw [28] (fun i w' => i = .int .i64 0 ∧ w' = wr) (fun _ _ => 0)
        case atStart => exact ⟨rfl, rfl⟩
        case round =>
          obtain ⟨rfl, rfl⟩ := hrel
          go_wp2_with fail
          refine (disk_look (Dk.Ok.new hPb 1073741824) (HKP.out.at 1)).mono ?_
          rintro e wA ⟨v, rfl, u, rfl, hf1⟩
          obtain ⟨sa, sd, rfl, _, _, _⟩ := hf1.vec_rd
          have hf2 := hf1.back2 (by simp)
          clear hf1
          go_wp2_with fail
          refine (wal_scan_at (HT.out.mono hf2.below) HFS.out HZ.out da dc (HR.out.of0 hf2) hdc hbd2).mono ?_
          rintro e wB ⟨v, rfl, o6, c6, rfl, hx⟩
          have hf3 := hf2.adds hx
          clear hf2 hx
          go_wp2_with fail
          refine (ref13_scan data pa pc (hf3.at 0).rd hbd2 hpc).mono ?_
          rintro e wC ⟨v, rfl, u, rfl, hx⟩
          rw [HFS.out] at hx
          obtain ⟨o7, c7, rfl, _, _, _⟩ := hx.one'.vecs_rd
          have hf4 := hf3.adds hx
          clear hf3 hx
          go_wp2_with fail
          refine (law13_same_true fs o6 o7 _ _ c6 c7 rfl rfl (hf4.at 4).rdl (hf4.at 5).rdl (by omega) (fun p hp => by have := (HFM.out p hp).2; omega)).mono ?_
          rintro e wD ⟨rfl, m1, rfl⟩
          have hf5 := hf4.drewN m1
          generalize wC.drewN m1 = wE at hf5 ⊢
          clear hf4
          go_wp2_with fail
          refine (same_true' data da pa _ _ dc pc rfl rfl (HR.out.of0 hf5) (hf5.at 0).rd hbd).mono ?_
          rintro e wF ⟨rfl, m2, rfl⟩
          have hf6 := hf5.drewN m2
          generalize wE.drewN m2 = wG at hf6 ⊢
          clear hf5
          go_wp2_with fail
          refine (same_true' P a1 sa _ _ d1 sd rfl rfl (hf6.at 2).rd (hf6.at 3).rd hPb).mono ?_
          rintro e wH ⟨rfl, m3, rfl⟩
          go_wp2_with fail
          go_ret
          exact Ret.mk ⟨rfl, ((Sat.start w).ext hf6.below).drewN m3⟩
end Go.Proofs.YtjhlelcopofkkaaDoor


