/- The walk of the law WalTwice. -/
import Derived.Test.YtjhlelcopofkkaaDoorWLogs
import Derived.Test.YtjhlelcopofkkaaDoorWalTornW
import Derived.Test.YtjhlelcopofkkaaDoorHeld
namespace Go.Proofs.YtjhlelcopofkkaaDoor
open Go.RowKit

theorem frames_split : ∀ (n : Nat) (d : List UInt8), d.length ≤ n → ∃ r, d = enc (frames d) ++ r
  | 0, d, h => by
    obtain rfl : d = [] := List.eq_nil_of_length_eq_zero (by omega)
    exact ⟨[], by rw [frames_short (by decide)]; rfl⟩
  | n + 1, d, h => by
    by_cases hs : snd d = 0
    · exact ⟨d, by rw [frames_nil hs]; rfl⟩
    · have hg := snd_ne hs
      have hl := snd_le hs
      obtain ⟨r, hr⟩ := frames_split n (d.drop (8 + snd d)) (by rw [List.length_drop]; omega)
      refine ⟨r, ?_⟩
      rw [frames_cons hs, enc_cons, List.append_assoc, ← hr]
      have := good_is_wframe hg
      rwa [← snd_good hg] at this
/-- The good head of bytes. -/
def head (d : List UInt8) : List UInt8 := d.take (size (frames d))
theorem head_enc (d : List UInt8) : head d = enc (frames d) := by
  obtain ⟨r, hr⟩ := frames_split d.length d (Nat.le_refl _)
  unfold head
  conv => lhs; arg 2; rw [hr]
  rw [← enc_length, List.take_left' rfl]
theorem head_length (d : List UInt8) : (head d).length = size (frames d) := by rw [head_enc, enc_length]
theorem frames_head (d : List UInt8) : frames (head d) = frames d := by rw [head_enc]; exact frames_enc (fun p hp => frames_mem p hp)
theorem head_head (d : List UInt8) : head (head d) = head d := by rw [head_enc, frames_head, ← head_enc]
theorem head_all {d : List UInt8} (h : d.length ≤ size (frames d)) : head d = d := List.take_of_length_le h

theorem Dk.trunc_live {D : Dk} (ha : D.arms = []) (hd : D.dead = false) {n : Nat} (hn : n ≤ D.bytes.length) : D.trunc n = ({ D with bytes := D.bytes.take n, synced := min D.synced n }, 0) := by
  rw [Dk.trunc_none ha, if_neg (by rw [hd]; simp), if_neg (by omega), Int.toNat_natCast]
theorem Dk.sync_live {D : Dk} (ha : D.arms = []) (hd : D.dead = false) : D.sync = ({ D with synced := D.bytes.length }, 0) := by
  rw [Dk.sync_none ha, if_neg (by rw [hd]; simp)]
theorem wopen_live {D : Dk} (ha : D.arms = []) (hd : D.dead = false) : D.wopen = ({ D with bytes := head D.bytes, synced := (head D.bytes).length }, 0) := by
  have hg : D.gate id = (D, 0) := by rw [Dk.gate_none ha, if_neg (by rw [hd]; simp)]
  unfold Dk.wopen
  rw [hg, if_pos rfl]
  by_cases hlt : size (frames D.bytes) < D.bytes.length
  · rw [if_pos hlt]
    simp only
    rw [Dk.trunc_live ha hd (Nat.le_of_lt hlt), if_pos rfl]
    exact Dk.sync_live (D := { D with bytes := D.bytes.take (size (frames D.bytes)), synced := min D.synced (size (frames D.bytes)) }) ha hd
  · rw [if_neg hlt, head_all (by omega)]
    exact Dk.sync_live ha hd
theorem wopen_new (data : List UInt8) (room : Int) : (Dk.new data room).wopen = (Dk.new (head data) room, 0) := wopen_live rfl rfl

theorem Sat.rdl {w0 w : World} {F : HP} {ao : Option Addr} {n cap : Nat} {ps : List (List UInt8)} (hs : Sat w0 w (F * vecs (.slice ao n cap) ps)) : RdL w ao ps := by
  obtain ⟨a, c, e, _, h, _⟩ := hs.vecs_rd
  obtain ⟨rfl, _, _⟩ := by simpa using e
  exact h

theorem wal_open_at {w0 w : World} {F : HP} {b : Nat} {E : Nat → Addr} {data P : List UInt8} {fs : List (List UInt8)} {z : Nat} {room : Int} (hE1 : ErrAt w0 E 1) (hE : ErrAt w0 E 10) (hT : CrcTab w0) (hl : data.length ≤ 16777216) (h1 : frames data = fs) (h2 : head data = P) (h3 : size fs = z) (hs : Sat w0 w (F * dk b (Dk.new data room))) :
    Calls Tryd.prog 71 #[.pointer (some ⟨b, 0, none⟩)] w (Ret fun v w' => ∃ (bl : Nat) (lo : Option Addr) (lc : Nat), v = .tuple #[.pointer (some ⟨bl, 0, none⟩), .slice lo fs.length lc, .nilIface] ∧ Sat w0 w' (F * dk b (Dk.new P room) * lg bl b ⟨fs.length, z, false⟩ * vecs (.slice lo fs.length lc) fs)) := by
  subst h1; subst h2; subst h3
  refine (wal_open hE1 hE hT (Dk.Ok.new (by omega) room) hl hs).mono ?_
  rintro e w' ⟨v, rfl, hx⟩
  rw [wopen_new] at hx
  rcases hx with ⟨_, bl, u, rfl, hx⟩ | ⟨hx, _⟩
  · obtain ⟨lo, lc, rfl, _, _, _⟩ := hx.vecs_rd
    exact Ret.mk ⟨bl, lo, lc, rfl, hx⟩
  · exact absurd hx (show ¬ (0 : Nat) = 10 by decide)
theorem wal_scan_at {w : World} {P : List UInt8} {fs : List (List UInt8)} {z : Nat} (hT : CrcTab w) (h1 : frames P = fs) (h3 : size fs = z) (ao : Option Addr) (c : Nat) (hr : Rd w ao (bvs P)) (hc : P.length ≤ c) (hn : P.length ≤ 16777216) :
    Calls Tryd.prog 39 #[.slice ao P.length c] w (Ret fun v w' => ∃ (lo : Option Addr) (lc : Nat), v = .tuple #[.slice lo fs.length lc, .int .i64 z] ∧ Sat w w' (vecs (.slice lo fs.length lc) fs)) := by
  subst h1; subst h3
  refine (wal_scan hT P ao c hr hc hn).mono ?_
  rintro e w' ⟨v, rfl, u, rfl, hx⟩
  obtain ⟨lo, lc, rfl, _, _, _⟩ := hx.one'.vecs_rd
  exact Ret.mk ⟨lo, lc, rfl, hx⟩
theorem crash_new (P : List UInt8) (room : Int) : ((Dk.new P room).crash 0).revive = Dk.new P room := by
  have hk : (Dk.new P room).kept 0 = P.length := by unfold Dk.kept; show P.length + min 0 (P.length - P.length) = _; omega
  have hc : (Dk.new P room).crash 0 = (Dk.new P room).fail 0 := if_neg (show ¬ false = true by decide)
  rw [hc]
  show (⟨P.take ((Dk.new P room).kept 0), (Dk.new P room).kept 0, (Dk.new P room).room, false, []⟩ : Dk) = _
  rw [hk, List.take_length]
  rfl
theorem wal_count {w0 w : World} {F : HP} {bl b : Nat} {L : Lg} (hs : Sat w0 w (F * lg bl b L)) : Calls Tryd.prog 74 #[.pointer (some ⟨bl, 0, none⟩)] w (Same (.int .i64 L.count) w) := by
  have k1 := Sat.cell (i := 1) (v := .int .i64 L.count) hs rfl
  clear hs
  go_enter Tryd.func74, Tryd.ntmps74
  go_wp2_with fail
  go_ret
  exact ⟨rfl, rfl⟩
theorem wal_size {w0 w : World} {F : HP} {bl b : Nat} {L : Lg} (hs : Sat w0 w (F * lg bl b L)) : Calls Tryd.prog 75 #[.pointer (some ⟨bl, 0, none⟩)] w (Same (.int .i64 L.size) w) := by
  have k1 := Sat.cell (i := 2) (v := .int .i64 L.size) hs rfl
  clear hs
  go_enter Tryd.func75, Tryd.ntmps75
  go_wp2_with fail
  go_ret
  exact ⟨rfl, rfl⟩

set_option maxRecDepth 20000 in
set_option maxHeartbeats 25600000 in
theorem walk_walTwice {w : World} {E : Nat → Addr} (hE1 : ErrAt w E 1) (hE : ErrAt w E 10) (hT : CrcTab w) (data : List UInt8) (ao : Option Addr) (c : Nat) (hr : Rd w ao (bvs data)) (hl : data.length ≤ 16777216) :
    Calls Tryd.prog 17 #[.slice ao data.length c] w (Ret fun v w' => v = .bool true ∧ Sat w w' 1) := by
  have HE1 := Hid.mk' hE1
  have HE := Hid.mk' hE
  have HT := Hid.mk' hT
  have HR := Hid.mk' hr
  obtain ⟨fs, hfs⟩ : ∃ fs, frames data = fs := ⟨_, rfl⟩
  obtain ⟨P, hP⟩ : ∃ P, head data = P := ⟨_, rfl⟩
  have hPl : P.length = size fs := by rw [← hP, head_length, hfs]
  have hPf : frames P = fs := by rw [← hP, frames_head, hfs]
  have hPh : head P = P := by rw [← hP, head_head]
  have hzl : P.length ≤ data.length := by rw [hPl, ← hfs]; exact size_frames data
  have hfl : fs.length ≤ 16777216 := by have := len_le_size fs; omega
  have hfm : ∀ p ∈ fs, p.length ≤ 16777216 := fun p hp => by rw [← hfs] at hp; have := (frames_mem p hp).2; omega
  have hbd : data.length ≤ 140737488351232 := by omega
  have hPb : P.length ≤ 140737488351232 := by omega
  have hPb2 : P.length ≤ 16777216 := by omega
  have HFS := Hid.mk' hfs
  have HPH := Hid.mk' hP
  have HZ := Hid.mk' hPl.symm
  have HPF := Hid.mk' hPf
  have HPP := Hid.mk' hPh
  have HBE := Hid.mk' (law13_begun hT)
  obtain ⟨rr, hrr⟩ : ∃ rr, P ++ rr = data := ⟨data.drop P.length, by rw [← hP]; unfold head; rw [List.length_take, Nat.min_eq_left (size_frames data), List.take_append_drop]⟩
  have HRR := Hid.mk' hrr
  clear hE hE1 hT hr hfs hP hPl hPf hPh hrr
  go_enter Tryd.func17, Tryd.ntmps17
  go_wp2_with (go_at_call 37; refine HBE.out.mono ?_; rintro e w0 ⟨v, rfl, rfl, hs0⟩)
  refine (kit_copy data ao c (HR.out.of0 hs0) hbd).mono ?_
  rintro e w1 ⟨v, rfl, hx⟩
  have hs1 := hs0.glue hx
  obtain ⟨pa, pc, rfl, hpc, _, hpn⟩ := hs1.vec_rd
  clear hx
  go_wp2_with fail
  refine (disk_open hs1 data ao c (HR.out.of0 hs1) hbd 1073741824).mono ?_
  rintro e w2 ⟨v, rfl, bd, rfl, hs2⟩
  go_wp2_with fail
  refine (wal_open_at HE1.out HE.out HT.out hl HFS.out HPH.out HZ.out hs2).mono ?_
  rintro e w3 ⟨v, rfl, l1, o1, c1, rfl, hs3⟩
  clear hs0 hs1 hs2
  have hs4 := hs3.perm (B := 1 * vec 5 1 (.slice pa data.length pc) data.length (bvs data) * lg l1 bd ⟨fs.length, P.length, false⟩ * vecs (.slice o1 fs.length c1) fs * dk bd (Dk.new P 1073741824)) (by ac_rfl)
  clear hs3
  go_wp2_with fail
  refine (disk_look (Dk.Ok.new hPb 1073741824) hs4).mono ?_
  rintro e w4 ⟨v, rfl, u, rfl, hs5⟩
  have hs5 : Sat w w4 (1 * vec 5 1 (.slice pa data.length pc) data.length (bvs data) * lg l1 bd ⟨fs.length, P.length, false⟩ * vecs (.slice o1 fs.length c1) fs * dk bd (Dk.new P 1073741824) * vec 5 1 u P.length (bvs P)) := hs5
  obtain ⟨a1, d1, rfl, had1, _, _⟩ := hs5.vec_rd
  have hs6 := hs5.swap
  clear hs4 hs5
  go_wp2_with fail
  refine (wal_open_at HE1.out HE.out HT.out hPb2 HPF.out HPP.out HZ.out hs6).mono ?_
  rintro e w5 ⟨v, rfl, l2, o2, c2, rfl, hs7⟩
  have hs8 := hs7.perm (B := 1 * vec 5 1 (.slice pa data.length pc) data.length (bvs data) * lg l1 bd ⟨fs.length, P.length, false⟩ * vecs (.slice o1 fs.length c1) fs * vec 5 1 (.slice a1 P.length d1) P.length (bvs P) * lg l2 bd ⟨fs.length, P.length, false⟩ * vecs (.slice o2 fs.length c2) fs * dk bd (Dk.new P 1073741824)) (by ac_rfl)
  clear hs6 hs7
  go_wp2_with fail
  refine (disk_look (Dk.Ok.new hPb 1073741824) hs8).mono ?_
  rintro e w6 ⟨v, rfl, u, rfl, hs9⟩
  have hs9 : Sat w w6 (1 * vec 5 1 (.slice pa data.length pc) data.length (bvs data) * lg l1 bd ⟨fs.length, P.length, false⟩ * vecs (.slice o1 fs.length c1) fs * vec 5 1 (.slice a1 P.length d1) P.length (bvs P) * lg l2 bd ⟨fs.length, P.length, false⟩ * vecs (.slice o2 fs.length c2) fs * dk bd (Dk.new P 1073741824) * vec 5 1 u P.length (bvs P)) := hs9
  obtain ⟨a2, d2, rfl, _, _, _⟩ := hs9.vec_rd
  have hs10 := hs9.swap
  clear hs8 hs9
  go_wp2_with fail
  refine (disk_crash hs10 (Dk.Ok.new hPb 1073741824) 0 (by decide) (by decide)).mono ?_
  rintro e w7 ⟨v, rfl, rfl, hs11⟩
  go_wp2_with fail
  refine (disk_revive hs11).mono ?_
  rintro e w8 ⟨v, rfl, rfl, hs12⟩
  rw [crash_new] at hs12
  clear hs10 hs11
  go_wp2_with fail
  refine (wal_open_at HE1.out HE.out HT.out hPb2 HPF.out HPP.out HZ.out hs12).mono ?_
  rintro e w9 ⟨v, rfl, l3, o3, c3, rfl, hs13⟩
  have hs14 := hs13.perm (B := 1 * vec 5 1 (.slice pa data.length pc) data.length (bvs data) * lg l1 bd ⟨fs.length, P.length, false⟩ * vecs (.slice o1 fs.length c1) fs * vec 5 1 (.slice a1 P.length d1) P.length (bvs P) * lg l2 bd ⟨fs.length, P.length, false⟩ * vecs (.slice o2 fs.length c2) fs * vec 5 1 (.slice a2 P.length d2) P.length (bvs P) * lg l3 bd ⟨fs.length, P.length, false⟩ * vecs (.slice o3 fs.length c3) fs * dk bd (Dk.new P 1073741824)) (by ac_rfl)
  clear hs12 hs13
  go_wp2_with fail
  refine (disk_look (Dk.Ok.new hPb 1073741824) hs14).mono ?_
  rintro e w10 ⟨v, rfl, u, rfl, hs15⟩
  have hs15 : Sat w w10 (1 * vec 5 1 (.slice pa data.length pc) data.length (bvs data) * lg l1 bd ⟨fs.length, P.length, false⟩ * vecs (.slice o1 fs.length c1) fs * vec 5 1 (.slice a1 P.length d1) P.length (bvs P) * lg l2 bd ⟨fs.length, P.length, false⟩ * vecs (.slice o2 fs.length c2) fs * vec 5 1 (.slice a2 P.length d2) P.length (bvs P) * lg l3 bd ⟨fs.length, P.length, false⟩ * vecs (.slice o3 fs.length c3) fs * dk bd (Dk.new P 1073741824) * vec 5 1 u P.length (bvs P)) := hs15
  obtain ⟨a3, d3, rfl, _, _, _⟩ := hs15.vec_rd
  clear hs14
  have hsn : (Dk.new P 1073741824).synced = P.length := rfl
  go_wp2_with fail
  refine (wal_scan_at (HT.out.mono hs15.below) HPF.out HZ.out a1 d1 (hs15.perm (B := 1 * vec 5 1 (.slice pa data.length pc) data.length (bvs data) * lg l1 bd ⟨fs.length, P.length, false⟩ * vecs (.slice o1 fs.length c1) fs * lg l2 bd ⟨fs.length, P.length, false⟩ * vecs (.slice o2 fs.length c2) fs * vec 5 1 (.slice a2 P.length d2) P.length (bvs P) * lg l3 bd ⟨fs.length, P.length, false⟩ * vecs (.slice o3 fs.length c3) fs * dk bd (Dk.new P 1073741824) * vec 5 1 (.slice a3 P.length d3) P.length (bvs P) * vec 5 1 (.slice a1 P.length d1) P.length (bvs P)) (by ac_rfl)).rd had1 hPb2).mono ?_
  rintro e w11 ⟨v, rfl, o4, c4, rfl, hx⟩
  have hs16 := hs15.glue hx
  clear hx hs15
  have R1 := Hid.mk' (fun k => ((hs16.drewN k).perm (B := 1 * vec 5 1 (.slice pa data.length pc) data.length (bvs data) * lg l1 bd ⟨fs.length, P.length, false⟩ * vec 5 1 (.slice a1 P.length d1) P.length (bvs P) * lg l2 bd ⟨fs.length, P.length, false⟩ * vecs (.slice o2 fs.length c2) fs * vec 5 1 (.slice a2 P.length d2) P.length (bvs P) * lg l3 bd ⟨fs.length, P.length, false⟩ * vecs (.slice o3 fs.length c3) fs * dk bd (Dk.new P 1073741824) * vec 5 1 (.slice a3 P.length d3) P.length (bvs P) * vecs (.slice o4 fs.length c4) fs * vecs (.slice o1 fs.length c1) fs) (by ac_rfl)).rdl)
  have R2 := Hid.mk' (fun k => ((hs16.drewN k).perm (B := 1 * vec 5 1 (.slice pa data.length pc) data.length (bvs data) * lg l1 bd ⟨fs.length, P.length, false⟩ * vecs (.slice o1 fs.length c1) fs * vec 5 1 (.slice a1 P.length d1) P.length (bvs P) * lg l2 bd ⟨fs.length, P.length, false⟩ * vec 5 1 (.slice a2 P.length d2) P.length (bvs P) * lg l3 bd ⟨fs.length, P.length, false⟩ * vecs (.slice o3 fs.length c3) fs * dk bd (Dk.new P 1073741824) * vec 5 1 (.slice a3 P.length d3) P.length (bvs P) * vecs (.slice o4 fs.length c4) fs * vecs (.slice o2 fs.length c2) fs) (by ac_rfl)).rdl)
  have R3 := Hid.mk' (fun k => ((hs16.drewN k).perm (B := 1 * vec 5 1 (.slice pa data.length pc) data.length (bvs data) * lg l1 bd ⟨fs.length, P.length, false⟩ * vecs (.slice o1 fs.length c1) fs * vec 5 1 (.slice a1 P.length d1) P.length (bvs P) * lg l2 bd ⟨fs.length, P.length, false⟩ * vecs (.slice o2 fs.length c2) fs * vec 5 1 (.slice a2 P.length d2) P.length (bvs P) * lg l3 bd ⟨fs.length, P.length, false⟩ * dk bd (Dk.new P 1073741824) * vec 5 1 (.slice a3 P.length d3) P.length (bvs P) * vecs (.slice o4 fs.length c4) fs * vecs (.slice o3 fs.length c3) fs) (by ac_rfl)).rdl)
  have R4 := Hid.mk' (fun k => (hs16.drewN k).rdl)
  have S1 := Hid.mk' (hs16.perm (B := 1 * vec 5 1 (.slice pa data.length pc) data.length (bvs data) * lg l1 bd ⟨fs.length, P.length, false⟩ * vec 5 1 (.slice a1 P.length d1) P.length (bvs P) * lg l2 bd ⟨fs.length, P.length, false⟩ * vecs (.slice o2 fs.length c2) fs * vec 5 1 (.slice a2 P.length d2) P.length (bvs P) * lg l3 bd ⟨fs.length, P.length, false⟩ * vecs (.slice o3 fs.length c3) fs * dk bd (Dk.new P 1073741824) * vec 5 1 (.slice a3 P.length d3) P.length (bvs P) * vecs (.slice o4 fs.length c4) fs * vecs (.slice o1 fs.length c1) fs) (by ac_rfl)).rdl
  have S2 := Hid.mk' (hs16.perm (B := 1 * vec 5 1 (.slice pa data.length pc) data.length (bvs data) * lg l1 bd ⟨fs.length, P.length, false⟩ * vecs (.slice o1 fs.length c1) fs * vec 5 1 (.slice a1 P.length d1) P.length (bvs P) * lg l2 bd ⟨fs.length, P.length, false⟩ * vec 5 1 (.slice a2 P.length d2) P.length (bvs P) * lg l3 bd ⟨fs.length, P.length, false⟩ * vecs (.slice o3 fs.length c3) fs * dk bd (Dk.new P 1073741824) * vec 5 1 (.slice a3 P.length d3) P.length (bvs P) * vecs (.slice o4 fs.length c4) fs * vecs (.slice o2 fs.length c2) fs) (by ac_rfl)).rdl
  have B1 := Hid.mk' (fun k => ((hs16.drewN k).perm (B := 1 * vec 5 1 (.slice pa data.length pc) data.length (bvs data) * lg l1 bd ⟨fs.length, P.length, false⟩ * vecs (.slice o1 fs.length c1) fs * lg l2 bd ⟨fs.length, P.length, false⟩ * vecs (.slice o2 fs.length c2) fs * vec 5 1 (.slice a2 P.length d2) P.length (bvs P) * lg l3 bd ⟨fs.length, P.length, false⟩ * vecs (.slice o3 fs.length c3) fs * dk bd (Dk.new P 1073741824) * vec 5 1 (.slice a3 P.length d3) P.length (bvs P) * vecs (.slice o4 fs.length c4) fs * vec 5 1 (.slice a1 P.length d1) P.length (bvs P)) (by ac_rfl)).rd)
  have B2 := Hid.mk' (fun k => ((hs16.drewN k).perm (B := 1 * vec 5 1 (.slice pa data.length pc) data.length (bvs data) * lg l1 bd ⟨fs.length, P.length, false⟩ * vecs (.slice o1 fs.length c1) fs * vec 5 1 (.slice a1 P.length d1) P.length (bvs P) * lg l2 bd ⟨fs.length, P.length, false⟩ * vecs (.slice o2 fs.length c2) fs * lg l3 bd ⟨fs.length, P.length, false⟩ * vecs (.slice o3 fs.length c3) fs * dk bd (Dk.new P 1073741824) * vec 5 1 (.slice a3 P.length d3) P.length (bvs P) * vecs (.slice o4 fs.length c4) fs * vec 5 1 (.slice a2 P.length d2) P.length (bvs P)) (by ac_rfl)).rd)
  have B3 := Hid.mk' (fun k => ((hs16.drewN k).perm (B := 1 * vec 5 1 (.slice pa data.length pc) data.length (bvs data) * lg l1 bd ⟨fs.length, P.length, false⟩ * vecs (.slice o1 fs.length c1) fs * vec 5 1 (.slice a1 P.length d1) P.length (bvs P) * lg l2 bd ⟨fs.length, P.length, false⟩ * vecs (.slice o2 fs.length c2) fs * vec 5 1 (.slice a2 P.length d2) P.length (bvs P) * lg l3 bd ⟨fs.length, P.length, false⟩ * vecs (.slice o3 fs.length c3) fs * dk bd (Dk.new P 1073741824) * vecs (.slice o4 fs.length c4) fs * vec 5 1 (.slice a3 P.length d3) P.length (bvs P)) (by ac_rfl)).rd)
  have BW := Hid.mk' (fun k => ((hs16.drewN k).perm (B := 1 * lg l1 bd ⟨fs.length, P.length, false⟩ * vecs (.slice o1 fs.length c1) fs * vec 5 1 (.slice a1 P.length d1) P.length (bvs P) * lg l2 bd ⟨fs.length, P.length, false⟩ * vecs (.slice o2 fs.length c2) fs * vec 5 1 (.slice a2 P.length d2) P.length (bvs P) * lg l3 bd ⟨fs.length, P.length, false⟩ * vecs (.slice o3 fs.length c3) fs * dk bd (Dk.new P 1073741824) * vec 5 1 (.slice a3 P.length d3) P.length (bvs P) * vecs (.slice o4 fs.length c4) fs * vec 5 1 (.slice pa data.length pc) data.length (bvs data)) (by ac_rfl)).rd)
  have L1 := Hid.mk' (fun k => wal_count ((hs16.drewN k).perm (B := 1 * vec 5 1 (.slice pa data.length pc) data.length (bvs data) * vecs (.slice o1 fs.length c1) fs * vec 5 1 (.slice a1 P.length d1) P.length (bvs P) * lg l2 bd ⟨fs.length, P.length, false⟩ * vecs (.slice o2 fs.length c2) fs * vec 5 1 (.slice a2 P.length d2) P.length (bvs P) * lg l3 bd ⟨fs.length, P.length, false⟩ * vecs (.slice o3 fs.length c3) fs * dk bd (Dk.new P 1073741824) * vec 5 1 (.slice a3 P.length d3) P.length (bvs P) * vecs (.slice o4 fs.length c4) fs * lg l1 bd ⟨fs.length, P.length, false⟩) (by ac_rfl)))
  have L3 := Hid.mk' (fun k => wal_size ((hs16.drewN k).perm (B := 1 * vec 5 1 (.slice pa data.length pc) data.length (bvs data) * lg l1 bd ⟨fs.length, P.length, false⟩ * vecs (.slice o1 fs.length c1) fs * vec 5 1 (.slice a1 P.length d1) P.length (bvs P) * lg l2 bd ⟨fs.length, P.length, false⟩ * vecs (.slice o2 fs.length c2) fs * vec 5 1 (.slice a2 P.length d2) P.length (bvs P) * vecs (.slice o3 fs.length c3) fs * dk bd (Dk.new P 1073741824) * vec 5 1 (.slice a3 P.length d3) P.length (bvs P) * vecs (.slice o4 fs.length c4) fs * lg l3 bd ⟨fs.length, P.length, false⟩) (by ac_rfl)))
  have HS := Hid.mk' hs16.below
  have hwr : IntKind.i64.wrap ((data.length : Int) + 1) = (data.length : Int) + 1 := by rw [IntKind.wrap_i64]; omega
  have hrm : (P.length : Int).tmod ((data.length : Int) + 1) = (P.length : Int) := Int.tmod_eq_of_lt (by omega) (by omega)
  have heq : ((fs.length : Int) == (fs.length : Int)) = true := beq_self_eq_true _
  have heq2 : ((P.length : Int) == (P.length : Int)) = true := beq_self_eq_true _
  have hpk : (P.length : Int) ≤ (pc : Int) := by omega
  have hp0 : (0 : Int) ≤ (P.length : Int) := by omega
  clear hs16
  go_wp2_with fail
  refine (law13_same_true fs o1 o2 _ _ c1 c2 rfl rfl S1.out S2.out hfl hfm).mono ?_
  rintro e w12 ⟨rfl, m1, rfl⟩
  go_wp2_with fail
  refine (law13_same_true fs o2 o3 _ _ c2 c3 rfl rfl (R2.out _) (R3.out _) hfl hfm).mono ?_
  rintro e w13 ⟨rfl, m2, rfl⟩
  go_wp2_with fail
  refine (law13_same_true fs o1 o4 _ _ c1 c4 rfl rfl (R1.out _) (R4.out _) hfl hfm).mono ?_
  rintro e w14 ⟨rfl, m3, rfl⟩
  go_wp2_with fail
  refine (ref0_same_true P a1 a2 d1 d2 (B1.out _) (B2.out _) hPb).mono ?_
  rintro e w15 ⟨rfl, m4, rfl⟩
  go_wp2_with fail
  refine (ref0_same_true P a2 a3 d2 d3 (B2.out _) (B3.out _) hPb).mono ?_
  rintro e w16 ⟨rfl, m5, rfl⟩
  have HSM := Hid.mk' (fun k => ref0_same_true P a1 pa d1 pc (B1.out k) (by have := BW.out k; rw [← HRR.out, bvs_append] at this; exact this.left) hPb)
  cases pa with
  | none =>
    obtain ⟨e1, rfl⟩ := hpn rfl
    have e2 : P.length = 0 := by omega
    obtain rfl : P = [] := List.eq_nil_of_length_eq_zero e2
    obtain rfl : data = [] := List.eq_nil_of_length_eq_zero e1
    go_wp2_with fail
    refine (HSM.out _).mono ?_
    rintro e w17 ⟨rfl, m6, rfl⟩
    go_wp2_with fail
    refine (L1.out _).mono ?_
    rintro e w18 ⟨rfl, rfl⟩
    go_wp2_with fail
    refine (L3.out _).mono ?_
    rintro e w19 ⟨rfl, rfl⟩
    go_wp2_with fail
    go_ret
    exact Ret.mk ⟨rfl, ((Sat.start w).ext HS.out).drewN _⟩
  | some pb =>
    go_wp2_with fail
    refine (HSM.out _).mono ?_
    rintro e w17 ⟨rfl, m6, rfl⟩
    go_wp2_with fail
    refine (L1.out _).mono ?_
    rintro e w18 ⟨rfl, rfl⟩
    go_wp2_with fail
    refine (L3.out _).mono ?_
    rintro e w19 ⟨rfl, rfl⟩
    go_wp2_with fail
    go_ret
    exact Ret.mk ⟨rfl, ((Sat.start w).ext HS.out).drewN _⟩
end Go.Proofs.YtjhlelcopofkkaaDoor
