/- The walk of the law WalPlay. -/
import Derived.Test.YtjhlelcopofkkaaDoorOpens13
namespace Go.Proofs.YtjhlelcopofkkaaDoor
open Go.RowKit

set_option maxRecDepth 20000 in
set_option maxHeartbeats 25600000 in
theorem walk_walPlay {w : World} {E : Nat → Addr} (hE : Errs w E) (hT : CrcTab w) (data : List UInt8) (da : Option Addr) (dc : Nat) (hrd : Rd w da (bvs data)) (zr : Int) (ss : List Stp13) (so : Option Addr) (sc : Nat) (hr : Rd w so (s13s ss)) (hok : ∀ s ∈ ss, s.Ok w) (hsz : data.length + s13size ss + ss.length ≤ 1048576) :
    Calls Tryd.prog 20 #[.agg #[.slice da data.length dc, .int .i64 zr, .slice so ss.length sc]] w (Ret fun v w' => v = .bool true ∧ Sat w w' 1) := by
  have HE := Hid.mk' hE
  have HT := Hid.mk' hT
  have HR := Hid.mk' hr
  have HRD := Hid.mk' hrd
  have HO := Hid.mk' hok
  have hdl : data.length ≤ 140737488351232 := by omega
  have hs0 := (Sat.start w).new #[.slice da data.length dc, .int .i64 zr, .slice so ss.length sc] 131
  rw [HP.one_mul] at hs0
  have k0 := hs0.one'.cell (i := 0) (v := .slice da data.length dc) rfl
  have k1 := hs0.one'.cell (i := 1) (v := .int .i64 zr) rfl
  generalize hbx : w.heap.size = bx at hs0 k0 k1
  clear hE hT hr hrd hok
  go_enter Tryd.func20, Tryd.ntmps20
  go_wp2_with fail
  go_region_held3 (fun wr => wr.cell? ⟨bx, 0, none⟩ = some (.slice da data.length dc) ∧ wr.cell? ⟨bx, 1, none⟩ = some (.int .i64 zr)) (first | exact ⟨k0, k1⟩ | exact ⟨(hs1.pr2.at 0).cell rfl, (hs1.pr2.at 0).cell rfl⟩ | exact ⟨(hs2.pr3.at 0).cell rfl, (hs2.pr3.at 0).cell rfl⟩)
    (first | (go_at_call 22; go_loud (refine (kit_copy data da dc (HRD.out.of0 (hs0.drewN 1)) hdl).mono ?_); rintro e w1 ⟨v, rfl, hx⟩; have hs1 := (hs0.drewN 1).glue hx; obtain ⟨po, pc, rfl, _, hrp, _⟩ := hs1.vec_rd) | (go_at_call 43; go_loud (refine (ref12_open hs1 data po pc hrp hdl zr).mono ?_); rintro e w2 ⟨v, rfl, bc, rfl, hs2⟩))
  have hs3 : Sat w w2 (blk bx [.slice da data.length dc, .int .i64 zr, .slice so ss.length sc] 131 * rk bc (Dk.new data zr)) := hs2.perm (B := blk bx [.slice da data.length dc, .int .i64 zr, .slice so ss.length sc] 131 * rk bc (Dk.new data zr) * vec 5 1 (.slice po data.length pc) data.length (bvs data)) (by ac_rfl) |>.drop
  clear hs2 hs1 hs0 k0 k1 hrp hx
  have k0 := (hs3.pr2.at 0).cell (i := 0) (v := .slice da data.length dc) rfl
  have k1 := (hs3.pr2.at 0).cell (i := 1) (v := .int .i64 zr) rfl
  go_wp2_with fail
  refine (disk_open hs3 data da dc (HRD.out.of0 hs3) hdl zr).mono ?_
  rintro e w3 ⟨v, rfl, bd, rfl, hs4⟩
  have hDl : (Dk.new data zr).bytes.length ≤ 16777216 := by show data.length ≤ _; omega
  have hDm : (Dk.new data zr).arms.length < 8796093022207 := by show 0 < _; decide
  have HDO := Hid.mk' (Dk.Ok.new hdl zr)
  have HW := Hid.mk' (wopen_new data zr)
  obtain ⟨fs, hfs⟩ : ∃ fs, frames (Dk.new data zr).bytes = fs := ⟨_, rfl⟩
  obtain ⟨z, hz⟩ : ∃ z, size fs = z := ⟨_, rfl⟩
  have hzl : z ≤ ((Dk.new data zr).bytes).length := by rw [← hz, ← hfs]; exact size_frames _
  have hfl : fs.length ≤ 16777216 := by have := len_le_size fs; omega
  have HFM := Hid.mk' (fun p (hp : p ∈ fs) => show p.length ≤ 16777216 from by rw [← hfs] at hp; have := (frames_mem p hp).2; omega)
  have hfz := len_le_size fs
  rw [hz] at hfz
  have HFS := Hid.mk' hfs
  have HZ := Hid.mk' hz
  clear hfs hz
  go_wp2_with fail
  refine (wal_open_0 (HE.out.at 1 (by decide) (by decide)) (HE.out.at 10 (by decide) (by decide)) HT.out HDO.out hDl HW.out HFS.out HZ.out hs4).mono ?_
  rintro e w5a ⟨v, rfl, bl, lo, lc, rfl, hs5a⟩
  go_wp2_with fail
  refine (ref13_open_0 hDm HDO.out hDl HW.out HFS.out HZ.out (hs5a.perm (B := blk bx [.slice da data.length dc, .int .i64 zr, .slice so ss.length sc] 131 * dk bd (Dk.new (head data) zr) * lg bl bd ⟨fs.length, z, false⟩ * vecs (.slice lo fs.length lc) fs * rk bc (Dk.new data zr)) (by ac_rfl))).mono ?_
  rintro e w5b ⟨v, rfl, br, lo2, lc2, rfl, hs5b⟩
  go_wp2_with fail
  refine (law13_same_true fs lo lo2 _ _ lc lc2 rfl rfl ((hs5b.perm (B := blk bx [.slice da data.length dc, .int .i64 zr, .slice so ss.length sc] 131 * dk bd (Dk.new (head data) zr) * lg bl bd ⟨fs.length, z, false⟩ * rk bc (Dk.new (head data) zr) * rl br bc ⟨fs.length, z, false⟩ * vecs (.slice lo2 fs.length lc2) fs * vecs (.slice lo fs.length lc) fs) (by ac_rfl)).rdl) hs5b.rdl hfl HFM.out).mono ?_
  rintro e w5c ⟨rfl, m5, rfl⟩
  have hs5 := ((hs5b.drewN m5).perm (B := blk bx [.slice da data.length dc, .int .i64 zr, .slice so ss.length sc] 131 * dk bd (Dk.new (head data) zr) * rk bc (Dk.new (head data) zr) * lg bl bd ⟨fs.length, z, false⟩ * rl br bc ⟨fs.length, z, false⟩ * (vecs (.slice lo2 fs.length lc2) fs * vecs (.slice lo fs.length lc) fs)) (by ac_rfl)).drop
  generalize w5b.drewN m5 = w5 at hs5 ⊢
  clear hs5a hs5b hs4
  have HN := Hid.mk' (kit_num (HE.out.of0 hs5) 0 (by decide))
  have H1 := Hid.mk' (wal_count (hs5.perm (B := blk bx [.slice da data.length dc, .int .i64 zr, .slice so ss.length sc] 131 * dk bd (Dk.new (head data) zr) * rk bc (Dk.new (head data) zr) * rl br bc ⟨fs.length, z, false⟩ * lg bl bd ⟨fs.length, z, false⟩) (by ac_rfl)))
  have H2 := Hid.mk' (wal_size (hs5.perm (B := blk bx [.slice da data.length dc, .int .i64 zr, .slice so ss.length sc] 131 * dk bd (Dk.new (head data) zr) * rk bc (Dk.new (head data) zr) * rl br bc ⟨fs.length, z, false⟩ * lg bl bd ⟨fs.length, z, false⟩) (by ac_rfl)))
  have H3 := Hid.mk' (ref13_count hs5)
  have H4 := Hid.mk' (ref13_size hs5)
  have e1 : ((fs.length : Int) == (fs.length : Int)) = true := beq_self_eq_true _
  have e2 : ((z : Int) == (z : Int)) = true := beq_self_eq_true _
  go_wp2_with (first | (go_at_call 26; refine HN.out.mono ?_; rintro e w8 ⟨rfl, rfl⟩) | (go_at_call 75; refine H2.out.mono ?_; rintro e w8 ⟨rfl, rfl⟩) | (go_at_call 74; refine H1.out.mono ?_; rintro e w8 ⟨rfl, rfl⟩) | (go_at_call 82; refine H4.out.mono ?_; rintro e w8 ⟨rfl, rfl⟩) | (go_at_call 81; refine H3.out.mono ?_; rintro e w8 ⟨rfl, rfl⟩))
  have hzd : z ≤ data.length := hzl
  have hs6 : Sat w w5 (blk bx [.slice da data.length dc, .int .i64 zr, .slice so ss.length sc] 131 * dk bd (Dk.new (head data) zr) * rk bc (Dk.new (head data) zr) * logs bd bc (.pointer (some ⟨bl, 0, none⟩)) (.pointer (some ⟨br, 0, none⟩)) (some ⟨fs.length, z, false⟩)) := hs5.logs1_mk
  have hhl : (head data).length ≤ data.length := by unfold head; rw [List.length_take]; exact Nat.min_le_right _ _
  have hHO := Hid.mk' (Dk.Ok.new (bytes := head data) (by omega) zr)
  clear hs5 H1 H2 H3 H4 HN hDl hDm e1 e2 HFS HZ HFM HW HDO
  go_loopw [12, 5, 8] (fun i lv kv wr => ∃ (k : Nat) (D : Dk) (o : Option Lg) (lw kw : Value), k ≤ ss.length ∧ i = .int .i64 k ∧ lw = lv ∧ kw = kv ∧ Hid D.Ok ∧ D.bytes.length + 8 * (ss.length - k) + s13size (ss.drop k) ≤ 16777216 ∧ D.arms.length ≤ k ∧ Hid (∀ L, o = some L → L.count + (ss.length - k) ≤ 1099511627776 ∧ L.size + 8200 * (ss.length - k) ≤ 1125899906842624) ∧ Sat w wr (blk bx [.slice da data.length dc, .int .i64 zr, .slice so ss.length sc] 131 * dk bd D * rk bc D * logs bd bc lv kv o)) (fun i _ _ _ => ss.length - (intOf i).toNat)
  case atStart => exact ⟨0, _, _, _, _, by omega, rfl, rfl, rfl, hHO, by rw [List.drop_zero]; show (head data).length + _ + _ ≤ _; omega, Nat.le_refl _, Hid.mk' (fun L e => by cases e; exact ⟨by simp only; omega, by simp only; omega⟩), hs6⟩
  case round =>
    clear hs6 hHO
    obtain ⟨k, D, o, lv, kv, hk, rfl, rfl, rfl, hDo, hDl, hDa, hDL, hS⟩ := hrel
    have k2 := (hS.pr4.at 0).cell (i := 2) (v := .slice so ss.length sc) rfl
    by_cases hlt : k < ss.length
    · obtain ⟨sb, of, rfl, c0, c1, c2, c3⟩ := s13s_cells (HR.out.of0 hS) hlt
      have hso := HO.out ss[k] (List.getElem_mem hlt)
      have hdrop := s13size_drop hlt
      generalize ss[k] = s at c0 c1 c2 c3 hso hdrop
      have hDm : D.arms.length < 8796093022207 := by omega
      have hDl2 : D.bytes.length ≤ 16777216 := by omega
      have hT := hS.new #[.int .i64 s.kind, .int .i64 s.n, .int .i64 s.m, .slice s.ao s.p.length s.c] 133
      generalize hbt : wr.heap.size = bt at hT
      have HSO := Hid.mk' hso
      have HDR := Hid.mk' hdrop
      clear hso hdrop hS
      by_cases h1 : s.kind = 1
      · have hb1 : (s.kind == 1) = true := beq_iff_eq.2 h1
        clear h1
        cases o with
        | none =>
          obtain ⟨rfl, rfl, hs1⟩ := hT.swap.logs0
          clear hT
          have hs2 := hs1.perm (B := blk bx [.slice da data.length dc, .int .i64 zr, .slice (some ⟨sb, of, none⟩) ss.length sc] 131 * blk bt [.int .i64 s.kind, .int .i64 s.n, .int .i64 s.m, .slice s.ao s.p.length s.c] 133 * dk bd D * rk bc D) (by ac_rfl)
          go_wp2_with fail
          refine (law13_looks hDo.out hs2).mono ?_
          rintro e wl ⟨v, rfl, rfl, hl⟩
          go_wp2_with fail
          refine ⟨⟨k + 1, D, none, _, _, by omega, by go_num, rfl, rfl, hDo, by have := HDR.out; omega, by omega, Hid.mk' (fun L e => by cases e), (hl.perm (B := blk bx [.slice da data.length dc, .int .i64 zr, .slice (some ⟨sb, of, none⟩) ss.length sc] 131 * dk bd D * rk bc D * blk bt [.int .i64 s.kind, .int .i64 s.n, .int .i64 s.m, .slice s.ao s.p.length s.c] 133) (by ac_rfl)).drop.logs0_mk⟩, by simp [intOf]; omega⟩
        | some L =>
          obtain ⟨bl, br, rfl, rfl, hs1⟩ := hT.swap.logs1
          have hLB := hDL.out L rfl
          obtain ⟨⟨L', D', er⟩, hp⟩ : ∃ R, L.put D s.p = R := ⟨_, rfl⟩
          have g1 := put_ok (L := L) hDo.out s.p
          have g2 := put_len L D s.p
          have g3 := put_arms L D s.p
          have g4 := put_lg L D s.p
          rw [hp] at g1 g2 g3 g4
          simp only at g1 g2 g3 g4
          have HG := Hid.mk' g1
          have HP := Hid.mk' hp
          clear hT g1 hp
          go_wp2_with fail
          refine (law13_put HE.out HT.out hDo.out hDm (by omega) (by omega) s.p s.ao s.c HSO.out.rd HSO.out.len HP.out (hs1.perm (B := blk bx [.slice da data.length dc, .int .i64 zr, .slice (some ⟨sb, of, none⟩) ss.length sc] 131 * blk bt [.int .i64 s.kind, .int .i64 s.n, .int .i64 s.m, .slice s.ao s.p.length s.c] 133 * lg bl bd L * rl br bc L * dk bd D * rk bc D) (by ac_rfl))).mono ?_
          rintro e w6 ⟨v, rfl, rfl, hs2⟩
          go_wp2_with fail
          refine (law13_looks HG.out hs2).mono ?_
          rintro e wl ⟨v, rfl, rfl, hl⟩
          go_wp2_with fail
          refine ⟨⟨k + 1, D', some L', _, _, by omega, by go_num, rfl, rfl, HG, by have := HDR.out; omega, by omega, Hid.mk' (fun L e => by cases e; exact ⟨by omega, by omega⟩), ((hl.perm (B := blk bx [.slice da data.length dc, .int .i64 zr, .slice (some ⟨sb, of, none⟩) ss.length sc] 131 * dk bd D' * rk bc D' * lg bl bd L' * rl br bc L' * blk bt [.int .i64 s.kind, .int .i64 s.n, .int .i64 s.m, .slice s.ao s.p.length s.c] 133) (by ac_rfl)).drop).logs1_mk⟩, by simp [intOf]; omega⟩
      · have hb1 : (s.kind == 1) = false := beq_eq_false_iff_ne.2 h1
        by_cases h2 : s.kind = 2
        · have hb2 : (s.kind == 2) = true := beq_iff_eq.2 h2
          clear h1 h2
          have hs1 : Sat w _ (blk bx [.slice da data.length dc, .int .i64 zr, .slice (some ⟨sb, of, none⟩) ss.length sc] 131 * blk bt [.int .i64 s.kind, .int .i64 s.n, .int .i64 s.m, .slice s.ao s.p.length s.c] 133 * rk bc D * dk bd D) := (hT.perm (B := blk bx [.slice da data.length dc, .int .i64 zr, .slice (some ⟨sb, of, none⟩) ss.length sc] 131 * blk bt [.int .i64 s.kind, .int .i64 s.n, .int .i64 s.m, .slice s.ao s.p.length s.c] 133 * rk bc D * dk bd D * logs bd bc lv kv o) (by ac_rfl)).drop
          clear hT
          have g1 := hDo.out.wopen
          have g2 := Dk.wopen_len D
          have g3 := Dk.wopen_arms D
          have g4 := Dk.wopen_cases D
          obtain ⟨⟨D', er⟩, hw⟩ : ∃ R, D.wopen = R := ⟨_, rfl⟩
          rw [hw] at g1 g2 g3 g4
          simp only at g1 g2 g3 g4
          have HG := Hid.mk' g1
          have HDO := hDo
          have hDl := hDl2
          rcases g4 with rfl | rfl
          · have HW := Hid.mk' hw
            clear g1 hw
            obtain ⟨fs, hfs⟩ : ∃ fs, frames D.bytes = fs := ⟨_, rfl⟩
            obtain ⟨z, hz⟩ : ∃ z, size fs = z := ⟨_, rfl⟩
            have hzl : z ≤ (D.bytes).length := by rw [← hz, ← hfs]; exact size_frames _
            have hfl : fs.length ≤ 16777216 := by have := len_le_size fs; omega
            have HFM := Hid.mk' (fun p (hp : p ∈ fs) => show p.length ≤ 16777216 from by rw [← hfs] at hp; have := (frames_mem p hp).2; omega)
            have hfz := len_le_size fs
            rw [hz] at hfz
            have HFS := Hid.mk' hfs
            have HZ := Hid.mk' hz
            clear hfs hz
            go_wp2_with fail
            refine (wal_open_0 (HE.out.at 1 (by decide) (by decide)) (HE.out.at 10 (by decide) (by decide)) HT.out HDO.out hDl HW.out HFS.out HZ.out hs1).mono ?_
            rintro e w6a ⟨v, rfl, bl, lo, lc, rfl, hs6a⟩
            go_wp2_with fail
            refine (ref13_open_0 hDm HDO.out hDl HW.out HFS.out HZ.out (hs6a.perm (B := blk bx [.slice da data.length dc, .int .i64 zr, .slice (some ⟨sb, of, none⟩) ss.length sc] 131 * blk bt [.int .i64 s.kind, .int .i64 s.n, .int .i64 s.m, .slice s.ao s.p.length s.c] 133 * dk bd (D') * lg bl bd ⟨fs.length, z, false⟩ * vecs (.slice lo fs.length lc) fs * rk bc (D)) (by ac_rfl))).mono ?_
            rintro e w6b ⟨v, rfl, br, lo2, lc2, rfl, hs6b⟩
            go_wp2_with fail
            refine (law13_same_true fs lo lo2 _ _ lc lc2 rfl rfl ((hs6b.perm (B := blk bx [.slice da data.length dc, .int .i64 zr, .slice (some ⟨sb, of, none⟩) ss.length sc] 131 * blk bt [.int .i64 s.kind, .int .i64 s.n, .int .i64 s.m, .slice s.ao s.p.length s.c] 133 * dk bd (D') * lg bl bd ⟨fs.length, z, false⟩ * rk bc (D') * rl br bc ⟨fs.length, z, false⟩ * vecs (.slice lo2 fs.length lc2) fs * vecs (.slice lo fs.length lc) fs) (by ac_rfl)).rdl) hs6b.rdl hfl HFM.out).mono ?_
            rintro e w6c ⟨rfl, m6, rfl⟩
            have hs6 := ((hs6b.drewN m6).perm (B := blk bx [.slice da data.length dc, .int .i64 zr, .slice (some ⟨sb, of, none⟩) ss.length sc] 131 * blk bt [.int .i64 s.kind, .int .i64 s.n, .int .i64 s.m, .slice s.ao s.p.length s.c] 133 * dk bd (D') * rk bc (D') * lg bl bd ⟨fs.length, z, false⟩ * rl br bc ⟨fs.length, z, false⟩ * (vecs (.slice lo2 fs.length lc2) fs * vecs (.slice lo fs.length lc) fs)) (by ac_rfl)).drop
            generalize w6b.drewN m6 = w6 at hs6 ⊢
            clear hs6a hs6b hs1
            have HN := Hid.mk' (kit_num (HE.out.of0 hs6) 0 (by decide))
            have H1 := Hid.mk' (wal_count (hs6.perm (B := blk bx [.slice da data.length dc, .int .i64 zr, .slice (some ⟨sb, of, none⟩) ss.length sc] 131 * blk bt [.int .i64 s.kind, .int .i64 s.n, .int .i64 s.m, .slice s.ao s.p.length s.c] 133 * dk bd (D') * rk bc (D') * rl br bc ⟨fs.length, z, false⟩ * lg bl bd ⟨fs.length, z, false⟩) (by ac_rfl)))
            have H2 := Hid.mk' (wal_size (hs6.perm (B := blk bx [.slice da data.length dc, .int .i64 zr, .slice (some ⟨sb, of, none⟩) ss.length sc] 131 * blk bt [.int .i64 s.kind, .int .i64 s.n, .int .i64 s.m, .slice s.ao s.p.length s.c] 133 * dk bd (D') * rk bc (D') * rl br bc ⟨fs.length, z, false⟩ * lg bl bd ⟨fs.length, z, false⟩) (by ac_rfl)))
            have H3 := Hid.mk' (ref13_count hs6)
            have H4 := Hid.mk' (ref13_size hs6)
            have e1 : ((fs.length : Int) == (fs.length : Int)) = true := beq_self_eq_true _
            have e2 : ((z : Int) == (z : Int)) = true := beq_self_eq_true _
            go_wp2_with (first | (go_at_call 26; refine HN.out.mono ?_; rintro e w8 ⟨rfl, rfl⟩) | (go_at_call 75; refine H2.out.mono ?_; rintro e w8 ⟨rfl, rfl⟩) | (go_at_call 74; refine H1.out.mono ?_; rintro e w8 ⟨rfl, rfl⟩) | (go_at_call 82; refine H4.out.mono ?_; rintro e w8 ⟨rfl, rfl⟩) | (go_at_call 81; refine H3.out.mono ?_; rintro e w8 ⟨rfl, rfl⟩))
            go_wp2_with fail
            refine (law13_looks HG.out (hs6.perm (B := blk bx [.slice da data.length dc, .int .i64 zr, .slice (some ⟨sb, of, none⟩) ss.length sc] 131 * blk bt [.int .i64 s.kind, .int .i64 s.n, .int .i64 s.m, .slice s.ao s.p.length s.c] 133 * lg bl bd ⟨fs.length, z, false⟩ * rl br bc ⟨fs.length, z, false⟩ * dk bd D' * rk bc D') (by ac_rfl))).mono ?_
            rintro e wl ⟨v, rfl, rfl, hl⟩
            go_wp2_with fail
            refine ⟨⟨k + 1, D', some ⟨fs.length, z, false⟩, _, _, by omega, by go_num, rfl, rfl, HG, by have := HDR.out; omega, by omega, Hid.mk' (fun L e => by cases e; exact ⟨by simp only; omega, by simp only; omega⟩), ((hl.perm (B := blk bx [.slice da data.length dc, .int .i64 zr, .slice (some ⟨sb, of, none⟩) ss.length sc] 131 * dk bd D' * rk bc D' * lg bl bd ⟨fs.length, z, false⟩ * rl br bc ⟨fs.length, z, false⟩ * blk bt [.int .i64 s.kind, .int .i64 s.n, .int .i64 s.m, .slice s.ao s.p.length s.c] 133) (by ac_rfl)).drop).logs1_mk⟩, by simp [intOf]; omega⟩
          · have HW := Hid.mk' hw
            clear g1 hw
            go_wp2_with fail
            refine (wal_open_10 (HE.out.at 1 (by decide) (by decide)) (HE.out.at 10 (by decide) (by decide)) HT.out HDO.out hDl HW.out hs1).mono ?_
            rintro e w7a ⟨v, rfl, rfl, hs7a⟩
            go_wp2_with fail
            refine (ref13_open_10 hDm HDO.out hDl HW.out (hs7a.perm (B := blk bx [.slice da data.length dc, .int .i64 zr, .slice (some ⟨sb, of, none⟩) ss.length sc] 131 * blk bt [.int .i64 s.kind, .int .i64 s.n, .int .i64 s.m, .slice s.ao s.p.length s.c] 133 * dk bd (D') * rk bc (D)) (by ac_rfl))).mono ?_
            rintro e w7b ⟨v, rfl, rfl, hs7b⟩
            go_wp2_with fail
            refine (law13_same_true [] none none _ _ 0 0 rfl rfl (RdL.nil _ _) (RdL.nil _ _) (by decide) (fun p hp => by cases hp)).mono ?_
            rintro e w7c ⟨rfl, m7, rfl⟩
            have hs7 := hs7b.drewN m7
            generalize w7b.drewN m7 = w7 at hs7 ⊢
            clear hs7a hs7b hs1
            have HN := Hid.mk' (kit_num (HE.out.of0 hs7) 10 (by decide))
            have H1 : True := trivial
            go_wp2_with (go_at_call 26; refine HN.out.mono ?_; rintro e w8 ⟨rfl, rfl⟩)
            go_wp2_with fail
            refine (law13_looks HG.out hs7).mono ?_
            rintro e wl ⟨v, rfl, rfl, hl⟩
            go_wp2_with fail
            refine ⟨⟨k + 1, D', none, _, _, by omega, by go_num, rfl, rfl, HG, by have := HDR.out; omega, by omega, Hid.mk' (fun L e => by cases e), (hl.perm (B := blk bx [.slice da data.length dc, .int .i64 zr, .slice (some ⟨sb, of, none⟩) ss.length sc] 131 * dk bd D' * rk bc D' * blk bt [.int .i64 s.kind, .int .i64 s.n, .int .i64 s.m, .slice s.ao s.p.length s.c] 133) (by ac_rfl)).drop.logs0_mk⟩, by simp [intOf]; omega⟩
        · have hb2 : (s.kind == 2) = false := beq_eq_false_iff_ne.2 h2
          clear h1 h2
          have hs1 : Sat w _ (blk bx [.slice da data.length dc, .int .i64 zr, .slice (some ⟨sb, of, none⟩) ss.length sc] 131 * blk bt [.int .i64 s.kind, .int .i64 s.n, .int .i64 s.m, .slice s.ao s.p.length s.c] 133 * logs bd bc lv kv o * dk bd D * rk bc D) := hT.perm (by ac_rfl)
          clear hT
          have g2 := Dk.pow_len D s
          have g3 := Dk.pow_arms D s
          have HG := Hid.mk' (hDo.out.pow HSO.out)
          go_wp2_with fail
          refine (law13_power HE.out hDo.out hDm s HSO.out hs1).mono ?_
          rintro e w6 ⟨v, rfl, rfl, hs2⟩
          generalize D.pow s = D' at hs2 g2 g3 HG
          go_wp2_with fail
          refine (law13_looks HG.out hs2).mono ?_
          rintro e wl ⟨v, rfl, rfl, hl⟩
          go_wp2_with fail
          refine ⟨⟨k + 1, D', o, _, _, by omega, by go_num, rfl, rfl, HG, by have := HDR.out; omega, by omega, Hid.mk' (fun L e => by have := hDL.out L e; exact ⟨by omega, by omega⟩), (hl.perm (B := blk bx [.slice da data.length dc, .int .i64 zr, .slice (some ⟨sb, of, none⟩) ss.length sc] 131 * dk bd D' * rk bc D' * logs bd bc lv kv o * blk bt [.int .i64 s.kind, .int .i64 s.n, .int .i64 s.m, .slice s.ao s.p.length s.c] 133) (by ac_rfl)).drop⟩, by simp [intOf]; omega⟩
    · obtain rfl : k = ss.length := by omega
      go_wp2_with fail
      go_ret
      exact Ret.mk ⟨rfl, (Sat.start w).ext hS.below⟩
end Go.Proofs.YtjhlelcopofkkaaDoor
