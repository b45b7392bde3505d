/- The walk of the law WalCrash. -/
import Derived.Test.YtjhlelcopofkkaaDoorCrashQ
namespace Go.Proofs.YtjhlelcopofkkaaDoor
open Go.RowKit

set_option maxRecDepth 20000 in
set_option maxHeartbeats 51200000 in
theorem walk_walCrash {w : World} {E : Nat → Addr} (hE : Errs w E) (hT : CrcTab w) (da : Value) (zr : Int) (ss : List Stp13) (so : Option Addr) (sc : Nat) (hr : Rd w so (s13s ss)) (hn : ss.length ≤ 2932031007402) (hok : ∀ s ∈ ss, s.Ok w) :
    Calls Tryd.prog 19 #[.agg #[da, .int .i64 zr, .slice so ss.length sc]] w (Ret fun v w' => v = .bool true ∧ Sat w w' 1) := by
  have HE := Hid.mk' hE
  have HT := Hid.mk' hT
  have HR := Hid.mk' hr
  have HO := Hid.mk' hok
  have HBE := Hid.mk' (law13_begun hT)
  have hp0 := pick_nonneg zr 20000
  have hp1 := pick_lt zr 20000 (by decide)
  obtain ⟨R, hR⟩ : ∃ R : Nat, pick zr 20000 = (R : Int) := ⟨(pick zr 20000).toNat, by omega⟩
  have HK := Hid.mk' (kit_pick (w := (w.alloc (.cells #[da, .int .i64 zr, .slice so ss.length sc] 131))) zr 20000 (by decide) (by decide))
  rw [hR] at HK hp1
  have hs0 := (Sat.start w).new #[da, .int .i64 zr, .slice so ss.length sc] 131
  rw [HP.one_mul] at hs0
  have HND := Hid.mk' (show Dk.new [] R = ⟨[], 0, R, false, []⟩ by unfold Dk.new; rw [show (min (max (R : Int) 0) 1073741824).toNat = R by omega]; rfl)
  have HF0 := Hid.mk' (show frames [] = [] from frames_short (by decide))
  clear hE hT hr hok hR hp0
  go_enter Tryd.func19, Tryd.ntmps19
  go_wp2_with (go_at_call 29; refine HK.out.mono ?_; rintro e w1 ⟨rfl, rfl⟩)
  go_wp2_with fail
  refine (disk_new hs0 R).mono ?_
  rintro e w2 ⟨v, rfl, b, rfl, hs1⟩
  go_wp2_with fail
  refine (wal_open_at (HE.out.at 1 (by decide) (by decide)) (HE.out.at 10 (by decide) (by decide)) HT.out (by decide) HF0.out (P := []) rfl rfl hs1).mono ?_
  rintro e w3 ⟨v, rfl, bl, lo, lc, rfl, hs2⟩
  go_wp2_with (go_at_call 37; refine (law13_begun (HT.out.mono hs2.below)).mono ?_; rintro e w4 ⟨v, rfl, rfl, hx⟩)
  have hs3 : Sat w w4 (blk w.heap.size [da, .int .i64 zr, .slice so ss.length sc] 131 * dk b ⟨[], 0, R, false, []⟩ * lg bl b ⟨0, 0, false⟩) := by
    have := hs2.drop.then1 hx
    rw [HND.out] at this
    exact this
  generalize hbx : w.heap.size = bx at *
  have hs4 := hs3.new #[.slice none 0 0, .slice none 0 0, .slice none 0 0, .bool false, .int .i64 0, .bool false] 137
  clear hs0 hs1 hs2 hs3 hx HND HF0 HBE HK hbx
  generalize hbf : w4.heap.size = bf at hs4
  have hs5 : Sat w (w4.alloc (.cells #[.slice none 0 0, .slice none 0 0, .slice none 0 0, .bool false, .int .i64 0, .bool false] 137)) (blk bx [da, .int .i64 zr, .slice so ss.length sc] 131 * dk b ⟨[], 0, R, false, []⟩ * fate bf [] [] [] false ((size ([] ++ [] : List (List UInt8)) : Nat) : Int) false * logp b (.pointer (some ⟨bl, 0, none⟩)) (some ⟨0, 0, false⟩)) := by
    have h := (hs4.vecs_nil.vecs_nil.vecs_nil).perm (B := blk bx [da, .int .i64 zr, .slice so ss.length sc] 131 * dk b ⟨[], 0, R, false, []⟩ * lg bl b ⟨0, 0, false⟩ * vecs (.slice none 0 0) [] * vecs (.slice none 0 0) [] * vecs (.slice none 0 0) [] * blk bf [.slice none 0 0, .slice none 0 0, .slice none 0 0, .bool false, .int .i64 0, .bool false] 137) (by ac_rfl)
    exact (h.fate_shut.perm (B := blk bx [da, .int .i64 zr, .slice so ss.length sc] 131 * dk b ⟨[], 0, R, false, []⟩ * fate bf [] [] [] false 0 false * lg bl b ⟨0, 0, false⟩) (by ac_rfl)).logp1_mk
  have hK0 : Kept R (⟨[], 0, R, false, []⟩ : Dk) (some ⟨0, 0, false⟩) [] [] [] false false := ⟨⟨Nat.le_refl _, by simp only; omega, by simp, fun x hx => by cases hx⟩, rfl, rfl, fun _ => rfl, fun p hp => by simp at hp, Or.inl ⟨rfl, rfl⟩, by simp, fun L e => by cases e; rfl⟩
  have HK0 := Hid.mk' hK0
  clear hs4 hK0
  go_wp2_with fail
  go_loopw [10, 5, 8] (fun i lv ok wr => ∃ (k : Nat) (D : Dk) (o : Option Lg) (T S W : List (List UInt8)) (A X : Bool) (lw : Value), k ≤ ss.length ∧ i = .int .i64 k ∧ lw = lv ∧ ok = .bool true ∧ Hid (Kept R D o T S W A X) ∧ D.arms.length ≤ k ∧ Hid (∀ L, o = some L → L.count ≤ 16777216 + k ∧ L.size ≤ 16777216 + 8200 * k) ∧ Sat w wr (blk bx [da, .int .i64 zr, .slice so ss.length sc] 131 * dk b D * fate bf T S W A ((size (T ++ S) : Nat) : Int) X * logp b lv o)) (fun i _ _ _ => ss.length - (intOf i).toNat)
  case atStart => exact ⟨0, _, _, _, _, _, _, _, _, by omega, rfl, rfl, rfl, HK0, Nat.le_refl _, Hid.mk' (fun L e => by cases e; exact ⟨by simp only; omega, by simp only; omega⟩), hs5⟩
  case round =>
    clear hs5 HK0
    obtain ⟨k, D, o, T, S, W, A, X, lv, hk, rfl, rfl, rfl, hKE, hDa, hDL, hS⟩ := hrel
    have k2 := (hS.pr4.at 0).cell (i := 2) (v := .slice so ss.length sc) rfl
    have hDm : D.arms.length < 8796093022207 := by omega
    have hzs := hKE.out.size_le
    obtain ⟨z, hz⟩ : ∃ z, size (T ++ S) = z := ⟨_, rfl⟩
    rw [hz] at hzs hS
    have HZ := Hid.mk' hz
    clear hz
    by_cases hlt : k < ss.length
    · obtain ⟨sb, of, rfl, c0, c1, c2, c3⟩ := s13s_cells (HR.out.of0 hS) hlt
      have hso := HO.out ss[k] (List.getElem_mem hlt)
      generalize ss[k] = s at c0 c1 c2 c3 hso
      have hT := hS.new #[.int .i64 s.kind, .int .i64 s.n, .int .i64 s.m, .slice s.ao s.p.length s.c] 133
      generalize hbt : wr.heap.size = bt at hT
      have HSO := Hid.mk' hso
      have q1 := hso.n1
      have q2 := hso.n2
      have q3 := hso.m1
      have q4 := hso.m2
      clear hso hS
      by_cases h1 : s.kind = 1
      · have hb1 : (s.kind == 1) = true := beq_iff_eq.2 h1
        clear h1
        cases o with
        | none =>
          obtain ⟨rfl, hs1⟩ := hT.swap.logp0
          clear hT
          go_wp2_with fail
          refine ⟨⟨k + 1, D, none, T, S, W, A, X, _, by omega, by go_num, rfl, rfl, hKE, by omega, Hid.mk' (fun L e => by cases e), ?_⟩, by simp [intOf]; omega⟩
          rw [HZ.out]
          exact (hs1.perm (B := blk bx [da, .int .i64 zr, .slice (some ⟨sb, of, none⟩) ss.length sc] 131 * dk b D * fate bf T S W A z X * blk bt [.int .i64 s.kind, .int .i64 s.n, .int .i64 s.m, .slice s.ao s.p.length s.c] 133) (by ac_rfl)).drop.logp0_mk
        | some L =>
          obtain ⟨bl, rfl, hs1⟩ := hT.swap.logp1
          have hLB := hDL.out L rfl
          have hs2 := hs1.perm (B := blk bx [da, .int .i64 zr, .slice (some ⟨sb, of, none⟩) ss.length sc] 131 * blk bt [.int .i64 s.kind, .int .i64 s.n, .int .i64 s.m, .slice s.ao s.p.length s.c] 133 * lg bl b L * dk b D * fate bf T S W A z X) (by ac_rfl)
          have hlst := hKE.out.lost L rfl
          clear hT hs1
          by_cases hg : 1 ≤ s.p.length ∧ s.p.length ≤ 8192
          · obtain ⟨lc0, ls0, ld⟩ := L
            simp only at hLB hlst
            subst hlst
            cases ld with
            | true =>
              have HP := Hid.mk' (put_lost (c := lc0) (s := ls0) (D := D) hg)
              cases hd : D.dead with
              | true =>
                go_wp2_with fail
                refine (fput_10b HE.out HT.out hKE.out.ok (by simp only; omega) (by simp only; omega) (by omega) (by omega) s.p s.ao s.c HSO.out.rd HSO.out.len HP.out hg hd hd hs2).mono ?_
                rintro e w6 ⟨v, rfl, rfl, hs3⟩
                go_wp2_with fail
                refine ⟨⟨k + 1, D, some ⟨lc0, ls0, true⟩, T, S, W, A, true, _, by omega, by go_num, rfl, rfl, hKE, by omega, Hid.mk' (fun L e => by cases e; exact ⟨by first | omega | (simp only; omega), by first | omega | (simp only; omega)⟩), ?_⟩, by simp [intOf]; omega⟩
                rw [HZ.out]
                exact (hs3.perm (B := blk bx [da, .int .i64 zr, .slice (some ⟨sb, of, none⟩) ss.length sc] 131 * dk b D * fate bf T S W A z true * lg bl b ⟨lc0, ls0, true⟩ * blk bt [.int .i64 s.kind, .int .i64 s.n, .int .i64 s.m, .slice s.ao s.p.length s.c] 133) (by ac_rfl)).drop.logp1_mk
              | false =>
                go_wp2_with fail
                refine (fput_10c HE.out HT.out hKE.out.ok (by simp only; omega) (by simp only; omega) (by omega) (by omega) s.p s.ao s.c HSO.out.rd HSO.out.len HP.out hg hd hd rfl hs2).mono ?_
                rintro e w6 ⟨v, rfl, rfl, hs3⟩
                go_wp2_with fail
                refine ⟨⟨k + 1, D, some ⟨lc0, ls0, true⟩, T, S, W, A, true, _, by omega, by go_num, rfl, rfl, hKE, by omega, Hid.mk' (fun L e => by cases e; exact ⟨by first | omega | (simp only; omega), by first | omega | (simp only; omega)⟩), ?_⟩, by simp [intOf]; omega⟩
                rw [HZ.out]
                exact (hs3.perm (B := blk bx [da, .int .i64 zr, .slice (some ⟨sb, of, none⟩) ss.length sc] 131 * dk b D * fate bf T S W A z true * lg bl b ⟨lc0, ls0, true⟩ * blk bt [.int .i64 s.kind, .int .i64 s.n, .int .i64 s.m, .slice s.ao s.p.length s.c] 133) (by ac_rfl)).drop.logp1_mk
            | false =>
              have hcl := hKE.out.clean rfl
              have HCB := Hid.mk' (show D.bytes.length = z by rw [hcl.2.1, enc_length]; exact HZ.out)
              have HCL := Hid.mk' hcl.1
              clear hcl
              cases hd : D.dead with
              | true =>
                have HP := Hid.mk' (put_dead (c := lc0) (s := ls0) hd hg)
                have HKE2 := Hid.mk' (hKE.out.lose (L' := ⟨lc0, ls0, true⟩) rfl rfl)
                go_wp2_with fail
                refine (fput_10b HE.out HT.out hKE.out.ok (by simp only; omega) (by simp only; omega) (by omega) (by omega) s.p s.ao s.c HSO.out.rd HSO.out.len HP.out hg hd hd hs2).mono ?_
                rintro e w6 ⟨v, rfl, rfl, hs3⟩
                go_wp2_with fail
                refine ⟨⟨k + 1, D, some ⟨lc0, ls0, true⟩, T, S, W, A, true, _, by omega, by go_num, rfl, rfl, HKE2, by omega, Hid.mk' (fun L e => by cases e; exact ⟨by first | omega | (simp only; omega), by first | omega | (simp only; omega)⟩), ?_⟩, by simp [intOf]; omega⟩
                rw [HZ.out]
                exact (hs3.perm (B := blk bx [da, .int .i64 zr, .slice (some ⟨sb, of, none⟩) ss.length sc] 131 * dk b D * fate bf T S W A z true * lg bl b ⟨lc0, ls0, true⟩ * blk bt [.int .i64 s.kind, .int .i64 s.n, .int .i64 s.m, .slice s.ao s.p.length s.c] 133) (by ac_rfl)).drop.logp1_mk
              | false =>
                obtain ⟨L', D', er, hp, p1, p2, p3, p4⟩ := put_spec (c := lc0) (s := ls0) hd hKE.out.calm hg
                have g1 := put_ok (L := ⟨lc0, ls0, false⟩) hKE.out.ok s.p
                have g3 := put_arms ⟨lc0, ls0, false⟩ D s.p
                have g4 := put_lg ⟨lc0, ls0, false⟩ D s.p
                rw [hp] at g1 g3 g4
                simp only at g1 g3 g4
                have HP := Hid.mk' hp
                clear hp
                rcases p4 with ⟨rfl, b1, b2, b3, b4⟩ | ⟨rfl, b1, b2, b3, b4⟩ | ⟨rfl, ⟨j, b1⟩, b2, b3, b4⟩
                · have HKE2 := Hid.mk' (hKE.out.put0 (L' := L') rfl hg g1 p1 p2 p3 b1 b4 b3)
                  have hSl : S.length ≤ 16777216 := by have := len_le_size (T ++ S); rw [HZ.out, List.length_append] at this; omega
                  have HS2 := Hid.mk' (size_put T S s.p)
                  clear p1 p2 p3 b1 b3 b4
                  go_wp2_with fail
                  refine (fput_0 HE.out HT.out hKE.out.ok (by simp only; omega) (by simp only; omega) (by omega) (by omega) s.p s.ao s.c HSO.out.rd HSO.out.len HP.out hg hd b2 rfl hSl hs2).mono ?_
                  rintro e w6 ⟨v, rfl, rfl, hs3⟩
                  go_wp2_with fail
                  refine ⟨⟨k + 1, D', some L', T, S ++ [s.p], W, A, false, _, by omega, by go_num, rfl, rfl, HKE2, by omega, Hid.mk' (fun L e => by cases e; exact ⟨by omega, by omega⟩), ?_⟩, by simp [intOf]; omega⟩
                  rw [HS2.out, HZ.out]
                  exact (hs3.perm (B := blk bx [da, .int .i64 zr, .slice (some ⟨sb, of, none⟩) ss.length sc] 131 * dk b D' * fate bf T (S ++ [s.p]) W A ((z + (8 + s.p.length) : Nat) : Int) false * lg bl b L' * blk bt [.int .i64 s.kind, .int .i64 s.n, .int .i64 s.m, .slice s.ao s.p.length s.c] 133) (by ac_rfl)).drop.logp1_mk
                · have HKE2 := Hid.mk' (hKE.out.put9 (L' := L') rfl g1 p1 p2 p3 b1 b3)
                  have hfull : R < z + (8 + s.p.length) := by have := hKE.out.room; have := HCB.out; omega
                  clear p1 p2 p3 b1 b3 b4
                  go_wp2_with fail
                  refine (fput_9 HE.out HT.out hKE.out.ok (by simp only; omega) (by simp only; omega) (by omega) (by omega) s.p s.ao s.c HSO.out.rd HSO.out.len HP.out hg b2 rfl hfull hs2).mono ?_
                  rintro e w6 ⟨v, rfl, rfl, hs3⟩
                  go_wp2_with fail
                  refine ⟨⟨k + 1, D', some L', T, S, W, A, false, _, by omega, by go_num, rfl, rfl, HKE2, by omega, Hid.mk' (fun L e => by cases e; exact ⟨by first | omega | (simp only; omega), by first | omega | (simp only; omega)⟩), ?_⟩, by simp [intOf]; omega⟩
                  rw [HZ.out]
                  exact (hs3.perm (B := blk bx [da, .int .i64 zr, .slice (some ⟨sb, of, none⟩) ss.length sc] 131 * dk b D' * fate bf T S W A z false * lg bl b L' * blk bt [.int .i64 s.kind, .int .i64 s.n, .int .i64 s.m, .slice s.ao s.p.length s.c] 133) (by ac_rfl)).drop.logp1_mk
                · have HKE2 := Hid.mk' (hKE.out.put10 (L' := L') rfl hg g1 p1 p2 p3 j b1 b4 b3)
                  have hWl : W.length ≤ 16777216 := by rw [HCL.out]; decide
                  clear p1 p2 p3 b1 b3 b4
                  go_wp2_with fail
                  refine (fput_10a HE.out HT.out hKE.out.ok (by simp only; omega) (by simp only; omega) (by omega) (by omega) s.p s.ao s.c HSO.out.rd HSO.out.len HP.out hg hd b2 hWl hs2).mono ?_
                  rintro e w6 ⟨v, rfl, rfl, hs3⟩
                  go_wp2_with fail
                  refine ⟨⟨k + 1, D', some L', T, S, (W ++ [s.p]), A, true, _, by omega, by go_num, rfl, rfl, HKE2, by omega, Hid.mk' (fun L e => by cases e; exact ⟨by first | omega | (simp only; omega), by first | omega | (simp only; omega)⟩), ?_⟩, by simp [intOf]; omega⟩
                  rw [HZ.out]
                  exact (hs3.perm (B := blk bx [da, .int .i64 zr, .slice (some ⟨sb, of, none⟩) ss.length sc] 131 * dk b D' * fate bf T S (W ++ [s.p]) A z true * lg bl b L' * blk bt [.int .i64 s.kind, .int .i64 s.n, .int .i64 s.m, .slice s.ao s.p.length s.c] 133) (by ac_rfl)).drop.logp1_mk
          · have HP := Hid.mk' (put_bad L D hg)
            by_cases hg0 : s.p.length = 0
            · have HG0 := Hid.mk' hg0
              clear hg0 hg
              go_wp2_with fail
              refine (fput_1a HE.out HT.out hKE.out.ok (by omega) (by omega) (by omega) (by omega) s.p s.ao s.c HSO.out.rd HSO.out.len HP.out HG0.out hs2).mono ?_
              rintro e w6 ⟨v, rfl, rfl, hs3⟩
              go_wp2_with fail
              refine ⟨⟨k + 1, D, some L, T, S, W, A, X, _, by omega, by go_num, rfl, rfl, hKE, by omega, Hid.mk' (fun L e => by cases e; exact ⟨by omega, by omega⟩), ?_⟩, by simp [intOf]; omega⟩
              rw [HZ.out]
              exact (hs3.perm (B := blk bx [da, .int .i64 zr, .slice (some ⟨sb, of, none⟩) ss.length sc] 131 * dk b D * fate bf T S W A z X * lg bl b L * blk bt [.int .i64 s.kind, .int .i64 s.n, .int .i64 s.m, .slice s.ao s.p.length s.c] 133) (by ac_rfl)).drop.logp1_mk
            · have hg1 : 8192 < s.p.length := by omega
              clear hg0 hg
              go_wp2_with fail
              refine (fput_1b HE.out HT.out hKE.out.ok (by omega) (by omega) (by omega) (by omega) s.p s.ao s.c HSO.out.rd HSO.out.len HP.out hg1 hs2).mono ?_
              rintro e w6 ⟨v, rfl, rfl, hs3⟩
              go_wp2_with fail
              refine ⟨⟨k + 1, D, some L, T, S, W, A, X, _, by omega, by go_num, rfl, rfl, hKE, by omega, Hid.mk' (fun L e => by cases e; exact ⟨by omega, by omega⟩), ?_⟩, by simp [intOf]; omega⟩
              rw [HZ.out]
              exact (hs3.perm (B := blk bx [da, .int .i64 zr, .slice (some ⟨sb, of, none⟩) ss.length sc] 131 * dk b D * fate bf T S W A z X * lg bl b L * blk bt [.int .i64 s.kind, .int .i64 s.n, .int .i64 s.m, .slice s.ao s.p.length s.c] 133) (by ac_rfl)).drop.logp1_mk
      · have hb1 : (s.kind == 1) = false := beq_eq_false_iff_ne.2 h1
        by_cases h3 : s.kind = 3
        · have hb3 : (s.kind == 3) = true := beq_iff_eq.2 h3
          clear h1 h3
          have hs1 := hT.perm (B := blk bx [da, .int .i64 zr, .slice (some ⟨sb, of, none⟩) ss.length sc] 131 * blk bt [.int .i64 s.kind, .int .i64 s.n, .int .i64 s.m, .slice s.ao s.p.length s.c] 133 * fate bf T S W A z X * logp b lv o * dk b D) (by ac_rfl)
          have HKE2 := Hid.mk' (hKE.out.crash s.n)
          have hga : (D.crash s.n).arms.length ≤ D.arms.length := by
            unfold Dk.crash
            split
            · exact Nat.le_refl _
            · exact Nat.le_refl _
          clear hT
          go_wp2_with fail
          refine (disk_crash hs1 hKE.out.ok s.n q1 q2).mono ?_
          rintro e w6 ⟨v, rfl, rfl, hs2⟩
          generalize D.crash s.n = D' at hs2 HKE2 hga
          go_wp2_with fail
          refine ⟨⟨k + 1, D', o, T, S, W, A, X, _, by omega, by go_num, rfl, rfl, HKE2, by omega, Hid.mk' (fun L e => by have := hDL.out L e; exact ⟨by omega, by omega⟩), ?_⟩, by simp [intOf]; omega⟩
          rw [HZ.out]
          exact (hs2.perm (B := blk bx [da, .int .i64 zr, .slice (some ⟨sb, of, none⟩) ss.length sc] 131 * dk b D' * fate bf T S W A z X * logp b lv o * blk bt [.int .i64 s.kind, .int .i64 s.n, .int .i64 s.m, .slice s.ao s.p.length s.c] 133) (by ac_rfl)).drop
        · have hb3 : (s.kind == 3) = false := beq_eq_false_iff_ne.2 h3
          by_cases h4 : s.kind = 4
          · have hb4 : (s.kind == 4) = true := beq_iff_eq.2 h4
            clear h1 h3 h4
            have hs1 := hT.perm (B := blk bx [da, .int .i64 zr, .slice (some ⟨sb, of, none⟩) ss.length sc] 131 * blk bt [.int .i64 s.kind, .int .i64 s.n, .int .i64 s.m, .slice s.ao s.p.length s.c] 133 * fate bf T S W A z X * logp b lv o * dk b D) (by ac_rfl)
            have HKE2 := Hid.mk' (hKE.out.arm q2 q3 q4)
            have hga : (D.arm s.n s.m).arms.length ≤ D.arms.length + 1 := by show (D.arms ++ [(s.n.toNat, s.m)]).length ≤ _; simp
            clear hT
            go_wp2_with fail
            refine (disk_arm hs1 s.n s.m hDm).mono ?_
            rintro e w6 ⟨v, rfl, rfl, hs2⟩
            generalize D.arm s.n s.m = D' at hs2 HKE2 hga
            obtain ⟨a1, a2, hs3⟩ := (hs2.perm (B := blk bx [da, .int .i64 zr, .slice (some ⟨sb, of, none⟩) ss.length sc] 131 * dk b D' * logp b lv o * blk bt [.int .i64 s.kind, .int .i64 s.n, .int .i64 s.m, .slice s.ao s.p.length s.c] 133 * fate bf T S W A z X) (by ac_rfl)).fate_arm
            clear hs2
            go_wp2_with fail
            refine ⟨⟨k + 1, D', o, T, S, W, true, X, _, by omega, by go_num, rfl, rfl, HKE2, by omega, Hid.mk' (fun L e => by have := hDL.out L e; exact ⟨by omega, by omega⟩), ?_⟩, by simp [intOf]; omega⟩
            rw [HZ.out]
            exact (hs3.perm (B := blk bx [da, .int .i64 zr, .slice (some ⟨sb, of, none⟩) ss.length sc] 131 * dk b D' * fate bf T S W true z X * logp b lv o * blk bt [.int .i64 s.kind, .int .i64 s.n, .int .i64 s.m, .slice s.ao s.p.length s.c] 133) (by ac_rfl)).drop
          · have hb4 : (s.kind == 4) = false := beq_eq_false_iff_ne.2 h4
            by_cases h5 : s.kind = 5
            · have hb5 : (s.kind == 5) = true := beq_iff_eq.2 h5
              clear h1 h3 h4 h5
              have hs1 := hT.perm (B := blk bx [da, .int .i64 zr, .slice (some ⟨sb, of, none⟩) ss.length sc] 131 * blk bt [.int .i64 s.kind, .int .i64 s.n, .int .i64 s.m, .slice s.ao s.p.length s.c] 133 * fate bf T S W A z X * logp b lv o * dk b D) (by ac_rfl)
              have HKE2 := Hid.mk' hKE.out.revive
              have hga : D.revive.arms.length ≤ D.arms.length := Nat.le_refl _
              clear hT
              go_wp2_with fail
              refine (disk_revive hs1).mono ?_
              rintro e w6 ⟨v, rfl, rfl, hs2⟩
              generalize D.revive = D' at hs2 HKE2 hga
              go_wp2_with fail
              refine ⟨⟨k + 1, D', o, T, S, W, A, X, _, by omega, by go_num, rfl, rfl, HKE2, by omega, Hid.mk' (fun L e => by have := hDL.out L e; exact ⟨by omega, by omega⟩), ?_⟩, by simp [intOf]; omega⟩
              rw [HZ.out]
              exact (hs2.perm (B := blk bx [da, .int .i64 zr, .slice (some ⟨sb, of, none⟩) ss.length sc] 131 * dk b D' * fate bf T S W A z X * logp b lv o * blk bt [.int .i64 s.kind, .int .i64 s.n, .int .i64 s.m, .slice s.ao s.p.length s.c] 133) (by ac_rfl)).drop
            · have hb5 : (s.kind == 5) = false := beq_eq_false_iff_ne.2 h5
              by_cases h2 : s.kind = 2
              · have hb2 : (s.kind == 2) = true := beq_iff_eq.2 h2
                clear h1 h2 h3 h4 h5
                have hs1 := (hT.perm (B := blk bx [da, .int .i64 zr, .slice (some ⟨sb, of, none⟩) ss.length sc] 131 * blk bt [.int .i64 s.kind, .int .i64 s.n, .int .i64 s.m, .slice s.ao s.p.length s.c] 133 * fate bf T S W A z X * dk b D * logp b lv o) (by ac_rfl)).drop
                clear hT
                have HKE2 := Hid.mk' hKE.out.revive
                have hga := Dk.wopen_arms D.revive
                have hgo := hKE.out.ok.revive.wopen
                have hfit := hKE.out.fit
                obtain ⟨D', w1, w2, w3, w4⟩ := wopen_spec (D := D.revive) rfl hKE.out.calm
                obtain ⟨B, hB⟩ : ∃ B, D.revive = B := ⟨_, rfl⟩
                have hBb : B.bytes = D.bytes := by rw [← hB]; rfl
                rw [hB] at HKE2 hga hgo w1 w2 w4
                have hBs : B.bytes.length ≤ 19999 := by rw [hBb]; omega
                have hBm : B.bytes.length ≤ 16777216 := by omega
                have hBa : B.arms.length ≤ D.arms.length := by rw [← hB]; exact Nat.le_refl _
                have HB := Hid.mk' hB
                have HBO := Hid.mk' HKE2.out.ok
                have hzf := hKE.out.way_le
                clear hB hBb
                go_wp2_with fail
                refine (disk_revive hs1).mono ?_
                rintro e w6 ⟨v, rfl, rfl, hs2⟩
                rw [HB.out] at hs2
                clear hs1
                rcases w4 with ⟨w4, w5, w7⟩ | ⟨w4, w5, w7, w8⟩
                · have hfd := HKE2.out.found
                  have HKE3' := HKE2.out.opened (D' := D') (by rw [w4] at hgo; exact hgo) w1 w2 w3 w5
                  obtain ⟨fs, hfs⟩ : ∃ fs, frames B.bytes = fs := ⟨_, rfl⟩
                  obtain ⟨zf, hzz⟩ : ∃ zf, size fs = zf := ⟨_, rfl⟩
                  rw [hfs] at hfd HKE3'
                  have HKE3 := Hid.mk' (HKE3' fs.length zf)
                  have hzl : zf ≤ B.bytes.length := by rw [← hzz, ← hfs]; exact size_frames _
                  have hfl := len_le_size fs
                  have hTS := len_le_size (T ++ S)
                  rw [hzz] at hfl
                  rw [HZ.out, List.length_append] at hTS
                  have HFM := Hid.mk' (fun p (hp : p ∈ fs) => show p.length ≤ 16777216 from by rw [← hfs] at hp; have := (frames_mem p hp).2; omega)
                  have HFS := Hid.mk' hfs
                  have HZF := Hid.mk' hzz
                  have HW := Hid.mk' w4
                  have hD'a : D'.arms.length ≤ D.arms.length := by rw [w4] at hga; exact Nat.le_trans hga hBa
                  have hwl := hzf.1
                  have HFD := Hid.mk' hfd
                  clear w1 w2 w3 w4 w5 hfs hzz HKE3' hga hgo hzf hfd
                  go_wp2_with fail
                  refine (wal_open_0 (HE.out.at 1 (by decide) (by decide)) (HE.out.at 10 (by decide) (by decide)) HT.out HBO.out hBm HW.out HFS.out HZF.out hs2).mono ?_
                  rintro e w9 ⟨v, rfl, bl2, lo, lc, rfl, hs3⟩
                  have hs4 := hs3.perm (B := blk bx [da, .int .i64 zr, .slice (some ⟨sb, of, none⟩) ss.length sc] 131 * blk bt [.int .i64 s.kind, .int .i64 s.n, .int .i64 s.m, .slice s.ao s.p.length s.c] 133 * dk b D' * lg bl2 b ⟨fs.length, zf, false⟩ * vecs (.slice lo fs.length lc) fs * fate bf T S W A z X) (by ac_rfl)
                  clear hs2 hs3
                  go_wp2_with fail
                  refine (fate_opened HFD.out (by omega) (by omega) (by rw [HZF.out]; omega) HFM.out hs4).mono ?_
                  rintro e w10 ⟨v, rfl, rfl, hs5⟩
                  rw [HZF.out] at hs5
                  go_wp2_with fail
                  refine ⟨⟨k + 1, D', some ⟨fs.length, zf, false⟩, fs, [], [], A, false, _, by omega, by go_num, rfl, rfl, HKE3, by omega, Hid.mk' (fun L e => by cases e; exact ⟨by simp only; omega, by simp only; omega⟩), ?_⟩, by simp [intOf]; omega⟩
                  rw [List.append_nil, HZF.out]
                  exact (hs5.perm (B := blk bx [da, .int .i64 zr, .slice (some ⟨sb, of, none⟩) ss.length sc] 131 * dk b D' * fate bf fs [] [] A zf false * lg bl2 b ⟨fs.length, zf, false⟩ * blk bt [.int .i64 s.kind, .int .i64 s.n, .int .i64 s.m, .slice s.ao s.p.length s.c] 133) (by ac_rfl)).drop.logp1_mk
                · have hA : A = true := by
                    cases A with
                    | true => rfl
                    | false => exact absurd (HKE2.out.arms rfl) w8
                  subst hA
                  have HKE3 := Hid.mk' (HKE2.out.failed (D' := D') (by rw [w4] at hgo; exact hgo) w1 w2 w3 w5)
                  have HW := Hid.mk' w4
                  have hD'a : D'.arms.length ≤ D.arms.length := by rw [w4] at hga; exact Nat.le_trans hga hBa
                  clear w1 w2 w3 w4 w5 w8 hga hgo hzf
                  go_wp2_with fail
                  refine (wal_open_10 (HE.out.at 1 (by decide) (by decide)) (HE.out.at 10 (by decide) (by decide)) HT.out HBO.out hBm HW.out hs2).mono ?_
                  rintro e w9 ⟨v, rfl, rfl, hs3⟩
                  have k3 := (hs3.perm (B := blk bx [da, .int .i64 zr, .slice (some ⟨sb, of, none⟩) ss.length sc] 131 * blk bt [.int .i64 s.kind, .int .i64 s.n, .int .i64 s.m, .slice s.ao s.p.length s.c] 133 * dk b D' * fate bf T S W true z X) (by ac_rfl)).fate_arm.1
                  have HN := Hid.mk' (kit_num (HE.out.of0 hs3) 10 (by decide))
                  have HD := Hid.mk' (disk_dead hs3)
                  rw [w7] at HD
                  clear hs2
                  simp only [errv]
                  simp only [errv] at HN
                  go_wp2_with (first | (go_at_call 26; refine HN.out.mono ?_; rintro e w11 ⟨rfl, rfl⟩) | (go_at_call 53; refine HD.out.mono ?_; rintro e w11 ⟨rfl, rfl⟩))
                  refine ⟨⟨k + 1, D', none, T, S, W, true, X, _, by omega, by go_num, rfl, rfl, HKE3, by omega, Hid.mk' (fun L e => by cases e), ?_⟩, by simp [intOf]; omega⟩
                  rw [HZ.out]
                  exact (hs3.perm (B := blk bx [da, .int .i64 zr, .slice (some ⟨sb, of, none⟩) ss.length sc] 131 * dk b D' * fate bf T S W true z X * blk bt [.int .i64 s.kind, .int .i64 s.n, .int .i64 s.m, .slice s.ao s.p.length s.c] 133) (by ac_rfl)).drop.logp0_mk
              · have hb2 : (s.kind == 2) = false := beq_eq_false_iff_ne.2 h2
                clear h1 h2 h3 h4 h5
                go_wp2_with fail
                refine ⟨⟨k + 1, D, o, T, S, W, A, X, _, by omega, by go_num, rfl, rfl, hKE, by omega, Hid.mk' (fun L e => by have := hDL.out L e; exact ⟨by omega, by omega⟩), ?_⟩, by simp [intOf]; omega⟩
                rw [HZ.out]
                exact hT.drop
    · obtain rfl : k = ss.length := by omega
      have hs1 := (hS.perm (B := blk bx [da, .int .i64 zr, .slice so ss.length sc] 131 * fate bf T S W A z X * dk b D * logp b lv o) (by ac_rfl)).drop
      clear hS
      have HKE2 := Hid.mk' hKE.out.revive
      have hga := Dk.wopen_arms D.revive
      have hgo := hKE.out.ok.revive.wopen
      have hfit := hKE.out.fit
      obtain ⟨D', w1, w2, w3, w4⟩ := wopen_spec (D := D.revive) rfl hKE.out.calm
      obtain ⟨B, hB⟩ : ∃ B, D.revive = B := ⟨_, rfl⟩
      have hBb : B.bytes = D.bytes := by rw [← hB]; rfl
      rw [hB] at HKE2 hga hgo w1 w2 w4
      have hBs : B.bytes.length ≤ 19999 := by rw [hBb]; omega
      have hBm : B.bytes.length ≤ 16777216 := by omega
      have hBa : B.arms.length ≤ D.arms.length := by rw [← hB]; exact Nat.le_refl _
      have HB := Hid.mk' hB
      have HBO := Hid.mk' HKE2.out.ok
      have hzf := hKE.out.way_le
      clear hB hBb
      go_wp2_with fail
      refine (disk_revive hs1).mono ?_
      rintro e w6 ⟨v, rfl, rfl, hs2⟩
      rw [HB.out] at hs2
      clear hs1
      rcases w4 with ⟨w4, w5, w7⟩ | ⟨w4, w5, w7, w8⟩
      · have hfd := HKE2.out.found
        have HKE3' := HKE2.out.opened (D' := D') (by rw [w4] at hgo; exact hgo) w1 w2 w3 w5
        obtain ⟨fs, hfs⟩ : ∃ fs, frames B.bytes = fs := ⟨_, rfl⟩
        obtain ⟨zf, hzz⟩ : ∃ zf, size fs = zf := ⟨_, rfl⟩
        rw [hfs] at hfd HKE3'
        have HKE3 := Hid.mk' (HKE3' fs.length zf)
        have hzl : zf ≤ B.bytes.length := by rw [← hzz, ← hfs]; exact size_frames _
        have hfl := len_le_size fs
        have hTS := len_le_size (T ++ S)
        rw [hzz] at hfl
        rw [HZ.out, List.length_append] at hTS
        have HFM := Hid.mk' (fun p (hp : p ∈ fs) => show p.length ≤ 16777216 from by rw [← hfs] at hp; have := (frames_mem p hp).2; omega)
        have HFS := Hid.mk' hfs
        have HZF := Hid.mk' hzz
        have HW := Hid.mk' w4
        have hD'a : D'.arms.length ≤ D.arms.length := by rw [w4] at hga; exact Nat.le_trans hga hBa
        have hwl := hzf.1
        have HFD := Hid.mk' hfd
        clear w1 w2 w3 w4 w5 hfs hzz HKE3' hga hgo hzf hfd
        go_wp2_with fail
        refine (wal_open_0 (HE.out.at 1 (by decide) (by decide)) (HE.out.at 10 (by decide) (by decide)) HT.out HBO.out hBm HW.out HFS.out HZF.out hs2).mono ?_
        rintro e w9 ⟨v, rfl, bl2, lo, lc, rfl, hs3⟩
        have hs4 := hs3.perm (B := blk bx [da, .int .i64 zr, .slice so ss.length sc] 131 * dk b D' * lg bl2 b ⟨fs.length, zf, false⟩ * vecs (.slice lo fs.length lc) fs * fate bf T S W A z X) (by ac_rfl)
        clear hs2 hs3
        go_wp2_with fail
        refine (fate_opened HFD.out (by omega) (by omega) (by rw [HZF.out]; omega) HFM.out hs4).mono ?_
        rintro e w10 ⟨v, rfl, rfl, hs5⟩
        rw [HZF.out] at hs5
        go_wp2_with fail
        go_ret
        exact Ret.mk ⟨rfl, (Sat.start w).ext hs5.below⟩
      · have hA : A = true := by
          cases A with
          | true => rfl
          | false => exact absurd (HKE2.out.arms rfl) w8
        subst hA
        have HKE3 := Hid.mk' (HKE2.out.failed (D' := D') (by rw [w4] at hgo; exact hgo) w1 w2 w3 w5)
        have HW := Hid.mk' w4
        have hD'a : D'.arms.length ≤ D.arms.length := by rw [w4] at hga; exact Nat.le_trans hga hBa
        clear w1 w2 w3 w4 w5 w8 hga hgo hzf
        go_wp2_with fail
        refine (wal_open_10 (HE.out.at 1 (by decide) (by decide)) (HE.out.at 10 (by decide) (by decide)) HT.out HBO.out hBm HW.out hs2).mono ?_
        rintro e w9 ⟨v, rfl, rfl, hs3⟩
        have k3 := (hs3.perm (B := blk bx [da, .int .i64 zr, .slice so ss.length sc] 131 * dk b D' * fate bf T S W true z X) (by ac_rfl)).fate_arm.1
        have HN := Hid.mk' (kit_num (HE.out.of0 hs3) 10 (by decide))
        have HD := Hid.mk' (disk_dead hs3)
        rw [w7] at HD
        clear hs2
        simp only [errv]
        simp only [errv] at HN
        go_wp2_with (first | (go_at_call 26; refine HN.out.mono ?_; rintro e w11 ⟨rfl, rfl⟩) | (go_at_call 53; refine HD.out.mono ?_; rintro e w11 ⟨rfl, rfl⟩))
        go_ret
        exact Ret.mk ⟨rfl, (Sat.start w).ext hs3.below⟩
end Go.Proofs.YtjhlelcopofkkaaDoor

