/- The walk of the law WalFull. -/
import Derived.Test.YtjhlelcopofkkaaDoorWalTwiceW
import Derived.Test.YtjhlelcopofkkaaDoorStp13
import Derived.Test.YtjhlelcopofkkaaDoorBase
namespace Go.Proofs.YtjhlelcopofkkaaDoor
open Go.RowKit

theorem put_bad (L : Lg) (D : Dk) {p : List UInt8} (h : ¬ (1 ≤ p.length ∧ p.length ≤ 8192)) : L.put D p = (L, D, 1) := if_neg h
theorem put_fits {n s : Nat} {D : Dk} (ha : D.arms = []) (hd : D.dead = false) {p : List UInt8} (h : 1 ≤ p.length ∧ p.length ≤ 8192) (hf : D.bytes.length + (8 + p.length) ≤ D.room) :
    Lg.put ⟨n, s, false⟩ D p = (⟨n + 1, s + (8 + p.length), false⟩, { D with bytes := D.bytes ++ wframe p, synced := (D.bytes ++ wframe p).length }, 0) := by
  have hfit : D.fits (wframe p).length := by unfold Dk.fits; rw [wframe_length]; exact hf
  have e1 : D.append (wframe p) = ({ D with bytes := D.bytes ++ wframe p }, 0) := by
    rw [Dk.append_none ha, if_neg (by rw [hd]; simp), if_pos hfit]
    unfold Dk.putp
    rw [if_pos hfit]
  unfold Lg.put
  rw [if_pos h, if_neg (show ¬ false = true by decide), e1, if_pos rfl]
  simp only
  rw [Dk.sync_live (D := { D with bytes := D.bytes ++ wframe p }) ha hd, if_pos rfl]
theorem put_full {n s : Nat} {D : Dk} (ha : D.arms = []) (hd : D.dead = false) {p : List UInt8} (h : 1 ≤ p.length ∧ p.length ≤ 8192) (hf : ¬ D.bytes.length + (8 + p.length) ≤ D.room) :
    Lg.put ⟨n, s, false⟩ D p = (⟨n, s, false⟩, D, 9) := by
  have hfit : ¬ D.fits (wframe p).length := by unfold Dk.fits; rw [wframe_length]; exact hf
  have e1 : D.append (wframe p) = (D, 9) := by rw [Dk.append_none ha, if_neg (by rw [hd]; simp), if_neg hfit]
  unfold Lg.put
  rw [if_pos h, if_neg (show ¬ false = true by decide), e1, if_neg (show ¬ (9 : Nat) = 0 by decide)]
  rfl
theorem put_any {F : HP} {w0 w : World} {p : List UInt8} {b bl : Nat} {E : Nat → Addr} {R : Lg × Dk × Nat} {D : Dk} {L : Lg} (hR : L.put D p = R) (hE : Errs w0 E) (hT : CrcTab w0) (hD : D.Ok) (hc1 : L.count < 9223372036854775807) (hc2 : L.size + 8200 ≤ 9223372036854775807) (ao : Option Addr) (c : Nat) (hr : Rd w ao (bvs p)) (hs : Sat w0 w (F * lg bl b L * dk b D)) :
    Calls Tryd.prog 76 #[.pointer (some ⟨bl, 0, none⟩), .slice ao p.length c] w (Ret fun v w' => v = errv E R.2.2 ∧ Sat w0 w' (F * lg bl b R.1 * dk b R.2.1)) := by
  subst hR
  exact wal_put hE hT hD hc1 hc2 p ao c hr hs

set_option maxRecDepth 20000 in
set_option maxHeartbeats 12800000 in
theorem walk_walFull {w : World} {E : Nat → Addr} (hE : Errs w E) (hT : CrcTab w) (da : Value) (zr : Int) (ss : List Stp13) (so : Option Addr) (sc : Nat) (hr : Rd w so (s13s ss)) (hn : ss.length ≤ 2932031007402) (hok : ∀ s ∈ ss, s.Ok w) :
    Calls Tryd.prog 18 #[.agg #[da, .int .i64 zr, .slice so ss.length sc]] w (Ret fun v w' => v = .bool true ∧ Sat w w' 1) := by
  have HE := Hid.mk' hE
  have HT := Hid.mk' hT
  have HR := Hid.mk' hr
  have HO := Hid.mk' hok
  have HBE := Hid.mk' (law13_begun hT)
  have hp0 := pick_nonneg zr 300
  have hp1 := pick_lt zr 300 (by decide)
  obtain ⟨R, hR⟩ : ∃ R : Nat, pick zr 300 = (R : Int) := ⟨(pick zr 300).toNat, by omega⟩
  have HK := Hid.mk' (kit_pick (w := (w.alloc (.cells #[da, .int .i64 zr, .slice so ss.length sc] 131))) zr 300 (by decide) (by decide))
  rw [hR] at HK hp1
  have hs0 := (Sat.start w).new #[da, .int .i64 zr, .slice so ss.length sc] 131
  rw [HP.one_mul] at hs0
  have HND := Hid.mk' (show Dk.new [] R = ⟨[], 0, R, false, []⟩ by unfold Dk.new; rw [show (min (max (R : Int) 0) 1073741824).toNat = R by omega]; rfl)
  have HF0 := Hid.mk' (show frames [] = [] from frames_short (by decide))
  clear hE hT hr hok hR hp0
  go_enter Tryd.func18, Tryd.ntmps18
  go_wp2_with (go_at_call 29; refine HK.out.mono ?_; rintro e w1 ⟨rfl, rfl⟩)
  go_wp2_with fail
  refine (disk_new hs0 R).mono ?_
  rintro e w2 ⟨v, rfl, b, rfl, hs1⟩
  go_wp2_with fail
  refine (wal_open_at (HE.out.at 1 (by decide) (by decide)) (HE.out.at 10 (by decide) (by decide)) HT.out (by decide) HF0.out (P := []) rfl rfl hs1).mono ?_
  rintro e w3 ⟨v, rfl, bl, lo, lc, rfl, hs2⟩
  go_wp2_with (go_at_call 37; refine (law13_begun (HT.out.mono hs2.below)).mono ?_; rintro e w4 ⟨v, rfl, rfl, hx⟩)
  have hs3 : Sat w w4 (blk w.heap.size [da, .int .i64 zr, .slice so ss.length sc] 131 * dk b ⟨[], 0, R, false, []⟩ * lg bl b ⟨0, 0, false⟩) := by
    have := hs2.drop.then1 hx
    rw [HND.out] at this
    exact this
  generalize hbx : w.heap.size = bx at *
  clear hs0 hs1 hs2 hx HND HF0 HBE HK hbx
  go_loopw [11, 9, 10] (fun i sz cn wr => ∃ (k n : Nat) (B : List UInt8), k ≤ ss.length ∧ i = .int .i64 k ∧ sz = .int .i64 B.length ∧ cn = .int .i64 n ∧ n ≤ B.length ∧ B.length ≤ R ∧ Sat w wr (pr [blk bx [da, .int .i64 zr, .slice so ss.length sc] 131, dk b ⟨B, B.length, R, false, []⟩, lg bl b ⟨n, B.length, false⟩])) (fun i _ _ _ => ss.length - (intOf i).toNat)
  case atStart => exact ⟨0, 0, [], by omega, rfl, rfl, rfl, by simp, by simp, hs3.pr3⟩
  case round =>
    obtain ⟨k, n, B, hk, rfl, rfl, rfl, hnB, hBR, hS⟩ := hrel
    have k2 := (hS.at 0).cell (i := 2) (v := .slice so ss.length sc) rfl
    by_cases hlt : k < ss.length
    · obtain ⟨sb, of, rfl, _, _, _, c3⟩ := s13s_cells (HR.out.of0 hS) hlt
      have hso := HO.out ss[k] (List.getElem_mem hlt)
      generalize ss[k] = s at *
      have hDo : (⟨B, B.length, R, false, []⟩ : Dk).Ok := ⟨Nat.le_refl _, by simp only; omega, by simp only; omega, fun x hx => by cases hx⟩
      by_cases h0 : s.p.length = 0
      · have HP := Hid.mk' (put_bad ⟨n, B.length, false⟩ ⟨B, B.length, R, false, []⟩ (p := s.p) (by omega))
        have hb0 : ((s.p.length : Int) == 0) = true := by simp [h0]
        clear h0
        go_wp2_with fail
        refine (put_any HP.out HE.out HT.out hDo (by simp only; omega) (by simp only; omega) s.ao s.c (hso.rd.of0 hS) (hS.unpr3.swap)).mono ?_
        rintro e w5 ⟨v, rfl, rfl, hs5⟩
        go_wp2_with fail
        refine (disk_look hDo hs5).mono ?_
        rintro e w6 ⟨v, rfl, u, rfl, hs6⟩
        obtain ⟨ua, uc, rfl, _, _, _⟩ := hs6.vec_rd
        have hs7 := hs6.drop
        have hE7 := Hid.mk' (HE.out.of0 hs7)
        have hC := Hid.mk' (wal_count hs7.swap)
        have hZ := Hid.mk' (wal_size hs7.swap)
        go_wp2_with (first | (go_at_call 26; refine (kit_num hE7.out 1 (by decide)).mono ?_; rintro e w8 ⟨rfl, rfl⟩) | (go_at_call 75; refine hZ.out.mono ?_; rintro e w8 ⟨rfl, rfl⟩) | (go_at_call 74; refine hC.out.mono ?_; rintro e w8 ⟨rfl, rfl⟩))
        refine ⟨⟨k + 1, n, B, by omega, rfl, rfl, by go_num, by omega, by omega, hs7.swap.pr3⟩, by simp [intOf]; omega⟩
      · have hb0 : ((s.p.length : Int) == 0) = false := beq_eq_false_iff_ne.2 (by omega)
        by_cases h1 : s.p.length ≤ 8192
        · by_cases h2 : B.length + (8 + s.p.length) ≤ R
          · have HP := Hid.mk' (put_fits (n := n) (s := B.length) (D := ⟨B, B.length, R, false, []⟩) rfl rfl (p := s.p) ⟨by omega, h1⟩ h2)
            obtain ⟨B', hB'⟩ : ∃ B', B ++ wframe s.p = B' := ⟨_, rfl⟩
            have hl : B'.length = B.length + (8 + s.p.length) := by rw [← hB', List.length_append, wframe_length]
            rw [hB', ← hl] at HP
            have hne : ((B'.length : Int) != (B.length : Int) + 8 + (s.p.length : Int)) = false := by rw [bne_eq_false_iff_eq]; omega
            have hDo' : (⟨B', B'.length, R, false, []⟩ : Dk).Ok := ⟨Nat.le_refl _, by simp only; omega, by simp only; omega, fun x hx => by cases hx⟩
            have HL := Hid.mk' hl
            clear hl hB' 
            go_wp2_with fail
            refine (put_any HP.out HE.out HT.out hDo (by simp only; omega) (by simp only; omega) s.ao s.c (hso.rd.of0 hS) (hS.unpr3.swap)).mono ?_
            rintro e w5 ⟨v, rfl, rfl, hs5⟩
            go_wp2_with fail
            refine (disk_look hDo' hs5).mono ?_
            rintro e w6 ⟨v, rfl, u, rfl, hs6⟩
            obtain ⟨ua, uc, rfl, _, _, _⟩ := hs6.vec_rd
            have hs7 := hs6.drop
            have hE7 := Hid.mk' (HE.out.of0 hs7)
            have hC := Hid.mk' (wal_count hs7.swap)
            have hZ := Hid.mk' (wal_size hs7.swap)
            go_wp2_with (first | (go_at_call 26; refine (kit_num hE7.out 0 (by decide)).mono ?_; rintro e w8 ⟨rfl, rfl⟩) | (go_at_call 75; refine hZ.out.mono ?_; rintro e w8 ⟨rfl, rfl⟩) | (go_at_call 74; refine hC.out.mono ?_; rintro e w8 ⟨rfl, rfl⟩))
            refine ⟨⟨k + 1, n + 1, B', by omega, rfl, congrArg (Value.int .i64) (by have := HL.out; omega), by go_num, by have := HL.out; omega, by have := HL.out; omega, hs7.swap.pr3⟩, by simp [intOf]; omega⟩
          · have HP := Hid.mk' (put_full (n := n) (s := B.length) (D := ⟨B, B.length, R, false, []⟩) rfl rfl (p := s.p) ⟨by omega, h1⟩ h2)
            go_wp2_with fail
            refine (put_any HP.out HE.out HT.out hDo (by simp only; omega) (by simp only; omega) s.ao s.c (hso.rd.of0 hS) (hS.unpr3.swap)).mono ?_
            rintro e w5 ⟨v, rfl, rfl, hs5⟩
            go_wp2_with fail
            refine (disk_look hDo hs5).mono ?_
            rintro e w6 ⟨v, rfl, u, rfl, hs6⟩
            obtain ⟨ua, uc, rfl, _, _, _⟩ := hs6.vec_rd
            have hs7 := hs6.drop
            have hE7 := Hid.mk' (HE.out.of0 hs7)
            have hC := Hid.mk' (wal_count hs7.swap)
            have hZ := Hid.mk' (wal_size hs7.swap)
            go_wp2_with (first | (go_at_call 26; refine (kit_num hE7.out 9 (by decide)).mono ?_; rintro e w8 ⟨rfl, rfl⟩) | (go_at_call 75; refine hZ.out.mono ?_; rintro e w8 ⟨rfl, rfl⟩) | (go_at_call 74; refine hC.out.mono ?_; rintro e w8 ⟨rfl, rfl⟩))
            refine ⟨⟨k + 1, n, B, by omega, rfl, rfl, by go_num, by omega, by omega, hs7.swap.pr3⟩, by simp [intOf]; omega⟩
        · have HP := Hid.mk' (put_bad ⟨n, B.length, false⟩ ⟨B, B.length, R, false, []⟩ (p := s.p) (by omega))
          go_wp2_with fail
          refine (put_any HP.out HE.out HT.out hDo (by simp only; omega) (by simp only; omega) s.ao s.c (hso.rd.of0 hS) (hS.unpr3.swap)).mono ?_
          rintro e w5 ⟨v, rfl, rfl, hs5⟩
          go_wp2_with fail
          refine (disk_look hDo hs5).mono ?_
          rintro e w6 ⟨v, rfl, u, rfl, hs6⟩
          obtain ⟨ua, uc, rfl, _, _, _⟩ := hs6.vec_rd
          have hs7 := hs6.drop
          have hE7 := Hid.mk' (HE.out.of0 hs7)
          have hC := Hid.mk' (wal_count hs7.swap)
          have hZ := Hid.mk' (wal_size hs7.swap)
          go_wp2_with (first | (go_at_call 26; refine (kit_num hE7.out 1 (by decide)).mono ?_; rintro e w8 ⟨rfl, rfl⟩) | (go_at_call 75; refine hZ.out.mono ?_; rintro e w8 ⟨rfl, rfl⟩) | (go_at_call 74; refine hC.out.mono ?_; rintro e w8 ⟨rfl, rfl⟩))
          refine ⟨⟨k + 1, n, B, by omega, rfl, rfl, by go_num, by omega, by omega, hs7.swap.pr3⟩, by simp [intOf]; omega⟩
    · obtain rfl : k = ss.length := by omega
      go_wp2_with fail
      go_ret
      exact Ret.mk ⟨rfl, (Sat.start w).ext (hS.below)⟩
end Go.Proofs.YtjhlelcopofkkaaDoor
