/- The laws of layer 13: a Put of the program's log beside one of the document's. -/
import Derived.Test.YtjhlelcopofkkaaDoorPow
namespace Go.Proofs.YtjhlelcopofkkaaDoor
open Go.RowKit

theorem put_err (L : Lg) (D : Dk) (p : List UInt8) : (L.put D p).2.2 ≤ 13 := by
  unfold Lg.put
  split
  · split
    · show 10 ≤ 13; decide
    · split
      · split
        · show 0 ≤ 13; decide
        · show 10 ≤ 13; decide
      · show (D.append (wframe p)).2 ≤ 13
        rcases Dk.append_cases D (wframe p) with h | h | h <;> omega
  · show 1 ≤ 13; decide
set_option maxRecDepth 20000 in
set_option maxHeartbeats 12800000 in
theorem law13_put {w0 w : World} {F : HP} {bl br b c : Nat} {L L' : Lg} {D D' : Dk} {er : Nat} {E : Nat → Addr} (hE : Errs w0 E) (hT : CrcTab w0) (hD : D.Ok) (hm : D.arms.length < 8796093022207) (hc1 : L.count < 9223372036854775807) (hc2 : L.size + 8200 ≤ 9223372036854775807)
    (p : List UInt8) (ao : Option Addr) (pc : Nat) (hr : Rd w0 ao (bvs p)) (hn : p.length ≤ 140737488351232) (hp : L.put D p = (L', D', er)) (hs : Sat w0 w (F * lg bl b L * rl br c L * dk b D * rk c D)) :
    Calls Tryd.prog 80 #[.pointer (some ⟨bl, 0, none⟩), .pointer (some ⟨br, 0, none⟩), .slice ao p.length pc] w (Ret fun v w' => v = .bool true ∧ Sat w0 w' (F * lg bl b L' * rl br c L' * dk b D' * rk c D')) := by
  have her := put_err L D p
  rw [hp] at her
  have HE := Hid.mk' hE
  have HT := Hid.mk' hT
  have HR := Hid.mk' hr
  have HP := Hid.mk' hp
  have HL := Hid.mk' (bvs_length p)
  clear hE hT hr hp
  go_enter Tryd.func80, Tryd.ntmps80
  go_wp2_with fail
  refine (kit_copy p ao pc (HR.out.of0 hs) hn).mono ?_
  rintro e w1 ⟨v1, rfl, hx⟩
  have hs1 := hs.glue hx
  obtain ⟨a1, c1, rfl, hc1', _, hno1⟩ := hs1.vec_rd
  go_wp2_with fail
  refine (kit_copy p ao pc (HR.out.of0 hs1) hn).mono ?_
  rintro e w2 ⟨v2, rfl, hx2⟩
  have hs2 := hs1.glue hx2
  clear hs1 hx hx2 hs
  go_wp2_with (at_builtin; refine sl_append rfl _ _ 22 rfl 5 (.int .u8 0) 1 1 Tryd.underlying22 info_u8 rfl (by decide) _ p.length _ rfl (by exact hs2.skip) _ 2 _ [.int .u8 170, .int .u8 187] rfl rfl (by exact Rd.made _ _ _ _) (by intro u hu; simp at hu; rcases hu with rfl | rfl <;> rfl) (by simp only [maxLen]; omega) (by omega) ?_; intro v3 w3 hq3; obtain ⟨hl3, ⟨e3, en3, _⟩ | ⟨b3, c3, sp3, e3, q31, q32, q33, hs3⟩⟩ := hq3.vec_cases; (exfalso; omega); cases e3; clear hq3)
  clear hs2
  refine (show Calls Tryd.prog 76 #[.pointer (some ⟨bl, 0, none⟩), .slice (some ⟨b3, 0, none⟩) p.length c3] w3 (Ret fun v w' => v = errv E er ∧ Sat w0 w' (F * rl br c L * rk c D * vec 5 1 (.slice a1 p.length c1) p.length (bvs p) * blk b3 (bvs p ++ [.int .u8 170, .int .u8 187] ++ sp3) 5 * lg bl b L' * dk b D')) from by
    have := wal_put (F := F * rl br c L * rk c D * vec 5 1 (.slice a1 p.length c1) p.length (bvs p) * blk b3 (bvs p ++ [.int .u8 170, .int .u8 187] ++ sp3) 5) (b := b) (bl := bl) (D := D) (L := L) HE.out HT.out hD hc1 hc2 p (some ⟨b3, 0, none⟩) c3 (Rd.of_heap hs3.heap).left.left (hs3.perm (by ac_rfl))
    rw [HP.out] at this
    exact this).mono ?_
  rintro e w4 ⟨v, rfl, rfl, hs4⟩
  have hs4 := hs4.perm (B := F * vec 5 1 (.slice a1 p.length c1) p.length (bvs p) * blk b3 (bvs p ++ [.int .u8 170, .int .u8 187] ++ sp3) 5 * lg bl b L' * dk b D' * rl br c L * rk c D) (by ac_rfl)
  clear hs3
  have hra := (hs4.perm (B := F * blk b3 (bvs p ++ [.int .u8 170, .int .u8 187] ++ sp3) 5 * lg bl b L' * dk b D' * rl br c L * rk c D * vec 5 1 (.slice a1 p.length c1) p.length (bvs p)) (by ac_rfl)).rd
  go_wp2_with fail
  refine (show Calls Tryd.prog 130 #[.pointer (some ⟨br, 0, none⟩), .slice a1 p.length c1] w4 (Ret fun v w' => v = .int .i64 er ∧ Sat w0 w' (F * vec 5 1 (.slice a1 p.length c1) p.length (bvs p) * blk b3 (bvs p ++ [.int .u8 170, .int .u8 187] ++ sp3) 5 * lg bl b L' * dk b D' * rl br c L' * rk c D')) from by
    have := ref13_put (b := c) (bl := br) (D := D) (L := L) hm hD hc1 hc2 p a1 c1 hra hno1 hs4
    rw [HP.out] at this
    exact this).mono ?_
  rintro e w5 ⟨v, rfl, rfl, hs5⟩
  have hs5 := hs5.perm (B := F * lg bl b L' * dk b D' * rl br c L' * rk c D' * vec 5 1 (.slice a1 p.length c1) p.length (bvs p) * blk b3 (bvs p ++ [.int .u8 170, .int .u8 187] ++ sp3) 5) (by ac_rfl)
  clear hs4 hra
  go_wp2_with fail
  refine (ref0_sameBytes p p _ _ _ _ (Rd.of_heap hs5.heap).left.left hs5.swap.rd hn).mono ?_
  rintro e w6 ⟨rfl, n6, rfl⟩
  rw [decide_eq_true rfl]
  have hs6 := hs5.drewN n6
  generalize w5.drewN n6 = w6 at hs6 ⊢
  clear hs5
  have k0 : w6.cell? ⟨b3, p.length, none⟩ = some (.int .u8 170) := hs6.cell (by rw [List.append_assoc, List.getElem?_append_right (by rw [HL.out]; omega), HL.out, Nat.sub_self]; rfl)
  have k1 : w6.cell? ⟨b3, p.length + 1, none⟩ = some (.int .u8 187) := hs6.cell (by rw [List.append_assoc, List.getElem?_append_right (by rw [HL.out]; omega), HL.out, Nat.add_sub_cancel_left]; rfl)
  go_wp2_with fail
  clear k0 k1
  have hs7 : Sat w0 w6 (F * lg bl b L' * rl br c L' * dk b D' * rk c D' * vec 5 1 (.slice a1 p.length c1) p.length (bvs p) * blk b3 ((p.map (fun b : UInt8 => (b.toNat : Int)) ++ [170, 187]).map (Value.int .u8) ++ sp3) 5) := by
    have e : (p.map (fun b : UInt8 => (b.toNat : Int)) ++ [170, 187]).map (Value.int .u8) = bvs p ++ [.int .u8 170, .int .u8 187] := by
      rw [List.map_append, List.map_map]; rfl
    rw [e]; exact hs6.perm (by ac_rfl)
  clear hs6
  go_loopw [12] (fun i wr => ∃ k : Nat, k ≤ p.length ∧ i = .int .i64 k ∧ ∃ ns : List Int, Hid (ns.length = p.length + 2) ∧ Sat w0 wr (F * lg bl b L' * rl br c L' * dk b D' * rk c D' * vec 5 1 (.slice a1 p.length c1) p.length (bvs p) * blk b3 (ns.map (Value.int .u8) ++ sp3) 5)) (fun i _ => p.length - (intOf i).toNat)
  case atStart => exact ⟨0, by omega, rfl, _, by show _ = _; simp, hs7⟩
  case round =>
    clear hs7
    obtain ⟨k, hk, rfl, ns, hns, hS⟩ := hrel
    by_cases hlt : k < p.length
    · have hkn : k < ns.length := by rw [hns.out]; omega
      have hcell : wr.cell? ⟨b3, k, none⟩ = some (.int .u8 ns[k]) := hS.cell (by rw [List.getElem?_append_left (by simpa using hkn)]; simp [hkn])
      have hfree : wr.frozen? ⟨b3, k, none⟩ = false := hS.free k
      go_wp2_with fail
      refine ⟨⟨k + 1, by omega, rfl, ns.set k (bits BinOp.xor IntKind.u8 ns[k] 255), by show _ = _; rw [List.length_set]; exact hns.out, ?_⟩, by simp [intOf]; omega⟩
      rw [List.map_set, ← List.set_append_left _ _ (by simpa using hkn)]
      exact hS.store k _
    · obtain rfl : k = p.length := by omega
      have hs8 := hS.drop.drop
      clear hS
      have hE8 := Hid.mk' (HE.out.of0 hs8)
      have H1 := Hid.mk' (wal_count (hs8.perm (B := F * rl br c L' * dk b D' * rk c D' * lg bl b L') (by ac_rfl)))
      have H2 := Hid.mk' (wal_size (hs8.perm (B := F * rl br c L' * dk b D' * rk c D' * lg bl b L') (by ac_rfl)))
      have H3 := Hid.mk' (ref13_count (hs8.perm (B := F * lg bl b L' * dk b D' * rk c D' * rl br c L') (by ac_rfl)))
      have H4 := Hid.mk' (ref13_size (hs8.perm (B := F * lg bl b L' * dk b D' * rk c D' * rl br c L') (by ac_rfl)))
      have HN := Hid.mk' (kit_num hE8.out er her)
      have e1 : ((L'.count : Int) == (L'.count : Int)) = true := beq_self_eq_true _
      have e2 : ((L'.size : Int) == (L'.size : Int)) = true := beq_self_eq_true _
      have e3 : ((er : Int) == (er : Int)) = true := beq_self_eq_true _
      have HS := Hid.mk' hs8
      clear hs8
      go_wp2_with (first | (go_at_call 26; refine HN.out.mono ?_; rintro e w8 ⟨rfl, rfl⟩) | (go_at_call 75; refine H2.out.mono ?_; rintro e w8 ⟨rfl, rfl⟩) | (go_at_call 74; refine H1.out.mono ?_; rintro e w8 ⟨rfl, rfl⟩) | (go_at_call 82; refine H4.out.mono ?_; rintro e w8 ⟨rfl, rfl⟩) | (go_at_call 81; refine H3.out.mono ?_; rintro e w8 ⟨rfl, rfl⟩))
      go_ret
      exact Ret.mk ⟨rfl, HS.out⟩
end Go.Proofs.YtjhlelcopofkkaaDoor
