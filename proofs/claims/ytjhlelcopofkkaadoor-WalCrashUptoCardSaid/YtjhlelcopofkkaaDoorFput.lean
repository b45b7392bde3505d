/- The law of crashes: a Put, and what it means for what must be found again. -/
import Derived.Test.YtjhlelcopofkkaaDoorFate
namespace Go.Proofs.YtjhlelcopofkkaaDoor
open Go.RowKit

theorem vecs_push {w0 w : World} {F : HP} {v' : Value} {vs : List Value} {ps : List (List UInt8)} {a : Option Addr} {c : Nat} {p : List UInt8} (hl : vs.length = ps.length)
    (hs : Sat w0 w (F * bvl vs ps * vec 5 1 (.slice a p.length c) p.length (bvs p) * vec 22 1 v' (ps.length + 1) (vs ++ [.slice a p.length c]))) : Sat w0 w (F * vecs v' (ps ++ [p])) :=
  Sat.vecs_snoc hl (hs.perm (by ac_rfl))

set_option maxRecDepth 20000 in
set_option maxHeartbeats 12800000 in
theorem fput_0 {w0 w : World} {F : HP} {b bl bf R z : Nat} {D D' : Dk} {L L' : Lg} {E : Nat → Addr} {T S W : List (List UInt8)} {A X : Bool} (hE : Errs w0 E) (hT : CrcTab w0) (hD : D.Ok) (hc1 : L.count < 9223372036854775807) (hc2 : L.size + 8200 ≤ 9223372036854775807)
    (hzb : z ≤ 16777216) (_hRb : R ≤ 16777216) (p : List UInt8) (ao : Option Addr) (pc : Nat) (hr : Rd w0 ao (bvs p)) (hn : p.length ≤ 140737488351232) (hp : L.put D p = (L', D', 0)) (hg : 1 ≤ p.length ∧ p.length ≤ 8192) (hd : D.dead = false) (hd2 : D'.dead = false) (hX : X = false) (hSl : S.length ≤ 16777216) (hs : Sat w0 w (F * lg bl b L * dk b D * fate bf T S W A z X)) :
    Calls Tryd.prog 77 #[.pointer (some ⟨bf, 0, none⟩), .pointer (some ⟨b, 0, none⟩), .pointer (some ⟨bl, 0, none⟩), .slice ao p.length pc, .int .i64 R] w (Ret fun v w' => v = .bool true ∧ Sat w0 w' (F * lg bl b L' * dk b D' * fate bf T (S ++ [p]) W A ((z + (8 + p.length) : Nat) : Int) X)) := by
  have HE := Hid.mk' hE
  have HT := Hid.mk' hT
  have HR := Hid.mk' hr
  have HP := Hid.mk' hp
  clear hE hT hr hp
  obtain ⟨hg1, hg2⟩ := hg
  subst hX
  go_enter Tryd.func77, Tryd.ntmps77
  go_wp2_with fail
  refine (kit_copy p ao pc (HR.out.of0 hs) hn).mono ?_
  rintro e w1 ⟨v1, rfl, hx⟩
  have hs1 := hs.glue hx
  obtain ⟨a1, c1, rfl, hc1', _, hno1⟩ := hs1.vec_rd
  have HD1 := Hid.mk' (disk_dead (hs1.perm (B := F * lg bl b L * fate bf T S W A z false * vec 5 1 (.slice a1 p.length c1) p.length (bvs p) * dk b D) (by ac_rfl)))
  rw [show D.dead = false from hd] at HD1
  go_wp2_with fail
  refine HD1.out.mono ?_
  rintro e w2 ⟨rfl, rfl⟩
  clear HD1
  go_wp2_with fail
  refine (put_any HP.out HE.out HT.out hD hc1 hc2 ao pc (HR.out.of0 hs1) (hs1.perm (B := F * fate bf T S W A z false * vec 5 1 (.slice a1 p.length c1) p.length (bvs p) * lg bl b L * dk b D) (by ac_rfl))).mono ?_
  rintro e w3 ⟨v, rfl, rfl, hs2⟩
  simp only at hs2
  have HN := Hid.mk' (kit_num (HE.out.of0 hs2) 0 (by decide))
  have HD2 := Hid.mk' (disk_dead hs2)
  rw [show D'.dead = false from hd2] at HD2
  obtain ⟨tv, sv, wv, hs3⟩ := (hs2.perm (B := F * vec 5 1 (.slice a1 p.length c1) p.length (bvs p) * lg bl b L' * dk b D' * fate bf T S W A z false) (by ac_rfl)).fate_open
  have k5 := hs3.cell (i := 5) (v := .bool false) rfl
  have k4 := hs3.cell (i := 4) (v := .int .i64 z) rfl
  clear hs hs1 hx hs2
  obtain ⟨vs, hvl, hs4⟩ := (hs3.perm (B := F * vec 5 1 (.slice a1 p.length c1) p.length (bvs p) * lg bl b L' * dk b D' * vecs tv T * vecs wv W * blk bf [tv, sv, wv, .bool A, .int .i64 z, .bool false] 137 * vecs sv S) (by ac_rfl)).vecs_open
  obtain ⟨sa, sc, rfl, _, _, _⟩ := hs4.swap.vec_rd
  have hs5 := hs4.perm (B := F * vec 5 1 (.slice a1 p.length c1) p.length (bvs p) * lg bl b L' * dk b D' * vecs tv T * vecs wv W * bvl vs S * blk bf [tv, (.slice sa S.length sc), wv, .bool A, .int .i64 z, .bool false] 137 * vec 22 1 (.slice sa S.length sc) S.length vs) (by ac_rfl)
  have k1 := hs5.swap.cell (i := 1) (v := .slice sa S.length sc) rfl
  clear hs3 hs4
  go_wp2_with (first | (go_at_call 26; refine HN.out.mono ?_; rintro e w4 ⟨rfl, rfl⟩) | (go_at_call 53; refine HD2.out.mono ?_; rintro e w4 ⟨rfl, rfl⟩) | (at_builtin; go_loud (refine sl_append rfl _ _ 37 rfl 22 (.slice none 0 0) 1 24 Tryd.underlying37 info_lists rfl (by decide) _ S.length _ rfl (by exact (hs5).skip) _ 1 _ [.slice a1 p.length c1] rfl rfl (by exact Rd.made _ _ _ _) (by intro u hu; rw [List.mem_singleton] at hu; subst hu; rfl) (by simp only [maxLen]; omega) (by omega) ?_); intro v' w5 hs6; obtain ⟨na, nc, rfl, _, _, _⟩ := hs6.vec_rd; have q1 := hs6.swap.cell (i := 1) (v := .slice sa S.length sc) rfl; have q4 := hs6.swap.cell (i := 4) (v := .int .i64 z) rfl; have q5 := hs6.swap.cell (i := 5) (v := .bool false) rfl; have f1 := hs6.swap.free 1; have f4 := hs6.swap.free 4))
  go_ret
  refine Ret.mk ⟨rfl, ?_⟩
  have h7 := ((hs6.swap.store 1 (.slice na (S.length + 1) nc)).store 4 (.int .i64 ((z : Int) + 8 + (p.length : Int)))).perm (B := F * lg bl b L' * dk b D' * vecs tv T * vecs wv W * blk bf [tv, .slice na (S.length + 1) nc, wv, .bool A, .int .i64 ((z : Int) + 8 + (p.length : Int)), .bool false] 137 * bvl vs S * vec 5 1 (.slice a1 p.length c1) p.length (bvs p) * vec 22 1 (.slice na (S.length + 1) nc) (S.length + 1) (vs ++ [.slice a1 p.length c1])) (by simp only [List.set_cons_succ, List.set_cons_zero]; ac_rfl)
  have h8 := vecs_push hvl h7
  refine Sat.fate_shut (tv := tv) (sv := .slice na (S.length + 1) nc) (wv := wv) ?_
  rw [show ((z + (8 + p.length) : Nat) : Int) = (z : Int) + 8 + (p.length : Int) by omega]
  exact h8.perm (by ac_rfl)

set_option maxRecDepth 20000 in
set_option maxHeartbeats 12800000 in
theorem fput_1a {w0 w : World} {F : HP} {b bl bf R z : Nat} {D : Dk} {L : Lg} {E : Nat → Addr} {T S W : List (List UInt8)} {A X : Bool} (hE : Errs w0 E) (hT : CrcTab w0) (hD : D.Ok) (hc1 : L.count < 9223372036854775807) (hc2 : L.size + 8200 ≤ 9223372036854775807)
    (hzb : z ≤ 16777216) (_hRb : R ≤ 16777216) (p : List UInt8) (ao : Option Addr) (pc : Nat) (hr : Rd w0 ao (bvs p)) (hn : p.length ≤ 140737488351232) (hp : L.put D p = (L, D, 1)) (hg : p.length = 0) (hs : Sat w0 w (F * lg bl b L * dk b D * fate bf T S W A z X)) :
    Calls Tryd.prog 77 #[.pointer (some ⟨bf, 0, none⟩), .pointer (some ⟨b, 0, none⟩), .pointer (some ⟨bl, 0, none⟩), .slice ao p.length pc, .int .i64 R] w (Ret fun v w' => v = .bool true ∧ Sat w0 w' (F * lg bl b L * dk b D * fate bf T S W A z X)) := by
  have HE := Hid.mk' hE
  have HT := Hid.mk' hT
  have HR := Hid.mk' hr
  have HP := Hid.mk' hp
  clear hE hT hr hp
  have hb0 : decide (1 ≤ (p.length : Int)) = false := decide_eq_false (by omega)
  have HG := Hid.mk' hg
  clear hg
  go_enter Tryd.func77, Tryd.ntmps77
  go_wp2_with fail
  refine (kit_copy p ao pc (HR.out.of0 hs) hn).mono ?_
  rintro e w1 ⟨v1, rfl, hx⟩
  have hs1 := hs.glue hx
  obtain ⟨a1, c1, rfl, hc1', _, hno1⟩ := hs1.vec_rd
  have HD1 := Hid.mk' (disk_dead (hs1.perm (B := F * lg bl b L * fate bf T S W A z X * vec 5 1 (.slice a1 p.length c1) p.length (bvs p) * dk b D) (by ac_rfl)))
  rw [show D.dead = D.dead from rfl] at HD1
  go_wp2_with fail
  refine HD1.out.mono ?_
  rintro e w2 ⟨rfl, rfl⟩
  clear HD1
  go_wp2_with fail
  refine (put_any HP.out HE.out HT.out hD hc1 hc2 ao pc (HR.out.of0 hs1) (hs1.perm (B := F * fate bf T S W A z X * vec 5 1 (.slice a1 p.length c1) p.length (bvs p) * lg bl b L * dk b D) (by ac_rfl))).mono ?_
  rintro e w3 ⟨v, rfl, rfl, hs2⟩
  simp only at hs2
  have HN := Hid.mk' (kit_num (HE.out.of0 hs2) 1 (by decide))
  have HD2 := Hid.mk' (disk_dead hs2)
  rw [show D.dead = D.dead from rfl] at HD2
  obtain ⟨tv, sv, wv, hs3⟩ := (hs2.perm (B := F * vec 5 1 (.slice a1 p.length c1) p.length (bvs p) * lg bl b L * dk b D * fate bf T S W A z X) (by ac_rfl)).fate_open
  have k5 := hs3.cell (i := 5) (v := .bool X) rfl
  have k4 := hs3.cell (i := 4) (v := .int .i64 z) rfl
  clear hs hs1 hx hs2
  go_wp2_with (first | (go_at_call 26; refine HN.out.mono ?_; rintro e w4 ⟨rfl, rfl⟩) | (go_at_call 53; refine HD2.out.mono ?_; rintro e w4 ⟨rfl, rfl⟩))
  go_ret
  exact Ret.mk ⟨by first | rfl | (simp; omega), (hs3.fate_shut.perm (B := F * lg bl b L * dk b D * fate bf T S W A z X * vec 5 1 (.slice a1 p.length c1) p.length (bvs p)) (by ac_rfl)).drop⟩

set_option maxRecDepth 20000 in
set_option maxHeartbeats 12800000 in
theorem fput_1b {w0 w : World} {F : HP} {b bl bf R z : Nat} {D : Dk} {L : Lg} {E : Nat → Addr} {T S W : List (List UInt8)} {A X : Bool} (hE : Errs w0 E) (hT : CrcTab w0) (hD : D.Ok) (hc1 : L.count < 9223372036854775807) (hc2 : L.size + 8200 ≤ 9223372036854775807)
    (hzb : z ≤ 16777216) (_hRb : R ≤ 16777216) (p : List UInt8) (ao : Option Addr) (pc : Nat) (hr : Rd w0 ao (bvs p)) (hn : p.length ≤ 140737488351232) (hp : L.put D p = (L, D, 1)) (hg : 8192 < p.length) (hs : Sat w0 w (F * lg bl b L * dk b D * fate bf T S W A z X)) :
    Calls Tryd.prog 77 #[.pointer (some ⟨bf, 0, none⟩), .pointer (some ⟨b, 0, none⟩), .pointer (some ⟨bl, 0, none⟩), .slice ao p.length pc, .int .i64 R] w (Ret fun v w' => v = .bool true ∧ Sat w0 w' (F * lg bl b L * dk b D * fate bf T S W A z X)) := by
  have HE := Hid.mk' hE
  have HT := Hid.mk' hT
  have HR := Hid.mk' hr
  have HP := Hid.mk' hp
  clear hE hT hr hp
  go_enter Tryd.func77, Tryd.ntmps77
  go_wp2_with fail
  refine (kit_copy p ao pc (HR.out.of0 hs) hn).mono ?_
  rintro e w1 ⟨v1, rfl, hx⟩
  have hs1 := hs.glue hx
  obtain ⟨a1, c1, rfl, hc1', _, hno1⟩ := hs1.vec_rd
  have HD1 := Hid.mk' (disk_dead (hs1.perm (B := F * lg bl b L * fate bf T S W A z X * vec 5 1 (.slice a1 p.length c1) p.length (bvs p) * dk b D) (by ac_rfl)))
  rw [show D.dead = D.dead from rfl] at HD1
  go_wp2_with fail
  refine HD1.out.mono ?_
  rintro e w2 ⟨rfl, rfl⟩
  clear HD1
  go_wp2_with fail
  refine (put_any HP.out HE.out HT.out hD hc1 hc2 ao pc (HR.out.of0 hs1) (hs1.perm (B := F * fate bf T S W A z X * vec 5 1 (.slice a1 p.length c1) p.length (bvs p) * lg bl b L * dk b D) (by ac_rfl))).mono ?_
  rintro e w3 ⟨v, rfl, rfl, hs2⟩
  simp only at hs2
  have HN := Hid.mk' (kit_num (HE.out.of0 hs2) 1 (by decide))
  have HD2 := Hid.mk' (disk_dead hs2)
  rw [show D.dead = D.dead from rfl] at HD2
  obtain ⟨tv, sv, wv, hs3⟩ := (hs2.perm (B := F * vec 5 1 (.slice a1 p.length c1) p.length (bvs p) * lg bl b L * dk b D * fate bf T S W A z X) (by ac_rfl)).fate_open
  have k5 := hs3.cell (i := 5) (v := .bool X) rfl
  have k4 := hs3.cell (i := 4) (v := .int .i64 z) rfl
  clear hs hs1 hx hs2
  go_wp2_with (first | (go_at_call 26; refine HN.out.mono ?_; rintro e w4 ⟨rfl, rfl⟩) | (go_at_call 53; refine HD2.out.mono ?_; rintro e w4 ⟨rfl, rfl⟩))
  go_ret
  exact Ret.mk ⟨by first | rfl | (simp; omega), (hs3.fate_shut.perm (B := F * lg bl b L * dk b D * fate bf T S W A z X * vec 5 1 (.slice a1 p.length c1) p.length (bvs p)) (by ac_rfl)).drop⟩

set_option maxRecDepth 20000 in
set_option maxHeartbeats 12800000 in
theorem fput_9 {w0 w : World} {F : HP} {b bl bf R z : Nat} {D D' : Dk} {L L' : Lg} {E : Nat → Addr} {T S W : List (List UInt8)} {A X : Bool} (hE : Errs w0 E) (hT : CrcTab w0) (hD : D.Ok) (hc1 : L.count < 9223372036854775807) (hc2 : L.size + 8200 ≤ 9223372036854775807)
    (hzb : z ≤ 16777216) (_hRb : R ≤ 16777216) (p : List UInt8) (ao : Option Addr) (pc : Nat) (hr : Rd w0 ao (bvs p)) (hn : p.length ≤ 140737488351232) (hp : L.put D p = (L', D', 9)) (hg : 1 ≤ p.length ∧ p.length ≤ 8192) (hd2 : D'.dead = false) (hX : X = false) (hfull : R < z + (8 + p.length)) (hs : Sat w0 w (F * lg bl b L * dk b D * fate bf T S W A z X)) :
    Calls Tryd.prog 77 #[.pointer (some ⟨bf, 0, none⟩), .pointer (some ⟨b, 0, none⟩), .pointer (some ⟨bl, 0, none⟩), .slice ao p.length pc, .int .i64 R] w (Ret fun v w' => v = .bool true ∧ Sat w0 w' (F * lg bl b L' * dk b D' * fate bf T S W A z X)) := by
  have HE := Hid.mk' hE
  have HT := Hid.mk' hT
  have HR := Hid.mk' hr
  have HP := Hid.mk' hp
  clear hE hT hr hp
  obtain ⟨hg1, hg2⟩ := hg
  subst hX
  go_enter Tryd.func77, Tryd.ntmps77
  go_wp2_with fail
  refine (kit_copy p ao pc (HR.out.of0 hs) hn).mono ?_
  rintro e w1 ⟨v1, rfl, hx⟩
  have hs1 := hs.glue hx
  obtain ⟨a1, c1, rfl, hc1', _, hno1⟩ := hs1.vec_rd
  have HD1 := Hid.mk' (disk_dead (hs1.perm (B := F * lg bl b L * fate bf T S W A z false * vec 5 1 (.slice a1 p.length c1) p.length (bvs p) * dk b D) (by ac_rfl)))
  rw [show D.dead = D.dead from rfl] at HD1
  go_wp2_with fail
  refine HD1.out.mono ?_
  rintro e w2 ⟨rfl, rfl⟩
  clear HD1
  go_wp2_with fail
  refine (put_any HP.out HE.out HT.out hD hc1 hc2 ao pc (HR.out.of0 hs1) (hs1.perm (B := F * fate bf T S W A z false * vec 5 1 (.slice a1 p.length c1) p.length (bvs p) * lg bl b L * dk b D) (by ac_rfl))).mono ?_
  rintro e w3 ⟨v, rfl, rfl, hs2⟩
  simp only at hs2
  have HN := Hid.mk' (kit_num (HE.out.of0 hs2) 9 (by decide))
  have HD2 := Hid.mk' (disk_dead hs2)
  rw [show D'.dead = false from hd2] at HD2
  obtain ⟨tv, sv, wv, hs3⟩ := (hs2.perm (B := F * vec 5 1 (.slice a1 p.length c1) p.length (bvs p) * lg bl b L' * dk b D' * fate bf T S W A z false) (by ac_rfl)).fate_open
  have k5 := hs3.cell (i := 5) (v := .bool false) rfl
  have k4 := hs3.cell (i := 4) (v := .int .i64 z) rfl
  clear hs hs1 hx hs2
  go_wp2_with (first | (go_at_call 26; refine HN.out.mono ?_; rintro e w4 ⟨rfl, rfl⟩) | (go_at_call 53; refine HD2.out.mono ?_; rintro e w4 ⟨rfl, rfl⟩))
  go_ret
  exact Ret.mk ⟨by first | rfl | (simp; omega), (hs3.fate_shut.perm (B := F * lg bl b L' * dk b D' * fate bf T S W A z false * vec 5 1 (.slice a1 p.length c1) p.length (bvs p)) (by ac_rfl)).drop⟩

set_option maxRecDepth 20000 in
set_option maxHeartbeats 12800000 in
theorem fput_10a {w0 w : World} {F : HP} {b bl bf R z : Nat} {D D' : Dk} {L L' : Lg} {E : Nat → Addr} {T S W : List (List UInt8)} {A X : Bool} (hE : Errs w0 E) (hT : CrcTab w0) (hD : D.Ok) (hc1 : L.count < 9223372036854775807) (hc2 : L.size + 8200 ≤ 9223372036854775807)
    (hzb : z ≤ 16777216) (_hRb : R ≤ 16777216) (p : List UInt8) (ao : Option Addr) (pc : Nat) (hr : Rd w0 ao (bvs p)) (hn : p.length ≤ 140737488351232) (hp : L.put D p = (L', D', 10)) (hg : 1 ≤ p.length ∧ p.length ≤ 8192) (hd : D.dead = false) (hd2 : D'.dead = true) (hWl : W.length ≤ 16777216) (hs : Sat w0 w (F * lg bl b L * dk b D * fate bf T S W A z X)) :
    Calls Tryd.prog 77 #[.pointer (some ⟨bf, 0, none⟩), .pointer (some ⟨b, 0, none⟩), .pointer (some ⟨bl, 0, none⟩), .slice ao p.length pc, .int .i64 R] w (Ret fun v w' => v = .bool true ∧ Sat w0 w' (F * lg bl b L' * dk b D' * fate bf T S (W ++ [p]) A z true)) := by
  have HE := Hid.mk' hE
  have HT := Hid.mk' hT
  have HR := Hid.mk' hr
  have HP := Hid.mk' hp
  clear hE hT hr hp
  obtain ⟨hg1, hg2⟩ := hg
  go_enter Tryd.func77, Tryd.ntmps77
  go_wp2_with fail
  refine (kit_copy p ao pc (HR.out.of0 hs) hn).mono ?_
  rintro e w1 ⟨v1, rfl, hx⟩
  have hs1 := hs.glue hx
  obtain ⟨a1, c1, rfl, hc1', _, hno1⟩ := hs1.vec_rd
  have HD1 := Hid.mk' (disk_dead (hs1.perm (B := F * lg bl b L * fate bf T S W A z X * vec 5 1 (.slice a1 p.length c1) p.length (bvs p) * dk b D) (by ac_rfl)))
  rw [show D.dead = false from hd] at HD1
  go_wp2_with fail
  refine HD1.out.mono ?_
  rintro e w2 ⟨rfl, rfl⟩
  clear HD1
  go_wp2_with fail
  refine (put_any HP.out HE.out HT.out hD hc1 hc2 ao pc (HR.out.of0 hs1) (hs1.perm (B := F * fate bf T S W A z X * vec 5 1 (.slice a1 p.length c1) p.length (bvs p) * lg bl b L * dk b D) (by ac_rfl))).mono ?_
  rintro e w3 ⟨v, rfl, rfl, hs2⟩
  simp only at hs2
  have HN := Hid.mk' (kit_num (HE.out.of0 hs2) 10 (by decide))
  have HD2 := Hid.mk' (disk_dead hs2)
  rw [show D'.dead = true from hd2] at HD2
  obtain ⟨tv, sv, wv, hs3⟩ := (hs2.perm (B := F * vec 5 1 (.slice a1 p.length c1) p.length (bvs p) * lg bl b L' * dk b D' * fate bf T S W A z X) (by ac_rfl)).fate_open
  have k5 := hs3.cell (i := 5) (v := .bool X) rfl
  have k4 := hs3.cell (i := 4) (v := .int .i64 z) rfl
  clear hs hs1 hx hs2
  obtain ⟨vs, hvl, hs4⟩ := (hs3.perm (B := F * vec 5 1 (.slice a1 p.length c1) p.length (bvs p) * lg bl b L' * dk b D' * vecs tv T * vecs sv S * blk bf [tv, sv, wv, .bool A, .int .i64 z, .bool X] 137 * vecs wv W) (by ac_rfl)).vecs_open
  obtain ⟨wa, wc, rfl, _, _, _⟩ := hs4.swap.vec_rd
  have hs5 := hs4.perm (B := F * vec 5 1 (.slice a1 p.length c1) p.length (bvs p) * lg bl b L' * dk b D' * vecs tv T * vecs sv S * bvl vs W * blk bf [tv, sv, .slice wa W.length wc, .bool A, .int .i64 z, .bool X] 137 * vec 22 1 (.slice wa W.length wc) W.length vs) (by ac_rfl)
  have k2 := hs5.swap.cell (i := 2) (v := .slice wa W.length wc) rfl
  clear hs3 hs4
  go_wp2_with (first | (go_at_call 26; refine HN.out.mono ?_; rintro e w4 ⟨rfl, rfl⟩) | (go_at_call 53; refine HD2.out.mono ?_; rintro e w4 ⟨rfl, rfl⟩) | (at_builtin; go_loud (refine sl_append rfl _ _ 37 rfl 22 (.slice none 0 0) 1 24 Tryd.underlying37 info_lists rfl (by decide) _ W.length _ rfl (by exact (hs5).skip) _ 1 _ [.slice a1 p.length c1] rfl rfl (by exact Rd.made _ _ _ _) (by intro u hu; rw [List.mem_singleton] at hu; subst hu; rfl) (by simp only [maxLen]; omega) (by omega) ?_); intro v' w5 hs6; obtain ⟨na, nc, rfl, _, _, _⟩ := hs6.vec_rd; have q2 := hs6.swap.cell (i := 2) (v := .slice wa W.length wc) rfl; have q5 := hs6.swap.cell (i := 5) (v := .bool X) rfl; have f2 := hs6.swap.free 2; have f5 := hs6.swap.free 5))
  go_ret
  refine Ret.mk ⟨by first | rfl | (cases X <;> rfl), ?_⟩
  have h7 := ((hs6.swap.store 2 (.slice na (W.length + 1) nc)).store 5 (.bool true)).perm (B := F * lg bl b L' * dk b D' * vecs tv T * vecs sv S * blk bf [tv, sv, .slice na (W.length + 1) nc, .bool A, .int .i64 z, .bool true] 137 * bvl vs W * vec 5 1 (.slice a1 p.length c1) p.length (bvs p) * vec 22 1 (.slice na (W.length + 1) nc) (W.length + 1) (vs ++ [.slice a1 p.length c1])) (by simp only [List.set_cons_succ, List.set_cons_zero]; ac_rfl)
  have h8 := vecs_push hvl h7
  refine Sat.fate_shut (tv := tv) (sv := sv) (wv := .slice na (W.length + 1) nc) ?_
  exact h8.perm (by ac_rfl)

set_option maxRecDepth 20000 in
set_option maxHeartbeats 12800000 in
theorem fput_10b {w0 w : World} {F : HP} {b bl bf R z : Nat} {D D' : Dk} {L L' : Lg} {E : Nat → Addr} {T S W : List (List UInt8)} {A X : Bool} (hE : Errs w0 E) (hT : CrcTab w0) (hD : D.Ok) (hc1 : L.count < 9223372036854775807) (hc2 : L.size + 8200 ≤ 9223372036854775807)
    (hzb : z ≤ 16777216) (_hRb : R ≤ 16777216) (p : List UInt8) (ao : Option Addr) (pc : Nat) (hr : Rd w0 ao (bvs p)) (hn : p.length ≤ 140737488351232) (hp : L.put D p = (L', D', 10)) (hg : 1 ≤ p.length ∧ p.length ≤ 8192) (hd : D.dead = true) (hd2 : D'.dead = true) (hs : Sat w0 w (F * lg bl b L * dk b D * fate bf T S W A z X)) :
    Calls Tryd.prog 77 #[.pointer (some ⟨bf, 0, none⟩), .pointer (some ⟨b, 0, none⟩), .pointer (some ⟨bl, 0, none⟩), .slice ao p.length pc, .int .i64 R] w (Ret fun v w' => v = .bool true ∧ Sat w0 w' (F * lg bl b L' * dk b D' * fate bf T S W A z true)) := by
  have HE := Hid.mk' hE
  have HT := Hid.mk' hT
  have HR := Hid.mk' hr
  have HP := Hid.mk' hp
  clear hE hT hr hp
  obtain ⟨hg1, hg2⟩ := hg
  go_enter Tryd.func77, Tryd.ntmps77
  go_wp2_with fail
  refine (kit_copy p ao pc (HR.out.of0 hs) hn).mono ?_
  rintro e w1 ⟨v1, rfl, hx⟩
  have hs1 := hs.glue hx
  obtain ⟨a1, c1, rfl, hc1', _, hno1⟩ := hs1.vec_rd
  have HD1 := Hid.mk' (disk_dead (hs1.perm (B := F * lg bl b L * fate bf T S W A z X * vec 5 1 (.slice a1 p.length c1) p.length (bvs p) * dk b D) (by ac_rfl)))
  rw [show D.dead = true from hd] at HD1
  go_wp2_with fail
  refine HD1.out.mono ?_
  rintro e w2 ⟨rfl, rfl⟩
  clear HD1
  go_wp2_with fail
  refine (put_any HP.out HE.out HT.out hD hc1 hc2 ao pc (HR.out.of0 hs1) (hs1.perm (B := F * fate bf T S W A z X * vec 5 1 (.slice a1 p.length c1) p.length (bvs p) * lg bl b L * dk b D) (by ac_rfl))).mono ?_
  rintro e w3 ⟨v, rfl, rfl, hs2⟩
  simp only at hs2
  have HN := Hid.mk' (kit_num (HE.out.of0 hs2) 10 (by decide))
  have HD2 := Hid.mk' (disk_dead hs2)
  rw [show D'.dead = true from hd2] at HD2
  obtain ⟨tv, sv, wv, hs3⟩ := (hs2.perm (B := F * vec 5 1 (.slice a1 p.length c1) p.length (bvs p) * lg bl b L' * dk b D' * fate bf T S W A z X) (by ac_rfl)).fate_open
  have k5 := hs3.cell (i := 5) (v := .bool X) rfl
  have k4 := hs3.cell (i := 4) (v := .int .i64 z) rfl
  clear hs hs1 hx hs2
  have f5 := hs3.free 5
  go_wp2_with (first | (go_at_call 26; refine HN.out.mono ?_; rintro e w4 ⟨rfl, rfl⟩) | (go_at_call 53; refine HD2.out.mono ?_; rintro e w4 ⟨rfl, rfl⟩))
  go_ret
  refine Ret.mk ⟨by first | rfl | (cases X <;> rfl), ?_⟩
  have h7 := (hs3.store 5 (.bool true))
  exact ((Sat.fate_shut (tv := tv) (sv := sv) (wv := wv) (X := true) (by exact h7)).perm (B := F * lg bl b L' * dk b D' * fate bf T S W A z true * vec 5 1 (.slice a1 p.length c1) p.length (bvs p)) (by ac_rfl)).drop

set_option maxRecDepth 20000 in
set_option maxHeartbeats 12800000 in
theorem fput_10c {w0 w : World} {F : HP} {b bl bf R z : Nat} {D D' : Dk} {L L' : Lg} {E : Nat → Addr} {T S W : List (List UInt8)} {A X : Bool} (hE : Errs w0 E) (hT : CrcTab w0) (hD : D.Ok) (hc1 : L.count < 9223372036854775807) (hc2 : L.size + 8200 ≤ 9223372036854775807)
    (hzb : z ≤ 16777216) (_hRb : R ≤ 16777216) (p : List UInt8) (ao : Option Addr) (pc : Nat) (hr : Rd w0 ao (bvs p)) (hn : p.length ≤ 140737488351232) (hp : L.put D p = (L', D', 10)) (hg : 1 ≤ p.length ∧ p.length ≤ 8192) (hd : D.dead = false) (hd2 : D'.dead = false) (hX : X = true) (hs : Sat w0 w (F * lg bl b L * dk b D * fate bf T S W A z X)) :
    Calls Tryd.prog 77 #[.pointer (some ⟨bf, 0, none⟩), .pointer (some ⟨b, 0, none⟩), .pointer (some ⟨bl, 0, none⟩), .slice ao p.length pc, .int .i64 R] w (Ret fun v w' => v = .bool true ∧ Sat w0 w' (F * lg bl b L' * dk b D' * fate bf T S W A z true)) := by
  have HE := Hid.mk' hE
  have HT := Hid.mk' hT
  have HR := Hid.mk' hr
  have HP := Hid.mk' hp
  clear hE hT hr hp
  obtain ⟨hg1, hg2⟩ := hg
  subst hX
  go_enter Tryd.func77, Tryd.ntmps77
  go_wp2_with fail
  refine (kit_copy p ao pc (HR.out.of0 hs) hn).mono ?_
  rintro e w1 ⟨v1, rfl, hx⟩
  have hs1 := hs.glue hx
  obtain ⟨a1, c1, rfl, hc1', _, hno1⟩ := hs1.vec_rd
  have HD1 := Hid.mk' (disk_dead (hs1.perm (B := F * lg bl b L * fate bf T S W A z true * vec 5 1 (.slice a1 p.length c1) p.length (bvs p) * dk b D) (by ac_rfl)))
  rw [show D.dead = false from hd] at HD1
  go_wp2_with fail
  refine HD1.out.mono ?_
  rintro e w2 ⟨rfl, rfl⟩
  clear HD1
  go_wp2_with fail
  refine (put_any HP.out HE.out HT.out hD hc1 hc2 ao pc (HR.out.of0 hs1) (hs1.perm (B := F * fate bf T S W A z true * vec 5 1 (.slice a1 p.length c1) p.length (bvs p) * lg bl b L * dk b D) (by ac_rfl))).mono ?_
  rintro e w3 ⟨v, rfl, rfl, hs2⟩
  simp only at hs2
  have HN := Hid.mk' (kit_num (HE.out.of0 hs2) 10 (by decide))
  have HD2 := Hid.mk' (disk_dead hs2)
  rw [show D'.dead = false from hd2] at HD2
  obtain ⟨tv, sv, wv, hs3⟩ := (hs2.perm (B := F * vec 5 1 (.slice a1 p.length c1) p.length (bvs p) * lg bl b L' * dk b D' * fate bf T S W A z true) (by ac_rfl)).fate_open
  have k5 := hs3.cell (i := 5) (v := .bool true) rfl
  have k4 := hs3.cell (i := 4) (v := .int .i64 z) rfl
  clear hs hs1 hx hs2
  have f5 := hs3.free 5
  go_wp2_with (first | (go_at_call 26; refine HN.out.mono ?_; rintro e w4 ⟨rfl, rfl⟩) | (go_at_call 53; refine HD2.out.mono ?_; rintro e w4 ⟨rfl, rfl⟩))
  go_ret
  refine Ret.mk ⟨by first | rfl | (cases X <;> rfl), ?_⟩
  have h7 := (hs3.store 5 (.bool true))
  exact ((Sat.fate_shut (tv := tv) (sv := sv) (wv := wv) (X := true) (by exact h7)).perm (B := F * lg bl b L' * dk b D' * fate bf T S W A z true * vec 5 1 (.slice a1 p.length c1) p.length (bvs p)) (by ac_rfl)).drop
end Go.Proofs.YtjhlelcopofkkaaDoor

