/- The laws of layer 13: what touches the disks alone, and what lies on them. -/
import Derived.Test.YtjhlelcopofkkaaDoorRLog
import Derived.Test.YtjhlelcopofkkaaDoorWalTwiceW
import Derived.Test.YtjhlelcopofkkaaDoorStp13
namespace Go.Proofs.YtjhlelcopofkkaaDoor
open Go.RowKit

def Stp13.val (s : Stp13) : Value := .agg #[.int .i64 s.kind, .int .i64 s.n, .int .i64 s.m, .slice s.ao s.p.length s.c]
/-- A step that touches the disk alone. -/
def Dk.pow (D : Dk) (s : Stp13) : Dk :=
  if s.kind = 3 then D.crash s.n else if s.kind = 4 then D.arm s.n s.m else if s.kind = 5 then D.revive else if s.kind = 6 then (D.append s.p).1 else if s.kind = 7 then (D.trunc s.n).1 else D

set_option maxHeartbeats 3200000 in
theorem law13_looks {w0 w : World} {F : HP} {b c : Nat} {D : Dk} (hD : D.Ok) (hs : Sat w0 w (F * dk b D * rk c D)) :
    Calls Tryd.prog 84 #[.pointer (some ⟨b, 0, none⟩), .pointer (some ⟨c, 0, none⟩)] w (Ret fun v w' => v = .bool true ∧ Sat w0 w' (F * dk b D * rk c D)) := by
  have hbl := hD.bytes
  go_enter Tryd.func84, Tryd.ntmps84
  go_wp2_with fail
  refine (disk_look hD hs.swap).mono ?_
  rintro e w1 ⟨v, rfl, u, rfl, hs1⟩
  obtain ⟨ua, uc, rfl, _, _, _⟩ := hs1.vec_rd
  go_wp2_with fail
  refine (ref12_look hD (hs1.perm (B := F * dk b D * vec 5 1 (.slice ua D.bytes.length uc) D.bytes.length (bvs D.bytes) * rk c D) (by ac_rfl))).mono ?_
  rintro e w2 ⟨v, rfl, u, rfl, hs2⟩
  obtain ⟨va, vc, rfl, _, hr2, _⟩ := hs2.vec_rd
  have hr1 := hs2.swap.rot3.rd
  go_wp2_with fail
  refine (ref0_sameBytes D.bytes D.bytes ua va uc vc hr1 hr2 hbl).mono ?_
  rintro e w3 ⟨rfl, m, rfl⟩
  rw [decide_eq_true rfl]
  have HS := Hid.mk' (fun k => hs2.drewN k)
  have hd2 : (D.dead == D.dead) = true := beq_self_eq_true _
  have hn2 : ((D.synced : Int) == (D.synced : Int)) = true := beq_self_eq_true _
  have H1 := Hid.mk' (fun k => disk_dead ((HS.out k).perm (B := F * vec 5 1 (.slice ua D.bytes.length uc) D.bytes.length (bvs D.bytes) * rk c D * vec 5 1 (.slice va D.bytes.length vc) D.bytes.length (bvs D.bytes) * dk b D) (by ac_rfl)))
  have H2 := Hid.mk' (fun k => ref12_dead ((HS.out k).swap))
  clear hs hs1 hs2
  go_wp2_with (first | (go_at_call 53; refine (H1.out _).mono ?_; rintro e w4 ⟨rfl, rfl⟩) | (go_at_call 116; refine (H2.out _).mono ?_; rintro e w4 ⟨rfl, rfl⟩))
  go_ret
  refine Ret.mk ⟨by first | rfl | (cases D.dead <;> rfl), ?_⟩
  exact ((HS.out _).perm (B := F * dk b D * rk c D * (vec 5 1 (.slice ua D.bytes.length uc) D.bytes.length (bvs D.bytes) * vec 5 1 (.slice va D.bytes.length vc) D.bytes.length (bvs D.bytes))) (by ac_rfl)).drop

set_option maxHeartbeats 6400000 in
theorem law13_power3 {w0 w : World} {F : HP} {b c : Nat} {D : Dk} {E : Nat → Addr} (hE : Errs w0 E) (hD : D.Ok) (hm : D.arms.length < 8796093022207) (s : Stp13) (hok : s.Ok w0) (hk : s.kind = 3) (hs : Sat w0 w (F * dk b D * rk c D)) :
    Calls Tryd.prog 83 #[.pointer (some ⟨b, 0, none⟩), .pointer (some ⟨c, 0, none⟩), s.val] w (Ret fun v w' => v = .tuple #[] ∧ Sat w0 w' (F * dk b (D.crash s.n) * rk c (D.crash s.n))) := by
  unfold Stp13.val
  have hs1 := hs.new #[.int .i64 s.kind, .int .i64 s.n, .int .i64 s.m, .slice s.ao s.p.length s.c] 133
  generalize hbx : w.heap.size = bx at hs1
  have hs2 := hs1.perm (B := F * blk bx [.int .i64 s.kind, .int .i64 s.n, .int .i64 s.m, .slice s.ao s.p.length s.c] 133 * rk c D * dk b D) (by ac_rfl)
  have k0 := hs1.cell (i := 0) (v := .int .i64 s.kind) rfl
  have k1 := hs1.cell (i := 1) (v := .int .i64 s.n) rfl
  have k2 := hs1.cell (i := 2) (v := .int .i64 s.m) rfl
  have k3 := hs1.cell (i := 3) (v := .slice s.ao s.p.length s.c) rfl
  have h3 : (s.kind == 3) = true := beq_iff_eq.2 hk
  have q1 := hok.n1
  have q2 := hok.n2
  have q3 := hok.m1
  have q4 := hok.m2
  have q5 := hok.len
  subst hbx
  have HK := Hid.mk' hk
  have HO := Hid.mk' hok
  have HE := Hid.mk' hE
  clear hk hok hE hs hs1
  go_enter Tryd.func83, Tryd.ntmps83
  generalize hbx : w.heap.size = bx at *
  go_wp2_with fail
  refine (disk_crash hs2 hD s.n q1 q2).mono ?_
  rintro e w1 ⟨v, rfl, rfl, hs3⟩
  have hs4 := hs3.perm (B := F * blk bx [.int .i64 s.kind, .int .i64 s.n, .int .i64 s.m, .slice s.ao s.p.length s.c] 133 * dk b (D.crash s.n) * rk c D) (by ac_rfl)
  have k1 := hs3.swap.rot3.cell (i := 1) (v := .int .i64 s.n) rfl
  have k2 := hs3.swap.rot3.cell (i := 2) (v := .int .i64 s.m) rfl
  go_wp2_with fail
  refine (ref12_crash hs4 hD s.n q2).mono ?_
  rintro e w2 ⟨v, rfl, rfl, hs5⟩
  go_wp2_with fail
  go_end0
  exact Ret.mk ⟨rfl, (hs5.perm (B := F * dk b (D.crash s.n) * rk c (D.crash s.n) * blk bx [.int .i64 s.kind, .int .i64 s.n, .int .i64 s.m, .slice s.ao s.p.length s.c] 133) (by ac_rfl)).drop⟩

set_option maxHeartbeats 6400000 in
theorem law13_power4 {w0 w : World} {F : HP} {b c : Nat} {D : Dk} {E : Nat → Addr} (hE : Errs w0 E) (hD : D.Ok) (hm : D.arms.length < 8796093022207) (s : Stp13) (hok : s.Ok w0) (hk : s.kind = 4) (hs : Sat w0 w (F * dk b D * rk c D)) :
    Calls Tryd.prog 83 #[.pointer (some ⟨b, 0, none⟩), .pointer (some ⟨c, 0, none⟩), s.val] w (Ret fun v w' => v = .tuple #[] ∧ Sat w0 w' (F * dk b (D.arm s.n s.m) * rk c (D.arm s.n s.m))) := by
  unfold Stp13.val
  have hs1 := hs.new #[.int .i64 s.kind, .int .i64 s.n, .int .i64 s.m, .slice s.ao s.p.length s.c] 133
  generalize hbx : w.heap.size = bx at hs1
  have hs2 := hs1.perm (B := F * blk bx [.int .i64 s.kind, .int .i64 s.n, .int .i64 s.m, .slice s.ao s.p.length s.c] 133 * rk c D * dk b D) (by ac_rfl)
  have k0 := hs1.cell (i := 0) (v := .int .i64 s.kind) rfl
  have k1 := hs1.cell (i := 1) (v := .int .i64 s.n) rfl
  have k2 := hs1.cell (i := 2) (v := .int .i64 s.m) rfl
  have k3 := hs1.cell (i := 3) (v := .slice s.ao s.p.length s.c) rfl
  have h3 : (s.kind == 3) = false := beq_eq_false_iff_ne.2 (by omega)
  have h4 : (s.kind == 4) = true := beq_iff_eq.2 hk
  have q1 := hok.n1
  have q2 := hok.n2
  have q3 := hok.m1
  have q4 := hok.m2
  have q5 := hok.len
  subst hbx
  have HK := Hid.mk' hk
  have HO := Hid.mk' hok
  have HE := Hid.mk' hE
  clear hk hok hE hs hs1
  go_enter Tryd.func83, Tryd.ntmps83
  generalize hbx : w.heap.size = bx at *
  go_wp2_with fail
  refine (disk_arm hs2 s.n s.m hm).mono ?_
  rintro e w1 ⟨v, rfl, rfl, hs3⟩
  have hs4 := hs3.perm (B := F * blk bx [.int .i64 s.kind, .int .i64 s.n, .int .i64 s.m, .slice s.ao s.p.length s.c] 133 * dk b (D.arm s.n s.m) * rk c D) (by ac_rfl)
  have k1 := hs3.swap.rot3.cell (i := 1) (v := .int .i64 s.n) rfl
  have k2 := hs3.swap.rot3.cell (i := 2) (v := .int .i64 s.m) rfl
  go_wp2_with fail
  refine (ref12_arm hs4 s.n s.m hm).mono ?_
  rintro e w2 ⟨v, rfl, rfl, hs5⟩
  go_wp2_with fail
  go_end0
  exact Ret.mk ⟨rfl, (hs5.perm (B := F * dk b (D.arm s.n s.m) * rk c (D.arm s.n s.m) * blk bx [.int .i64 s.kind, .int .i64 s.n, .int .i64 s.m, .slice s.ao s.p.length s.c] 133) (by ac_rfl)).drop⟩

set_option maxHeartbeats 6400000 in
theorem law13_power5 {w0 w : World} {F : HP} {b c : Nat} {D : Dk} {E : Nat → Addr} (hE : Errs w0 E) (hD : D.Ok) (hm : D.arms.length < 8796093022207) (s : Stp13) (hok : s.Ok w0) (hk : s.kind = 5) (hs : Sat w0 w (F * dk b D * rk c D)) :
    Calls Tryd.prog 83 #[.pointer (some ⟨b, 0, none⟩), .pointer (some ⟨c, 0, none⟩), s.val] w (Ret fun v w' => v = .tuple #[] ∧ Sat w0 w' (F * dk b (D.revive) * rk c (D.revive))) := by
  unfold Stp13.val
  have hs1 := hs.new #[.int .i64 s.kind, .int .i64 s.n, .int .i64 s.m, .slice s.ao s.p.length s.c] 133
  generalize hbx : w.heap.size = bx at hs1
  have hs2 := hs1.perm (B := F * blk bx [.int .i64 s.kind, .int .i64 s.n, .int .i64 s.m, .slice s.ao s.p.length s.c] 133 * rk c D * dk b D) (by ac_rfl)
  have k0 := hs1.cell (i := 0) (v := .int .i64 s.kind) rfl
  have k1 := hs1.cell (i := 1) (v := .int .i64 s.n) rfl
  have k2 := hs1.cell (i := 2) (v := .int .i64 s.m) rfl
  have k3 := hs1.cell (i := 3) (v := .slice s.ao s.p.length s.c) rfl
  have h3 : (s.kind == 3) = false := beq_eq_false_iff_ne.2 (by omega)
  have h4 : (s.kind == 4) = false := beq_eq_false_iff_ne.2 (by omega)
  have h5 : (s.kind == 5) = true := beq_iff_eq.2 hk
  have q1 := hok.n1
  have q2 := hok.n2
  have q3 := hok.m1
  have q4 := hok.m2
  have q5 := hok.len
  subst hbx
  have HK := Hid.mk' hk
  have HO := Hid.mk' hok
  have HE := Hid.mk' hE
  clear hk hok hE hs hs1
  go_enter Tryd.func83, Tryd.ntmps83
  generalize hbx : w.heap.size = bx at *
  go_wp2_with fail
  refine (disk_revive hs2).mono ?_
  rintro e w1 ⟨v, rfl, rfl, hs3⟩
  have hs4 := hs3.perm (B := F * blk bx [.int .i64 s.kind, .int .i64 s.n, .int .i64 s.m, .slice s.ao s.p.length s.c] 133 * dk b (D.revive) * rk c D) (by ac_rfl)
  have k1 := hs3.swap.rot3.cell (i := 1) (v := .int .i64 s.n) rfl
  have k2 := hs3.swap.rot3.cell (i := 2) (v := .int .i64 s.m) rfl
  go_wp2_with fail
  refine (ref12_revive hs4).mono ?_
  rintro e w2 ⟨v, rfl, rfl, hs5⟩
  go_wp2_with fail
  go_end0
  exact Ret.mk ⟨rfl, (hs5.perm (B := F * dk b (D.revive) * rk c (D.revive) * blk bx [.int .i64 s.kind, .int .i64 s.n, .int .i64 s.m, .slice s.ao s.p.length s.c] 133) (by ac_rfl)).drop⟩

set_option maxHeartbeats 6400000 in
theorem law13_power6 {w0 w : World} {F : HP} {b c : Nat} {D : Dk} {E : Nat → Addr} (hE : Errs w0 E) (hD : D.Ok) (hm : D.arms.length < 8796093022207) (s : Stp13) (hok : s.Ok w0) (hk : s.kind = 6) (hs : Sat w0 w (F * dk b D * rk c D)) :
    Calls Tryd.prog 83 #[.pointer (some ⟨b, 0, none⟩), .pointer (some ⟨c, 0, none⟩), s.val] w (Ret fun v w' => v = .tuple #[] ∧ Sat w0 w' (F * dk b ((D.append s.p).1) * rk c ((D.append s.p).1))) := by
  unfold Stp13.val
  have hs1 := hs.new #[.int .i64 s.kind, .int .i64 s.n, .int .i64 s.m, .slice s.ao s.p.length s.c] 133
  generalize hbx : w.heap.size = bx at hs1
  have hs2 := hs1.perm (B := F * blk bx [.int .i64 s.kind, .int .i64 s.n, .int .i64 s.m, .slice s.ao s.p.length s.c] 133 * rk c D * dk b D) (by ac_rfl)
  have k0 := hs1.cell (i := 0) (v := .int .i64 s.kind) rfl
  have k1 := hs1.cell (i := 1) (v := .int .i64 s.n) rfl
  have k2 := hs1.cell (i := 2) (v := .int .i64 s.m) rfl
  have k3 := hs1.cell (i := 3) (v := .slice s.ao s.p.length s.c) rfl
  have h3 : (s.kind == 3) = false := beq_eq_false_iff_ne.2 (by omega)
  have h4 : (s.kind == 4) = false := beq_eq_false_iff_ne.2 (by omega)
  have h5 : (s.kind == 5) = false := beq_eq_false_iff_ne.2 (by omega)
  have h6 : (s.kind == 6) = true := beq_iff_eq.2 hk
  have q1 := hok.n1
  have q2 := hok.n2
  have q3 := hok.m1
  have q4 := hok.m2
  have q5 := hok.len
  subst hbx
  have HK := Hid.mk' hk
  have HO := Hid.mk' hok
  have HE := Hid.mk' hE
  clear hk hok hE hs hs1
  go_enter Tryd.func83, Tryd.ntmps83
  generalize hbx : w.heap.size = bx at *
  go_wp2_with (go_at_call 22; refine (kit_copy s.p s.ao s.c (HO.out.rd.of0 hs2) q5).mono ?_; rintro e w1 ⟨v, rfl, hx⟩; have hs3 := hs2.glue hx; obtain ⟨ca, cc, rfl, _, _, hno⟩ := hs3.vec_rd)
  refine (ref12_append (F := F * blk bx [.int .i64 s.kind, .int .i64 s.n, .int .i64 s.m, .slice s.ao s.p.length s.c] 133 * dk b D * vec 5 1 (.slice ca s.p.length cc) s.p.length (bvs s.p)) s.p ca cc hno q5 (fun w' A h => h.swap.rd) hD (hs3.perm (by ac_rfl)) hm).mono ?_
  rintro e w2 ⟨v, rfl, rfl, hs4⟩
  have k3 := hs4.swap.swap.rot4.cell (i := 3) (v := .slice s.ao s.p.length s.c) rfl
  go_wp2_with fail
  refine (disk_append (F := F * blk bx [.int .i64 s.kind, .int .i64 s.n, .int .i64 s.m, .slice s.ao s.p.length s.c] 133 * vec 5 1 (.slice ca s.p.length cc) s.p.length (bvs s.p) * rk c (D.append s.p).1) HE.out s.p s.ao s.c HO.out.cap HO.out.no q5 (fun w' A h => HO.out.rd.of0 h) hD (hs4.perm (by ac_rfl))).mono ?_
  rintro e w3 ⟨v, rfl, rfl, hs5⟩
  go_wp2_with fail
  go_end0
  exact Ret.mk ⟨rfl, (hs5.perm (B := F * dk b ((D.append s.p).1) * rk c ((D.append s.p).1) * (blk bx [.int .i64 s.kind, .int .i64 s.n, .int .i64 s.m, .slice s.ao s.p.length s.c] 133 * vec 5 1 (.slice ca s.p.length cc) s.p.length (bvs s.p))) (by ac_rfl)).drop⟩

set_option maxHeartbeats 6400000 in
theorem law13_power7 {w0 w : World} {F : HP} {b c : Nat} {D : Dk} {E : Nat → Addr} (hE : Errs w0 E) (hD : D.Ok) (hm : D.arms.length < 8796093022207) (s : Stp13) (hok : s.Ok w0) (hk : s.kind = 7) (hs : Sat w0 w (F * dk b D * rk c D)) :
    Calls Tryd.prog 83 #[.pointer (some ⟨b, 0, none⟩), .pointer (some ⟨c, 0, none⟩), s.val] w (Ret fun v w' => v = .tuple #[] ∧ Sat w0 w' (F * dk b ((D.trunc s.n).1) * rk c ((D.trunc s.n).1))) := by
  unfold Stp13.val
  have hs1 := hs.new #[.int .i64 s.kind, .int .i64 s.n, .int .i64 s.m, .slice s.ao s.p.length s.c] 133
  generalize hbx : w.heap.size = bx at hs1
  have hs2 := hs1.perm (B := F * blk bx [.int .i64 s.kind, .int .i64 s.n, .int .i64 s.m, .slice s.ao s.p.length s.c] 133 * rk c D * dk b D) (by ac_rfl)
  have k0 := hs1.cell (i := 0) (v := .int .i64 s.kind) rfl
  have k1 := hs1.cell (i := 1) (v := .int .i64 s.n) rfl
  have k2 := hs1.cell (i := 2) (v := .int .i64 s.m) rfl
  have k3 := hs1.cell (i := 3) (v := .slice s.ao s.p.length s.c) rfl
  have h3 : (s.kind == 3) = false := beq_eq_false_iff_ne.2 (by omega)
  have h4 : (s.kind == 4) = false := beq_eq_false_iff_ne.2 (by omega)
  have h5 : (s.kind == 5) = false := beq_eq_false_iff_ne.2 (by omega)
  have h6 : (s.kind == 6) = false := beq_eq_false_iff_ne.2 (by omega)
  have h7 : (s.kind == 7) = true := beq_iff_eq.2 hk
  have q1 := hok.n1
  have q2 := hok.n2
  have q3 := hok.m1
  have q4 := hok.m2
  have q5 := hok.len
  subst hbx
  have HK := Hid.mk' hk
  have HO := Hid.mk' hok
  have HE := Hid.mk' hE
  clear hk hok hE hs hs1
  go_enter Tryd.func83, Tryd.ntmps83
  generalize hbx : w.heap.size = bx at *
  go_wp2_with fail
  refine (disk_truncate HE.out hD hs2 s.n).mono ?_
  rintro e w1 ⟨v, rfl, rfl, hs3⟩
  have hs4 := hs3.perm (B := F * blk bx [.int .i64 s.kind, .int .i64 s.n, .int .i64 s.m, .slice s.ao s.p.length s.c] 133 * dk b ((D.trunc s.n).1) * rk c D) (by ac_rfl)
  have k1 := hs3.swap.rot3.cell (i := 1) (v := .int .i64 s.n) rfl
  have k2 := hs3.swap.rot3.cell (i := 2) (v := .int .i64 s.m) rfl
  go_wp2_with fail
  refine (ref12_truncate hD hs4 hm s.n).mono ?_
  rintro e w2 ⟨v, rfl, rfl, hs5⟩
  go_wp2_with fail
  go_end0
  exact Ret.mk ⟨rfl, (hs5.perm (B := F * dk b ((D.trunc s.n).1) * rk c ((D.trunc s.n).1) * blk bx [.int .i64 s.kind, .int .i64 s.n, .int .i64 s.m, .slice s.ao s.p.length s.c] 133) (by ac_rfl)).drop⟩

set_option maxHeartbeats 6400000 in
theorem law13_power8 {w0 w : World} {F : HP} {b c : Nat} {D : Dk} {E : Nat → Addr} (hE : Errs w0 E) (hD : D.Ok) (hm : D.arms.length < 8796093022207) (s : Stp13) (hok : s.Ok w0) (hk : ¬ (3 ≤ s.kind ∧ s.kind ≤ 7)) (hs : Sat w0 w (F * dk b D * rk c D)) :
    Calls Tryd.prog 83 #[.pointer (some ⟨b, 0, none⟩), .pointer (some ⟨c, 0, none⟩), s.val] w (Ret fun v w' => v = .tuple #[] ∧ Sat w0 w' (F * dk b (D) * rk c (D))) := by
  unfold Stp13.val
  have hs1 := hs.new #[.int .i64 s.kind, .int .i64 s.n, .int .i64 s.m, .slice s.ao s.p.length s.c] 133
  generalize hbx : w.heap.size = bx at hs1
  have hs2 := hs1.perm (B := F * blk bx [.int .i64 s.kind, .int .i64 s.n, .int .i64 s.m, .slice s.ao s.p.length s.c] 133 * rk c D * dk b D) (by ac_rfl)
  have k0 := hs1.cell (i := 0) (v := .int .i64 s.kind) rfl
  have k1 := hs1.cell (i := 1) (v := .int .i64 s.n) rfl
  have k2 := hs1.cell (i := 2) (v := .int .i64 s.m) rfl
  have k3 := hs1.cell (i := 3) (v := .slice s.ao s.p.length s.c) rfl
  have h3 : (s.kind == 3) = false := beq_eq_false_iff_ne.2 (by omega)
  have h4 : (s.kind == 4) = false := beq_eq_false_iff_ne.2 (by omega)
  have h5 : (s.kind == 5) = false := beq_eq_false_iff_ne.2 (by omega)
  have h6 : (s.kind == 6) = false := beq_eq_false_iff_ne.2 (by omega)
  have h7 : (s.kind == 7) = false := beq_eq_false_iff_ne.2 (by omega)
  have q1 := hok.n1
  have q2 := hok.n2
  have q3 := hok.m1
  have q4 := hok.m2
  have q5 := hok.len
  subst hbx
  have HK := Hid.mk' hk
  have HO := Hid.mk' hok
  have HE := Hid.mk' hE
  clear hk hok hE hs hs1
  go_enter Tryd.func83, Tryd.ntmps83
  generalize hbx : w.heap.size = bx at *
  go_wp2_with fail
  go_end0
  exact Ret.mk ⟨rfl, (hs2.perm (B := F * dk b D * rk c D * blk bx [.int .i64 s.kind, .int .i64 s.n, .int .i64 s.m, .slice s.ao s.p.length s.c] 133) (by ac_rfl)).drop⟩

theorem law13_power {w0 w : World} {F : HP} {b c : Nat} {D : Dk} {E : Nat → Addr} (hE : Errs w0 E) (hD : D.Ok) (hm : D.arms.length < 8796093022207) (s : Stp13) (hok : s.Ok w0) (hs : Sat w0 w (F * dk b D * rk c D)) :
    Calls Tryd.prog 83 #[.pointer (some ⟨b, 0, none⟩), .pointer (some ⟨c, 0, none⟩), s.val] w (Ret fun v w' => v = .tuple #[] ∧ Sat w0 w' (F * dk b (D.pow s) * rk c (D.pow s))) := by
  by_cases h3 : s.kind = 3
  · rw [show D.pow s = D.crash s.n from if_pos h3]; exact law13_power3 hE hD hm s hok h3 hs
  by_cases h4 : s.kind = 4
  · rw [show D.pow s = D.arm s.n s.m by unfold Dk.pow; rw [if_neg h3, if_pos h4]]; exact law13_power4 hE hD hm s hok h4 hs
  by_cases h5 : s.kind = 5
  · rw [show D.pow s = D.revive by unfold Dk.pow; rw [if_neg h3, if_neg h4, if_pos h5]]; exact law13_power5 hE hD hm s hok h5 hs
  by_cases h6 : s.kind = 6
  · rw [show D.pow s = (D.append s.p).1 by unfold Dk.pow; rw [if_neg h3, if_neg h4, if_neg h5, if_pos h6]]; exact law13_power6 hE hD hm s hok h6 hs
  by_cases h7 : s.kind = 7
  · rw [show D.pow s = (D.trunc s.n).1 by unfold Dk.pow; rw [if_neg h3, if_neg h4, if_neg h5, if_neg h6, if_pos h7]]; exact law13_power7 hE hD hm s hok h7 hs
  rw [show D.pow s = D by unfold Dk.pow; rw [if_neg h3, if_neg h4, if_neg h5, if_neg h6, if_neg h7]]
  exact law13_power8 hE hD hm s hok (by omega) hs
end Go.Proofs.YtjhlelcopofkkaaDoor
