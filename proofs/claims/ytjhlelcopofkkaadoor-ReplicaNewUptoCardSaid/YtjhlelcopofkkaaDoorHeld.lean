/- What the law DiskLasts holds beside the disk, and what a power failure makes of it. -/
import Derived.Test.YtjhlelcopofkkaaDoorDLaw
import Derived.Test.YtjhlelcopofkkaaDoorCounts
namespace Go.Proofs.YtjhlelcopofkkaaDoor
open Go.RowKit

theorem ref0_same_true {w : World} (xs : List UInt8) (ao bo : Option Addr) (c d : Nat) (hr : Rd w ao (bvs xs)) (hq : Rd w bo (bvs xs)) (hn : xs.length ≤ 140737488351232) :
    Calls Tryd.prog 25 #[.slice ao xs.length c, .slice bo xs.length d] w (Drew (.bool true) w) := by
  have := ref0_sameBytes xs xs ao bo c d hr hq hn
  rwa [decide_eq_true rfl] at this

theorem law12_starts {w : World} (x r : List UInt8) (a1 a2 : Option Addr) (n c1 c2 : Nat) (hn : n = (x ++ r).length) (h1 : Rd w a1 (bvs (x ++ r))) (hno : a1 = none → n = 0 ∧ c1 = 0) (hc : n ≤ c1) (h2 : Rd w a2 (bvs x)) (hl : x.length ≤ 140737488351232) :
    Calls Tryd.prog 65 #[.slice a1 n c1, .slice a2 x.length c2] w (Ret fun v w' => v = .bool true ∧ Sat w w' 1) := by
  rw [List.length_append] at hn
  have hge : (x.length : Int) ≤ (n : Int) := by omega
  have hkc : (x.length : Int) ≤ (c1 : Int) := by omega
  have hk0 : (0 : Int) ≤ (x.length : Int) := by omega
  have HL := Hid.mk' hl
  rw [bvs_append] at h1
  have H1 := Hid.mk' h1.left
  have H2 := Hid.mk' h2
  clear h1 h2 hl
  cases a1 with
  | none =>
    obtain ⟨e1, rfl⟩ := hno rfl
    subst e1
    have hx : x.length = 0 := by omega
    rw [hx]
    have hx0 : x = [] := List.eq_nil_of_length_eq_zero hx
    subst hx0
    clear hno hn hge hkc hk0 hx hc
    go_enter Tryd.func65, Tryd.ntmps65
    go_wp2_with (go_at_call 25; refine (ref0_same_true [] none a2 0 c2 H1.out H2.out (by decide)).mono ?_; rintro e w2 ⟨rfl, m, rfl⟩)
    go_ret
    exact Ret.mk ⟨rfl, (Sat.refl w).drewN m⟩
  | some a =>
    clear hno hn hc
    go_enter Tryd.func65, Tryd.ntmps65
    go_wp2_with (go_at_call 25; refine (ref0_same_true x (some a) a2 c1 c2 H1.out H2.out HL.out).mono ?_; rintro e w2 ⟨rfl, m, rfl⟩)
    go_ret
    exact Ret.mk ⟨rfl, (Sat.refl w).drewN m⟩

/-- What the law holds: the head that is good, all that was put, the arms that wait. -/
def hk (b : Nat) (G A : List UInt8) (n : Int) : HP := fun h => ∃ gv av, (vec 5 1 gv G.length (bvs G) * vec 5 1 av A.length (bvs A) * blk b [gv, av, .int .i64 n] 111) h
section
variable {w0 w : World} {F : HP} {b : Nat} {G A : List UInt8} {n : Int}
theorem Sat.hk_open (hs : Sat w0 w (F * hk b G A n)) : ∃ gv av, Sat w0 w (F * vec 5 1 gv G.length (bvs G) * vec 5 1 av A.length (bvs A) * blk b [gv, av, .int .i64 n] 111) := by
  obtain ⟨x, ⟨h1, h2, ha, ⟨bv, av, hb⟩, hd, hu⟩, hx⟩ := hs.held
  refine ⟨bv, av, ?_⟩
  rw [HP.assoc, HP.assoc]
  rw [HP.assoc] at hb
  exact ⟨hs.below, x, ⟨h1, h2, ha, hb, hd, hu⟩, hx⟩
theorem Sat.hk_shut {gv av : Value} (hs : Sat w0 w (F * vec 5 1 gv G.length (bvs G) * vec 5 1 av A.length (bvs A) * blk b [gv, av, .int .i64 n] 111)) : Sat w0 w (F * hk b G A n) := by
  rw [HP.assoc, HP.assoc] at hs
  exact hs.imp_last fun x hx => ⟨gv, av, by rw [HP.assoc]; exact hx⟩
end

set_option maxRecDepth 20000 in
set_option maxHeartbeats 6400000 in
theorem held_fell {w0 w : World} {F : HP} {b bh : Nat} {D : Dk} {G A : List UInt8} {n : Int} {E : Nat → Addr} (hE : Errs w0 E) (hD : D.Ok) (hm : D.arms.length < 8796093022207) (more : ByteArray) (hA : A.length ≤ 140737488351232) (hms : A.length + more.size ≤ 142936511610880)
    (hG : G <+: D.bytes) (hB : D.bytes <+: A ++ more.data.toList) (hs : Sat w0 w (F * hk bh G A n * dk b D)) :
    Calls Tryd.prog 123 #[.pointer (some ⟨bh, 0, none⟩), .pointer (some ⟨b, 0, none⟩), .string more] w (Ret fun v w' => v = .bool true ∧ Sat w0 w' (F * hk bh D.bytes D.bytes n * dk b D)) := by
  obtain ⟨gv, av, hs1⟩ := hs.swap.hk_open
  obtain ⟨ga, gc, rfl, _, _, _⟩ := hs1.rot3.vec_rd
  obtain ⟨aa, ac, rfl, _, hra, _⟩ := hs1.swap.vec_rd
  obtain ⟨q, hq⟩ := hG
  obtain ⟨y, hy⟩ := hB
  have HE := Hid.mk' hE
  have HQ := Hid.mk' hq
  have HY := Hid.mk' hy
  have hb := hD.bytes
  have hG2 : G.length ≤ D.bytes.length := by rw [← hq, List.length_append]; omega
  have HML := Hid.mk' (show more.data.toList.length = more.size from rfl)
  have k1 := hs1.cell (i := 1) (v := .slice aa A.length ac) rfl
  clear hs hE hq hy
  go_enter Tryd.func123, Tryd.ntmps123
  go_wp2_with fail
  refine (kit_copy A aa ac hra hA).mono ?_
  rintro e w1 ⟨v, rfl, hx⟩
  have hs2 := hs1.glue hx
  clear hx k1 hra
  go_wp2_with (at_builtin; refine sl_append_string rfl _ _ 22 9 rfl 5 Tryd.underlying22 Tryd.underlying9 info_u8 _ A.length _ rfl (by exact hs2) more rfl (by simp only [maxLen]; omega) hms ?_; intro lv w2 hs3)
  obtain ⟨la, lc, rfl, hlc, _, hln⟩ := hs3.vec_rd
  refine law12_look.mono ?_
  rintro e w3 ⟨v, rfl, rfl, hx⟩
  have hs4 := hs3.then1 hx
  clear hx hs2 hs3
  go_wp2_with fail
  refine (law12_actLook HE.out hD hm (b := b) (D := D) (F := F * vec 5 1 (.slice ga G.length gc) G.length (bvs G) * vec 5 1 (.slice aa A.length ac) A.length (bvs A) * blk bh [.slice ga G.length gc, .slice aa A.length ac, .int .i64 n] 111 * vec 5 1 (.slice la (A.length + more.size) lc) (A.length + more.size) (bvs A ++ bvs more.data.toList)) (hs4.perm (by ac_rfl))).mono ?_
  rintro e w4 ⟨v, rfl, na, nc, hnc, rfl, hx⟩
  have hs5 := hx.new #[.slice na D.bytes.length nc, .int .i64 D.synced, .int .i64 0] 87
  generalize hbt : w4.heap.size = bt at hs5
  have hS0 := hs5.perm (B := F * dk b D * vec 5 1 (.slice aa A.length ac) A.length (bvs A) * vec 5 1 (.slice na D.bytes.length nc) D.bytes.length (bvs D.bytes) * vec 5 1 (.slice ga G.length gc) G.length (bvs G) * vec 5 1 (.slice la (A.length + more.size) lc) (A.length + more.size) (bvs A ++ bvs more.data.toList) * blk bt [.slice na D.bytes.length nc, .int .i64 D.synced, .int .i64 0] 87 * blk bh [.slice ga G.length gc, .slice aa A.length ac, .int .i64 n] 111) (by ac_rfl)
  have HNN := Hid.mk' (hx.no)
  have HNC := Hid.mk' hnc
  have HLN := Hid.mk' hln
  clear hx hs4 hs5 hnc
  go_wp2_with fail
  go_region_held3 (fun wr => wr.cell? ⟨bt, 0, none⟩ = some (.slice na D.bytes.length nc) ∧ wr.cell? ⟨bh, 0, none⟩ = some (.slice ga G.length gc)) (first | exact ⟨hS0.swap.cell rfl, hS0.cell rfl⟩ | exact ⟨hS1.swap.cell rfl, hS1.cell rfl⟩ | exact ⟨hS2.swap.cell rfl, hS2.cell rfl⟩)
    (first | (go_at_call 65; refine (show Calls Tryd.prog 65 #[.slice la (A.length + more.size) lc, .slice na D.bytes.length nc] w5 (Ret fun v w' => v = .bool true ∧ Sat w5 w' 1) from law12_starts D.bytes y la na (A.length + more.size) lc nc (by rw [HY.out, List.length_append, HML.out]) (by rw [HY.out, bvs_append]; exact hS1.rot3.rd) HLN.out hlc hS1.rot5.rd hb).mono ?_; rintro e w6 ⟨v, rfl, rfl, hz⟩; have hS2 := hS1.then1 hz) | (go_at_call 65; refine (law12_starts G q na ga D.bytes.length nc gc (by rw [HQ.out]) (by rw [HQ.out]; exact (hS0.drewN 1).rot5.rd) HNN.out HNC.out (hS0.drewN 1).rot4.rd (by omega)).mono ?_; rintro e w5 ⟨v, rfl, rfl, hz⟩; have hS1 := (hS0.drewN 1).then1 hz))
  have hS3 : Sat w0 w6 (F * dk b D * vec 5 1 (.slice na D.bytes.length nc) D.bytes.length (bvs D.bytes) * blk bt [.slice na D.bytes.length nc, .int .i64 D.synced, .int .i64 0] 87 * blk bh [.slice ga G.length gc, .slice aa A.length ac, .int .i64 n] 111) := (hS2.perm (B := F * dk b D * vec 5 1 (.slice na D.bytes.length nc) D.bytes.length (bvs D.bytes) * blk bt [.slice na D.bytes.length nc, .int .i64 D.synced, .int .i64 0] 87 * blk bh [.slice ga G.length gc, .slice aa A.length ac, .int .i64 n] 111 * (vec 5 1 (.slice aa A.length ac) A.length (bvs A) * vec 5 1 (.slice ga G.length gc) G.length (bvs G) * vec 5 1 (.slice la (A.length + more.size) lc) (A.length + more.size) (bvs A ++ bvs more.data.toList))) (by ac_rfl)).drop
  clear hS0 hS1 hS2 hz
  have k0 := hS3.swap.cell (i := 0) (v := .slice na D.bytes.length nc) rfl
  go_wp2_with fail
  refine (kit_copy D.bytes na nc hS3.rot3.rd hb).mono ?_
  rintro e w7 ⟨v, rfl, hx⟩
  have hS4 := (hS3.glue hx).swap
  obtain ⟨ca, cc, rfl, _, _, _⟩ := hS4.swap.vec_rd
  have f0 := hS4.free 0
  have h0 := hS4.cell (i := 0) (v := .slice ga G.length gc) rfl
  have hS5 := hS4.store 0 (.slice ca D.bytes.length cc)
  have k0' := hS5.rot3.cell (i := 0) (v := .slice na D.bytes.length nc) rfl
  clear hx hS3 k0
  go_wp2_with fail
  refine (kit_copy D.bytes na nc hS5.rot4.rd hb).mono ?_
  rintro e w8 ⟨v, rfl, hx⟩
  have hS6 := (hS5.glue hx).swap
  obtain ⟨da, dc, rfl, _, _, _⟩ := hS6.swap.vec_rd
  have f1 := hS6.free 1
  have h1 := hS6.cell (i := 1) (v := .slice aa A.length ac) rfl
  have hS7 := hS6.store 1 (.slice da D.bytes.length dc)
  clear hx hS4 hS5 k0' f0 h0
  go_wp2_with fail
  go_ret
  refine Ret.mk ⟨rfl, ?_⟩
  refine Sat.swap (Sat.hk_shut (gv := .slice ca D.bytes.length cc) (av := .slice da D.bytes.length dc) ?_)
  exact (hS7.perm (B := F * dk b D * vec 5 1 (.slice ca D.bytes.length cc) D.bytes.length (bvs D.bytes) * vec 5 1 (.slice da D.bytes.length dc) D.bytes.length (bvs D.bytes) * blk bh [.slice ca D.bytes.length cc, .slice da D.bytes.length dc, .int .i64 n] 111 * (vec 5 1 (.slice na D.bytes.length nc) D.bytes.length (bvs D.bytes) * blk bt [.slice na D.bytes.length nc, .int .i64 D.synced, .int .i64 0] 87)) (by simp only [List.set_cons_zero, List.set_cons_succ]; ac_rfl)).drop
end Go.Proofs.YtjhlelcopofkkaaDoor
