/- The program's disk: its functions, by what becomes of what it holds. · The program's disk: its operations, by what becomes of what it holds. · The program's disk: what its callers see. · The program's disk: arms, crashes, looks. -/
import Derived.Test.YtjhlelcopofkkaaDoorBase
import Derived.Deep.RegionHeld3
import Derived.Deep.RegionLaw

/-! Disk -/
namespace Go.Proofs.YtjhlelcopofkkaaDoor
open Go.RowKit

/-- The cells of the arms that wait. -/
def aks (l : List (Nat × Int)) : List Value := l.flatMap fun x => [.int .i64 x.1, .int .i64 x.2]
theorem aks_nil : aks [] = [] := rfl
theorem aks_cons (x : Nat × Int) (l : List (Nat × Int)) : aks (x :: l) = [.int .i64 x.1, .int .i64 x.2] ++ aks l := rfl
theorem aks_length (l : List (Nat × Int)) : (aks l).length = l.length * 2 := by
  induction l with
  | nil => rfl
  | cons x l ih => rw [aks_cons, List.length_append, ih, List.length_cons, List.length_cons, List.length_cons, List.length_nil]; omega
theorem aks_append (l m : List (Nat × Int)) : aks (l ++ m) = aks l ++ aks m := by simp [aks]
theorem aks_one (l : List (Nat × Int)) : ∀ v ∈ aks l, v.oneCell' = true := by
  intro v hv
  obtain ⟨x, _, hx⟩ := List.mem_flatMap.1 hv
  simp only [List.mem_cons, List.not_mem_nil, or_false] at hx
  rcases hx with rfl | rfl <;> rfl

/-- A disk, at the head of a block. -/
def dk (b : Nat) (D : Dk) : HP := fun h => ∃ bv av, (vo 5 1 bv D.bytes.length (bvs D.bytes) * vo 179 2 av D.arms.length (aks D.arms) * blk b [bv, .int .i64 D.synced, .int .i64 D.room, .bool D.dead, av] 164) h
section
variable {w0 w : World} {F : HP} {b : Nat} {D : Dk}
theorem Sat.dk_open (hs : Sat w0 w (F * dk b D)) : ∃ bv av, Sat w0 w (F * vo 5 1 bv D.bytes.length (bvs D.bytes) * vo 179 2 av D.arms.length (aks D.arms) * blk b [bv, .int .i64 D.synced, .int .i64 D.room, .bool D.dead, av] 164) := by
  obtain ⟨x, ⟨h1, h2, ha, ⟨bv, av, hb⟩, hd, hu⟩, hx⟩ := hs.held
  refine ⟨bv, av, ?_⟩
  rw [HP.assoc, HP.assoc]
  rw [HP.assoc] at hb
  exact ⟨hs.below, x, ⟨h1, h2, ha, hb, hd, hu⟩, hx⟩
theorem Sat.dk_shut {bv av : Value} (hs : Sat w0 w (F * vo 5 1 bv D.bytes.length (bvs D.bytes) * vo 179 2 av D.arms.length (aks D.arms) * blk b [bv, .int .i64 D.synced, .int .i64 D.room, .bool D.dead, av] 164)) : Sat w0 w (F * dk b D) := by
  rw [HP.assoc, HP.assoc] at hs
  exact hs.imp_last fun x hx => ⟨bv, av, by rw [HP.assoc]; exact hx⟩
end

theorem put_whole {cur cs : List Value} (h : cs.length = cur.length) : put cur 0 cs = cs := by
  simp only [put, List.take_zero, List.nil_append, Nat.zero_add]
  rw [List.drop_eq_nil_of_le (by omega), List.append_nil]

set_option maxHeartbeats 1600000 in
theorem disk_fresh {w : World} (xs : List UInt8) (ao : Option Addr) (c : Nat) (hr : Rd w ao (bvs xs)) (hn : xs.length ≤ 140737488351232) :
    Calls Tryd.prog 99 #[.slice ao xs.length c] w (Ret fun v w' => Sat w w' (vec 5 1 v xs.length (bvs xs))) := by
  have HR := Hid.mk' hr
  have hs0 := Sat.refl w
  have HL := Hid.mk' (bvs_length xs)
  clear hr
  go_enter Tryd.func99, Tryd.ntmps99
  go_wp2_with (first | (at_make; go_loud (refine sl_make rfl _ _ 22 rfl 5 (.int .u8 0) 1 rfl Tryd.underlying22 info_u8 .i64 .i64 _ _ xs.length rfl rfl (by omega) (by omega) (by omega) (by simp only [maxLen]; omega) (by exact hs0) ?_); intro w3 hs5) | ((with_reducible refine gate_op (.call { callee := .builtin .copy, args := #[.tmp 7, .tmp 8], argTypes := #[22, 22] }) rfl ?_); go_loud (refine sl_copy rfl _ _ _ _ rfl 5 Tryd.underlying22 size_u8 _ _ _ _ _ _ rfl rfl _ 0 _ _ (by exact hs5) (bvs xs) (by rw [HL.out]; exact (Nat.min_eq_left (by omega)).symm) (fun _ => rfl) (by exact HR.out.mono hs5.below) (by rw [HL.out, List.length_replicate]; omega) (bvs_one _) ?_); intro w4 hs6))
  go_ret
  rw [put_whole (by rw [HL.out, List.length_replicate])] at hs6
  exact Ret.mk ((hs6.as_vec (n := xs.length) (by rw [HL.out, Nat.mul_one]) (by simp only [maxLen]; omega)).unone')

set_option maxHeartbeats 1600000 in
theorem disk_cut {w0 w : World} {F : HP} {b : Nat} {D : Dk} (hs : Sat w0 w (F * dk b D)) (n : Nat) (hn : n ≤ D.bytes.length) (z : Int) (hz : z = (n : Int)) :
    Calls Tryd.prog 139 #[.pointer (some ⟨b, 0, none⟩), .int .i64 z] w (Ret fun v w' => v = .tuple #[] ∧ Sat w0 w' (F * dk b { D with bytes := D.bytes.take n })) := by
  obtain ⟨bv, av, hs1⟩ := hs.dk_open
  obtain ⟨ao, cap, rfl, hc, hc2, _, _⟩ := hs1.swap.rot3.vo_rd
  have k0 := hs1.cell (i := 0) (v := .slice ao D.bytes.length cap) rfl
  have f0 := hs1.free 0
  clear hs
  subst hz
  simp only [maxLen] at hc2
  go_enter Tryd.func139, Tryd.ntmps139
  go_wp2
  go_end0
  refine Ret.mk ⟨rfl, ?_⟩
  have h2 := (hs1.store 0 (.slice ao n n)).swap.rot3.vo_cut n hn
  rw [bvs_take, Nat.mul_one] at h2
  have e : (D.bytes.take n).length = n := by rw [List.length_take]; omega
  refine Sat.dk_shut (D := { D with bytes := D.bytes.take n }) (bv := .slice ao n n) (av := av) ?_
  show Sat w0 _ (F * vo 5 1 (.slice ao n n) (D.bytes.take n).length (bvs (D.bytes.take n)) * vo 179 2 av D.arms.length (aks D.arms) * blk b [.slice ao n n, .int .i64 D.synced, .int .i64 D.room, .bool D.dead, av] 164)
  rw [e]
  exact h2.perm (by simp only [List.set_cons_zero]; ac_rfl)

set_option maxHeartbeats 1600000 in
theorem disk_fits {w0 w : World} {F : HP} {b : Nat} {D : Dk} (hs : Sat w0 w (F * dk b D)) (hD : D.Ok) (n : Nat) (hn : n ≤ 140737488351232) :
    Calls Tryd.prog 103 #[.pointer (some ⟨b, 0, none⟩), .int .i64 n] w (Drew (.bool (decide (D.fits n))) w) := by
  obtain ⟨bv, av, hs1⟩ := hs.dk_open
  obtain ⟨ao, cap, rfl, hc, hc2, _, _⟩ := hs1.swap.rot3.vo_rd
  have k0 := hs1.cell (i := 0) (v := .slice ao D.bytes.length cap) rfl
  have k2 := hs1.cell (i := 2) (v := .int .i64 D.room) rfl
  have hb := hD.bytes
  have hr := hD.room
  clear hs hs1
  have HQ := Hid.mk' (show decide (D.fits n) = decide ((D.bytes.length : Int) + (n : Int) ≤ (D.room : Int)) from decide_eq_decide.2 (by unfold Dk.fits; omega))
  go_enter Tryd.func103, Tryd.ntmps103
  go_wp2
  go_quiet (fail)
  go_wp2
  go_ret
  exact ⟨congrArg _ (ret_bool HQ.out.symm), _, rfl⟩

set_option maxHeartbeats 1600000 in
theorem disk_fail {w0 w : World} {F : HP} {b : Nat} {D : Dk} (hs : Sat w0 w (F * dk b D)) (hD : D.Ok) (keep : Int) (h1 : -9223372036854775808 ≤ keep) (h2 : keep ≤ 9223372036854775807) :
    Calls Tryd.prog 122 #[.pointer (some ⟨b, 0, none⟩), .int .i64 keep] w (Ret fun v w' => v = .tuple #[] ∧ Sat w0 w' (F * dk b (D.fail keep))) := by
  obtain ⟨bv, av, hs1⟩ := hs.dk_open
  obtain ⟨ao, cap, rfl, hc, hc2, _, _⟩ := hs1.swap.rot3.vo_rd
  have k0 := hs1.cell (i := 0) (v := .slice ao D.bytes.length cap) rfl
  have k1 := hs1.cell (i := 1) (v := .int .i64 D.synced) rfl
  have hb := hD.bytes
  have hr := hD.room
  have hy := hD.synced
  go_enter Tryd.func122, Tryd.ntmps122
  go_wp2
  go_quiet (fail)
  go_wp2_with fail
  all_goals
    refine (disk_cut (hs.drewN nq) (D.kept keep) (Dk.kept_le hy keep) _ (by unfold Dk.kept; omega)).mono ?_
    rintro e w2 ⟨v, rfl, rfl, hs2⟩
    obtain ⟨bv2, av2, hs3⟩ := hs2.dk_open
    obtain ⟨ao2, cap2, rfl, hc3, hc4, _, _⟩ := hs3.swap.rot3.vo_rd
    have hle := Dk.kept_le hy keep
    have hlen : (D.bytes.take (D.kept keep)).length = D.kept keep := by rw [List.length_take]; omega
    have hs4 : Sat w0 w2 (F * vo 5 1 (.slice ao2 (D.kept keep) cap2) (D.kept keep) (bvs (D.fail keep).bytes) * vo 179 2 av2 D.arms.length (aks D.arms) * blk b [.slice ao2 (D.kept keep) cap2, .int .i64 D.synced, .int .i64 D.room, .bool D.dead, av2] 164) := by
      rw [← hlen]; exact hs3
    have HL := Hid.mk' (show (D.fail keep).bytes.length = D.kept keep from hlen)
    clear hs3 hlen k0 k1 hs2 hs1 hle
    have q0 := hs4.cell (i := 0) (v := .slice ao2 (D.kept keep) cap2) rfl
    have q1 := hs4.cell (i := 1) (v := .int .i64 D.synced) rfl
    have q3 := hs4.cell (i := 3) (v := .bool D.dead) rfl
    have p1 := hs4.free 1
    have p3 := hs4.free 3
    go_wp2
    go_end0
    refine Ret.mk ⟨rfl, ?_⟩
    refine Sat.dk_shut (D := D.fail keep) (bv := .slice ao2 (D.kept keep) cap2) (av := av2) ?_
    rw [HL.out]
    exact (hs4.store 1 (.int .i64 (D.kept keep))).store 3 (.bool true)

/-- One refusal lies where it should. -/
def ErrAt (w : World) (E : Nat → Addr) (k : Nat) : Prop := w.cell? ⟨gErr k, 0, none⟩ = some (.iface 203 (.pointer (some (E k))))
theorem ErrAt.of0 {w0 w : World} {E : Nat → Addr} {k : Nat} {A : HP} (h : ErrAt w0 E k) (hs : Sat w0 w A) : ErrAt w E k := (hs.below.cell (World.block_lt_of_cell? w0 _ h)).trans h
theorem Errs.at {w : World} {E : Nat → Addr} (h : Errs w E) (k : Nat) (h1 : 1 ≤ k) (h2 : k ≤ 13) : ErrAt w E k := h.cell k h1 h2

set_option maxHeartbeats 3200000 in
/-- The gate: 'L' is what the function that is handed in does. -/
theorem disk_gate' {w0 w : World} {F : HP} {b : Nat} {D : Dk} {E : Nat → Addr} (hE : ErrAt w0 E 10) (hs : Sat w0 w (F * dk b D)) (hD : D.Ok) (lf : FuncId) (caps : Array Value) (L : Dk → Dk) (hLo : ∀ D' : Dk, D'.Ok → (L D').Ok)
    (heg : ∀ args w, (callFunc lf args).run Tryd.prog w = .ok (.enter lf args) w)
    (hL : ∀ (D' : Dk) (w' : World), D'.Ok → Sat w0 w' (F * dk b D') → Calls Tryd.prog lf caps w' (Ret fun v w2 => v = .tuple #[] ∧ Sat w0 w2 (F * dk b (L D')))) :
    Calls Tryd.prog 104 #[.pointer (some ⟨b, 0, none⟩), .func (.func lf) #[] caps] w (Ret fun v w' => v = errv E (D.gate L).2 ∧ Sat w0 w' (F * dk b (D.gate L).1)) := by
  obtain ⟨bv, av, hs1⟩ := hs.dk_open
  obtain ⟨ao, cap, rfl, hc, hc2, _, _⟩ := hs1.swap.vo_rd
  have hHE := Hid.mk' hE
  have hHL := Hid.mk' hL
  clear hL hE
  have c10 : w.cell? ⟨gErr 10, 0, none⟩ = some (.iface 203 (.pointer (some (E 10)))) := hHE.out.of0 hs
  simp only [gErr] at c10
  have k3 := hs1.cell (i := 3) (v := .bool D.dead) rfl
  have k4 := hs1.cell (i := 4) (v := .slice ao D.arms.length cap) rfl
  cases hd : D.dead with
  | true =>
    have HG := Hid.mk' (show D.gate L = (D, 10) by unfold Dk.gate; rw [if_pos hd])
    rw [hd] at k3
    clear hd
    go_enter Tryd.func104, Tryd.ntmps104
    go_wp2
    go_ret
    exact Ret.mk (by rw [HG.out]; exact ⟨rfl, hs⟩)
  | false =>
    rw [hd] at k3
    cases ha : D.arms with
    | nil =>
      have HG := Hid.mk' (show D.gate L = (D, 0) by unfold Dk.gate; rw [if_neg (by rw [hd]; simp), ha])
      rw [ha] at k4
      clear hd ha
      go_enter Tryd.func104, Tryd.ntmps104
      go_wp2
      go_ret
      exact Ret.mk (by rw [HG.out]; exact ⟨rfl, hs⟩)
    | cons x r =>
      obtain ⟨k, keep⟩ := x
      rw [ha] at k4 hc hs1
      obtain ⟨ba, oa, _, e1, _, hc3, hcl, hfr, hst⟩ := hs1.swap.vo_cell (by simp)
      cases e1
      have a0 : w.cell? ⟨ba, oa, none⟩ = some (.int .i64 (k : Int)) := hcl 0 _ rfl
      have a1 : w.cell? ⟨ba, oa + 1, none⟩ = some (.int .i64 keep) := hcl 1 _ rfl
      have g0 : w.frozen? ⟨ba, oa, none⟩ = false := hfr 0
      have hok := hD.arms (k, keep) (by rw [ha]; exact List.mem_cons_self ..)
      rw [List.length_cons] at k4 hc
      have hl0 : ((r.length : Int) + 1 == 0) = false := beq_eq_false_iff_ne.2 (by omega)
      cases k with
      | succ k =>
        have HG := Hid.mk' (show D.gate L = ({ D with arms := (k, keep) :: r }, 0) by unfold Dk.gate; rw [if_neg (by rw [hd]; simp), ha])
        have a0' : w.cell? ⟨ba, oa, none⟩ = some (.int .i64 ((k : Int) + 1)) := a0
        have hst' := hst 0 (.int .i64 (k : Int)) (by rw [aks_length]; simp)
        clear hd ha hcl hfr hst a0
        have HST := Hid.mk' hst'
        clear hst'
        go_enter Tryd.func104, Tryd.ntmps104
        go_wp2
        go_ret
        refine Ret.mk ?_
        rw [HG.out]
        refine ⟨rfl, ?_⟩
        refine Sat.dk_shut (D := { D with arms := (k, keep) :: r }) (bv := bv) (av := .slice (some ⟨ba, oa, none⟩) ((k + 1, keep) :: r).length cap) ?_
        exact HST.out.swap
      | zero =>
        clear hcl hfr hst
        have a0' : w.cell? ⟨ba, oa, none⟩ = some (.int .i64 0) := a0
        clear a0
        have HG := Hid.mk' (show D.gate L = ((L { D with arms := r }).fail keep, 10) by unfold Dk.gate; rw [if_neg (by rw [hd]; simp), ha])
        have hok' : ({ D with arms := r } : Dk).Ok := ⟨hD.synced, hD.room, hD.bytes, fun x hx => hD.arms x (by rw [ha]; exact List.mem_cons_of_mem _ hx)⟩
        have hLk := hLo _ hok'
        have hE10 := Hid.mk' (fun (w' : World) (h : Sat w0 w' (F * dk b ((L { D with arms := r }).fail keep))) => show w'.cell? ⟨9, 0, none⟩ = some (errv E 10) from hHE.out.of0 h)
        have f4 := hs1.free 4
        have ht := Hid.mk' (show Sat w0 (w.setCell ⟨b, 4, none⟩ (.slice (some ⟨ba, if cap = 1 then oa else oa + 2, none⟩) r.length (cap - 1))) (F * dk b { D with arms := r }) from by
          have h1 := (hs1.store 4 (.slice (some ⟨ba, if cap = 1 then oa else oa + 2, none⟩) r.length (cap - 1))).swap.vo_tail (by simp) (by decide)
          refine Sat.dk_shut (D := { D with arms := r }) (bv := bv) (av := .slice (some ⟨ba, if cap = 1 then oa else oa + 2, none⟩) r.length (cap - 1)) ?_
          exact h1.swap)
        clear hd ha hs1
        by_cases hcap : cap = 1
        · subst hcap
          obtain rfl : r = [] := List.eq_nil_of_length_eq_zero (by omega)
          go_enter Tryd.func104, Tryd.ntmps104
          go_wp2_with fail
          refine (hHL.out { D with arms := [] } _ hok' ht.out).mono ?_
          rintro e w2 ⟨v, rfl, rfl, hs2⟩
          go_wp2_with fail
          refine (disk_fail hs2 hLk keep hok.2.1 hok.2.2).mono ?_
          rintro e w3 ⟨v, rfl, rfl, hs3⟩
          have c11 : w3.cell? ⟨9, 0, none⟩ = some (errv E 10) := hE10.out _ hs3
          simp only [errv] at c11
          go_wp2_with fail
          go_ret
          exact Ret.mk (by rw [HG.out]; exact ⟨rfl, hs3⟩)
        · have ht2 := ht.out
          rw [if_neg hcap] at ht2
          have HT2 := Hid.mk' ht2
          clear ht2 ht
          go_enter Tryd.func104, Tryd.ntmps104
          go_wp2_with fail
          refine (hHL.out { D with arms := r } _ hok' HT2.out).mono ?_
          rintro e w2 ⟨v, rfl, rfl, hs2⟩
          go_wp2_with fail
          refine (disk_fail hs2 hLk keep hok.2.1 hok.2.2).mono ?_
          rintro e w3 ⟨v, rfl, rfl, hs3⟩
          have c11 : w3.cell? ⟨9, 0, none⟩ = some (errv E 10) := hE10.out _ hs3
          simp only [errv] at c11
          go_wp2_with fail
          go_ret
          exact Ret.mk (by rw [HG.out]; exact ⟨rfl, hs3⟩)
theorem disk_gate {w0 w : World} {F : HP} {b : Nat} {D : Dk} {E : Nat → Addr} (hE : Errs w0 E) (hs : Sat w0 w (F * dk b D)) (hD : D.Ok) (lf : FuncId) (caps : Array Value) (L : Dk → Dk) (hLo : ∀ D' : Dk, D'.Ok → (L D').Ok)
    (heg : ∀ args w, (callFunc lf args).run Tryd.prog w = .ok (.enter lf args) w)
    (hL : ∀ (D' : Dk) (w' : World), D'.Ok → Sat w0 w' (F * dk b D') → Calls Tryd.prog lf caps w' (Ret fun v w2 => v = .tuple #[] ∧ Sat w0 w2 (F * dk b (L D')))) :
    Calls Tryd.prog 104 #[.pointer (some ⟨b, 0, none⟩), .func (.func lf) #[] caps] w (Ret fun v w' => v = errv E (D.gate L).2 ∧ Sat w0 w' (F * dk b (D.gate L).1)) :=
  disk_gate' (hE.at 10 (by decide) (by decide)) hs hD lf caps L hLo heg hL
end Go.Proofs.YtjhlelcopofkkaaDoor

/-! Disk2 -/
namespace Go.Proofs.YtjhlelcopofkkaaDoor
open Go.RowKit

set_option maxRecDepth 20000 in
set_option maxHeartbeats 3200000 in
theorem disk_put {w0 w : World} {F : HP} {b bd bp : Nat} {D : Dk} (p : List UInt8) (ao : Option Addr) (c : Nat) (_hc : p.length ≤ c) (hno : ao = none → p.length = 0 ∧ c = 0) (hn : p.length ≤ 140737488351232)
    (hp : ∀ w' A, Sat w0 w' (F * A) → Rd w' ao (bvs p)) (hD : D.Ok)
    (hs : Sat w0 w (F * blk bd [.pointer (some ⟨b, 0, none⟩)] 74 * blk bp [.slice ao p.length c] 22 * dk b D)) :
    Calls Tryd.prog 102 #[.pointer (some ⟨bd, 0, none⟩), .pointer (some ⟨bp, 0, none⟩)] w (Ret fun v w' => v = .tuple #[] ∧
      Sat w0 w' (F * blk bd [.pointer (some ⟨b, 0, none⟩)] 74 * blk bp [.slice ao p.length c] 22 * dk b (D.putp p))) := by
  have hfit := disk_fits hs hD p.length hn
  have hrd := hp w _ (hs.perm (B := F * (blk bd [.pointer (some ⟨b, 0, none⟩)] 74 * blk bp [.slice ao p.length c] 22 * dk b D)) (by ac_rfl))
  have kd := hs.rot3.cell (i := 0) (v := .pointer (some ⟨b, 0, none⟩)) rfl
  have kp := hs.swap.cell (i := 0) (v := .slice ao p.length c) rfl
  obtain ⟨bv, av, hs1⟩ := hs.dk_open
  obtain ⟨bo, cap, rfl, hbc, hbc2, _, _⟩ := hs1.rot3.vo_rd
  have k0 := hs1.cell (i := 0) (v := .slice bo D.bytes.length cap) rfl
  have hr := hD.room
  by_cases hf : D.fits p.length
  · have HP := Hid.mk' (show D.putp p = { D with bytes := D.bytes ++ p } from if_pos hf)
    rw [decide_eq_true hf] at hfit
    have HF := Hid.mk' hfit
    have HR := Hid.mk' hrd
    have hfl : D.bytes.length + p.length ≤ D.room := hf
    have HB := Hid.mk' (bvs_length p)
    clear hf hfit hrd hs
    go_enter Tryd.func102, Tryd.ntmps102
    go_wp2_with (first | (go_at_call 103; refine (HF.out).mono ?_; rintro e w' ⟨rfl, m, rfl⟩))
    have f0 := hs1.free 0
    go_region_law ((refine step_append_vo rfl _ _ 22 rfl 5 (.int .u8 0) 1 1 Tryd.underlying22 info_u8 rfl (by decide) _ D.bytes.length _ rfl (by exact (hs1.drewN _).rot3) _ p.length c (bvs p) rfl hno (by rw [HB.out, Nat.mul_one]) (by exact HR.out.drewN) (bvs_one _) (by simp only [maxLen]; omega) (by omega) ?_; intro v' w' hS; obtain ⟨so, cap', rfl, _, _, _, _⟩ := hS.vo_rd; have kd3 := hS.rot5.cell (i := 0) (v := .pointer (some ⟨b, 0, none⟩)) rfl; have f3 := hS.swap.free 0; have k3 := hS.swap.cell (i := 0) (v := .slice bo D.bytes.length cap) rfl))
    all_goals
      go_wp2
      go_end0
      refine Ret.mk ⟨rfl, ?_⟩
      rw [HP.out]
      refine Sat.dk_shut (D := { D with bytes := D.bytes ++ p }) (bv := .slice so (D.bytes.length + p.length) cap') (av := av) ?_
      have h2 := hS.swap.store 0 (.slice so (D.bytes.length + p.length) cap')
      rw [← bvs_append] at h2
      show Sat w0 _ (F * blk bd [.pointer (some ⟨b, 0, none⟩)] 74 * blk bp [.slice ao p.length c] 22 * vo 5 1 _ (D.bytes ++ p).length (bvs (D.bytes ++ p)) * vo 179 2 av D.arms.length (aks D.arms) * blk b [_, .int .i64 D.synced, .int .i64 D.room, .bool D.dead, av] 164)
      rw [List.length_append]
      exact h2.perm (by simp only [List.set_cons_zero]; ac_rfl)
  · have HP := Hid.mk' (show D.putp p = D from if_neg hf)
    rw [decide_eq_false hf] at hfit
    have HF := Hid.mk' hfit
    clear hf hfit hrd
    go_enter Tryd.func102, Tryd.ntmps102
    go_wp2_with (first | (go_at_call 103; refine (HF.out).mono ?_; rintro e w' ⟨rfl, m, rfl⟩))
    go_end0
    exact Ret.mk ⟨rfl, by rw [HP.out]; exact hs.drewN m⟩
end Go.Proofs.YtjhlelcopofkkaaDoor

/-! Disk3 -/
namespace Go.Proofs.YtjhlelcopofkkaaDoor
open Go.RowKit

set_option maxRecDepth 20000 in
set_option maxHeartbeats 3200000 in
theorem disk_append {w0 w : World} {F : HP} {b : Nat} {D : Dk} {E : Nat → Addr} (hE : Errs w0 E) (p : List UInt8) (ao : Option Addr) (c : Nat) (hc : p.length ≤ c) (hno : ao = none → p.length = 0 ∧ c = 0) (hn : p.length ≤ 140737488351232)
    (hp : ∀ w' A, Sat w0 w' (F * A) → Rd w' ao (bvs p)) (hD : D.Ok) (hs : Sat w0 w (F * dk b D)) :
    Calls Tryd.prog 45 #[.pointer (some ⟨b, 0, none⟩), .slice ao p.length c] w (Ret fun v w' => v = errv E (D.append p).2 ∧ Sat w0 w' (F * dk b (D.append p).1)) := by
  have HE := Hid.mk' hE
  have HP := Hid.mk' hp
  clear hE hp
  have hmf : ∀ (fn : Fn) (first cap : Array Value) (w : World), (Instr.makeFunc fn first cap).run Tryd.prog w = .ok (.func fn first cap) w := fun _ _ _ _ => rfl
  have hs1 := (hs.new #[.pointer (some ⟨b, 0, none⟩)] 74).new #[.slice ao p.length c] 22
  rw [World.size_alloc] at hs1
  have hcall := Tryd.call102
  obtain ⟨g, hg⟩ : ∃ g, D.gate (·.putp p) = g := ⟨_, rfl⟩
  have hgo := hD.gate (L := (·.putp p)) (fun D' h' => h'.putp p)
  have hgc := D.gate_cases (·.putp p)
  rw [hg] at hgo hgc
  obtain ⟨D1, k⟩ := g
  have HA := Hid.mk' (show D.append p = if k = 0 then (if D1.fits p.length then (D1.putp p, 0) else (D1, 9)) else (D1, k) by unfold Dk.append; rw [hg])
  simp only at hgo hgc
  have hs2 : Sat w0 ((w.alloc (.cells #[.pointer (some ⟨b, 0, none⟩)] 74)).alloc (.cells #[.slice ao p.length c] 22)) (F * blk w.heap.size [.pointer (some ⟨b, 0, none⟩)] 74 * blk (w.heap.size + 1) [.slice ao p.length c] 22 * dk b D) := hs1.perm (by ac_rfl)
  have HGA := Hid.mk' (disk_gate HE.out hs2 hD 102 #[.pointer (some ⟨w.heap.size, 0, none⟩), .pointer (some ⟨w.heap.size + 1, 0, none⟩)] (·.putp p) (fun D' h' => h'.putp p) hcall
    (fun D' w' hD' hs' => disk_put p ao c hc hno hn (fun w' A h => HP.out w' _ h) hD' hs'))
  rw [hg] at HGA
  have kd := hs2.rot3.cell (i := 0) (v := .pointer (some ⟨b, 0, none⟩)) rfl
  clear hs hs1 hg
  generalize hbw : w.heap.size = bw at *
  go_enter Tryd.func45, Tryd.ntmps45
  go_wp2_with fail
  refine HGA.out.mono ?_
  rintro e w2 ⟨v, rfl, rfl, hs3⟩
  have qd := hs3.rot3.cell (i := 0) (v := .pointer (some ⟨b, 0, none⟩)) rfl
  have qp := hs3.swap.cell (i := 0) (v := .slice ao p.length c) rfl
  rcases hgc with rfl | rfl
  · have hfit := Hid.mk' (disk_fits hs3 hgo p.length hn)
    by_cases hf : D1.fits p.length
    · rw [decide_eq_true hf] at hfit
      have HR := Hid.mk' (show D.append p = (D1.putp p, 0) by rw [HA.out, if_pos rfl, if_pos hf])
      have hput := Hid.mk' (fun m => disk_put p ao c hc hno hn (fun w' A h => HP.out w' _ h) hgo (hs3.drewN m))
      clear hf
      simp only [errv]
      go_wp2_with (first | (go_at_call 103; refine (hfit.out).mono ?_; rintro e w' ⟨rfl, m, rfl⟩) | (go_at_call 102; refine ((hput.out _)).mono ?_; rintro e w4 ⟨v, rfl, rfl, hs4⟩))
      go_ret
      exact Ret.mk (by rw [HR.out]; exact ⟨rfl, (hs4.perm (B := F * dk b (D1.putp p) * (blk bw [.pointer (some ⟨b, 0, none⟩)] 74 * blk (bw + 1) [.slice ao p.length c] 22)) (by ac_rfl)).drop⟩)
    · rw [decide_eq_false hf] at hfit
      have HR := Hid.mk' (show D.append p = (D1, 9) by rw [HA.out, if_pos rfl, if_neg hf])
      have c9 := Hid.mk' ((HE.out.of0 hs3).cell 9 (by omega) (by omega))
      clear hf
      simp only [errv]
      go_wp2_with (first | (go_at_call 103; refine (hfit.out).mono ?_; rintro e w' ⟨rfl, m, rfl⟩; have c9' := c9.out; simp only [gErr] at c9'))
      go_ret
      exact Ret.mk (by rw [HR.out]; exact ⟨rfl, ((hs3.drewN m).perm (B := F * dk b D1 * (blk bw [.pointer (some ⟨b, 0, none⟩)] 74 * blk (bw + 1) [.slice ao p.length c] 22)) (by ac_rfl)).drop⟩)
  · have HR := Hid.mk' (show D.append p = (D1, 10) by rw [HA.out, if_neg (by decide)])
    simp only [errv]
    go_wp2_with fail
    go_ret
    exact Ret.mk (by rw [HR.out]; exact ⟨rfl, (hs3.perm (B := F * dk b D1 * (blk bw [.pointer (some ⟨b, 0, none⟩)] 74 * blk (bw + 1) [.slice ao p.length c] 22)) (by ac_rfl)).drop⟩)

theorem disk_nothing {w : World} : Calls Tryd.prog 138 #[] w (Same (.tuple #[]) w) := by
  go_enter Tryd.func138, Tryd.ntmps138
  go_wp2_with fail
  go_end0
  exact ⟨rfl, rfl⟩
/-- The gate of an operation that does nothing more when it dies. -/
theorem disk_gate0 {w0 w : World} {F : HP} {b : Nat} {D : Dk} {E : Nat → Addr} (hE : ErrAt w0 E 10) (hs : Sat w0 w (F * dk b D)) (hD : D.Ok) :
    Calls Tryd.prog 104 #[.pointer (some ⟨b, 0, none⟩), .func (.func 138) #[] #[]] w (Ret fun v w' => v = errv E (D.gate id).2 ∧ Sat w0 w' (F * dk b (D.gate id).1)) :=
  disk_gate' hE hs hD 138 #[] id (fun _ h => h) Tryd.call138 (fun D' w' _ hs' => disk_nothing.mono fun e w'' ⟨he, hw⟩ => ⟨_, he, rfl, by rw [← hw]; exact hs'⟩)

set_option maxHeartbeats 3200000 in
theorem disk_sync' {w0 w : World} {F : HP} {b : Nat} {D : Dk} {E : Nat → Addr} (hE : ErrAt w0 E 10) (hD : D.Ok) (hs : Sat w0 w (F * dk b D)) :
    Calls Tryd.prog 107 #[.pointer (some ⟨b, 0, none⟩)] w (Ret fun v w' => v = errv E D.sync.2 ∧ Sat w0 w' (F * dk b D.sync.1)) := by
  obtain ⟨g, hg⟩ : ∃ g, D.gate id = g := ⟨_, rfl⟩
  have hgc := D.gate_cases id
  have HGA := Hid.mk' (disk_gate0 hE hs hD)
  rw [hg] at hgc HGA
  obtain ⟨D1, k⟩ := g
  have HA := Hid.mk' (show D.sync = if k = 0 then ({ D1 with synced := D1.bytes.length }, 0) else (D1, k) by unfold Dk.sync; rw [hg])
  simp only at hgc
  clear hg hE
  go_enter Tryd.func107, Tryd.ntmps107
  go_wp2_with fail
  refine HGA.out.mono ?_
  rintro e w2 ⟨v, rfl, rfl, hs3⟩
  rcases hgc with rfl | rfl
  · have HR := Hid.mk' (show D.sync = ({ D1 with synced := D1.bytes.length }, 0) from HA.out)
    clear HA
    obtain ⟨bv, av, hs4⟩ := hs3.dk_open
    obtain ⟨bo, cap, rfl, _, _, _, _⟩ := hs4.rot3.vo_rd
    have q0 := hs4.cell (i := 0) (v := .slice bo D1.bytes.length cap) rfl
    have q1 := hs4.cell (i := 1) (v := .int .i64 D1.synced) rfl
    have p1 := hs4.free 1
    simp only [errv]
    go_wp2_with fail
    go_ret
    exact Ret.mk (by rw [HR.out]; exact ⟨rfl, Sat.dk_shut (D := { D1 with synced := D1.bytes.length }) (bv := .slice bo D1.bytes.length cap) (av := av) (hs4.store 1 (.int .i64 D1.bytes.length))⟩)
  · have HR := Hid.mk' (show D.sync = (D1, 10) from HA.out)
    clear HA
    simp only [errv]
    go_wp2_with fail
    go_ret
    exact Ret.mk (by rw [HR.out]; exact ⟨rfl, hs3⟩)

set_option maxHeartbeats 3200000 in
theorem disk_readAll' {w0 w : World} {F : HP} {b : Nat} {D : Dk} {E : Nat → Addr} (hE : ErrAt w0 E 10) (hD : D.Ok) (hs : Sat w0 w (F * dk b D)) :
    Calls Tryd.prog 108 #[.pointer (some ⟨b, 0, none⟩)] w (Ret fun v w' => ∃ u, v = .tuple #[u, errv E (D.gate id).2] ∧
      Sat w0 w' (F * dk b (D.gate id).1 * vec 5 1 u (if (D.gate id).2 = 0 then (D.gate id).1.bytes else []).length (bvs (if (D.gate id).2 = 0 then (D.gate id).1.bytes else [])))) := by
  obtain ⟨g, hg⟩ : ∃ g, D.gate id = g := ⟨_, rfl⟩
  have hgc := D.gate_cases id
  have hgo := hD.gate (L := id) (fun _ h => h)
  have HGA := Hid.mk' (disk_gate0 hE hs hD)
  rw [hg] at hgc HGA hgo ⊢
  obtain ⟨D1, k⟩ := g
  simp only at hgc hgo ⊢
  clear hg hE
  go_enter Tryd.func108, Tryd.ntmps108
  go_wp2_with fail
  refine HGA.out.mono ?_
  rintro e w2 ⟨v, rfl, rfl, hs3⟩
  rcases hgc with rfl | rfl
  · obtain ⟨bv, av, hs4⟩ := hs3.dk_open
    obtain ⟨bo, cap, rfl, _, _, hrd, _⟩ := hs4.rot3.vo_rd
    have q0 := hs4.cell (i := 0) (v := .slice bo D1.bytes.length cap) rfl
    have HF := Hid.mk' (disk_fresh D1.bytes bo cap hrd hgo.bytes)
    clear hrd
    simp only [errv]
    go_wp2_with (go_at_call 99; refine HF.out.mono ?_; rintro e w3 ⟨v, rfl, hx⟩)
    go_ret2
    refine Ret.mk ⟨_, rfl, ?_⟩
    exact hs3.glue hx
  · simp only [errv]
    go_wp2_with fail
    go_ret2
    refine Ret.mk ⟨_, rfl, ?_⟩
    exact hs3.vec_nil _ _

set_option maxHeartbeats 6400000 in
theorem disk_truncate' {w0 w : World} {F : HP} {b : Nat} {D : Dk} {E : Nat → Addr} (hE1 : ErrAt w0 E 1) (hE : ErrAt w0 E 10) (hD : D.Ok) (hs : Sat w0 w (F * dk b D)) (n : Int) :
    Calls Tryd.prog 109 #[.pointer (some ⟨b, 0, none⟩), .int .i64 n] w (Ret fun v w' => v = errv E (D.trunc n).2 ∧ Sat w0 w' (F * dk b (D.trunc n).1)) := by
  have HE := Hid.mk' hE1
  obtain ⟨bv, av, hs1⟩ := hs.dk_open
  obtain ⟨bo, cap, rfl, _, _, _, _⟩ := hs1.rot3.vo_rd
  have k0 := hs1.cell (i := 0) (v := .slice bo D.bytes.length cap) rfl
  have k3 := hs1.cell (i := 3) (v := .bool D.dead) rfl
  by_cases hbad : D.dead = false ∧ (n < 0 ∨ (D.bytes.length : Int) < n)
  · have HR := Hid.mk' (show D.trunc n = (D, 1) from if_pos hbad)
    have c1 : w.cell? ⟨gErr 1, 0, none⟩ = some (.iface 203 (.pointer (some (E 1)))) := HE.out.of0 hs
    simp only [gErr] at c1
    obtain ⟨hd, hn⟩ := hbad
    rw [hd] at k3
    clear hd hE hE1 hs1
    by_cases hn0 : n < 0
    · clear hn
      go_enter Tryd.func109, Tryd.ntmps109
      go_wp2_with fail
      go_ret
      exact Ret.mk (by rw [HR.out]; exact ⟨rfl, hs⟩)
    · have hn1 : (D.bytes.length : Int) < n := by omega
      clear hn
      go_enter Tryd.func109, Tryd.ntmps109
      go_wp2_with fail
      go_ret
      exact Ret.mk (by rw [HR.out]; exact ⟨rfl, hs⟩)
  · obtain ⟨g, hg⟩ : ∃ g, D.gate id = g := ⟨_, rfl⟩
    have hgc := D.gate_cases id
    have hgo := hD.gate (L := id) (fun _ h => h)
    have HGA := Hid.mk' (disk_gate0 hE hs hD)
    have hfar : (D.gate id).2 = 0 → D.dead = false ∧ 0 ≤ n ∧ n ≤ (D.gate id).1.bytes.length := by
      intro h
      have hdd : D.dead = false := by
        cases hd : D.dead with
        | false => rfl
        | true => unfold Dk.gate at h; rw [if_pos hd] at h; cases h
      have hb : (D.gate id).1.bytes = D.bytes := by
        unfold Dk.gate at h ⊢
        rw [if_neg (by rw [hdd]; simp)] at h ⊢
        split at h
        · rfl
        · rfl
        · cases h
      rw [hb]
      exact ⟨hdd, Int.not_lt.1 (fun h => hbad ⟨hdd, Or.inl h⟩), Int.not_lt.1 (fun h => hbad ⟨hdd, Or.inr h⟩)⟩
    rw [hg] at hgc HGA hgo hfar
    obtain ⟨D1, k⟩ := g
    have HA := Hid.mk' (show D.trunc n = if k = 0 then ({ D1 with bytes := D1.bytes.take n.toNat, synced := min D1.synced n.toNat }, 0) else (D1, k) by unfold Dk.trunc; rw [if_neg hbad, hg])
    simp only at hgc hgo hfar
    clear hg hE hE1
    cases hd : D.dead with
    | true =>
      rw [hd] at k3
      rcases hgc with rfl | rfl
      · have := (hfar rfl).1
        rw [hd] at this
        cases this
      · have HR := Hid.mk' (show D.trunc n = (D1, 10) from HA.out)
        clear HA hfar hbad hd
        go_enter Tryd.func109, Tryd.ntmps109
        go_wp2_with (go_at_call 104; refine HGA.out.mono ?_; rintro e w2 ⟨v, rfl, rfl, hs3⟩; simp only [errv])
        go_ret
        exact Ret.mk (by rw [HR.out]; exact ⟨rfl, hs3⟩)
    | false =>
      rw [hd] at k3
      have h0 : ¬ n < 0 := by
        intro h
        exact hbad ⟨hd, Or.inl h⟩
      have h1 : ¬ (D.bytes.length : Int) < n := by
        intro h
        exact hbad ⟨hd, Or.inr h⟩
      obtain ⟨m, rfl⟩ : ∃ m : Nat, n = (m : Int) := ⟨n.toNat, by omega⟩
      rw [Int.toNat_natCast] at HA
      rcases hgc with rfl | rfl
      · have HR := Hid.mk' (show D.trunc m = ({ D1 with bytes := D1.bytes.take m, synced := min D1.synced m }, 0) from HA.out)
        have hm := (hfar rfl).2.2
        clear HA hfar hbad hd
        go_enter Tryd.func109, Tryd.ntmps109
        go_wp2_with (first | (go_at_call 104; refine HGA.out.mono ?_; rintro e w2 ⟨v, rfl, rfl, hs3⟩; simp only [errv]) | (go_at_call 139; refine (disk_cut hs3 m (by omega) _ rfl).mono ?_; rintro e w4 ⟨v, rfl, rfl, hs4⟩; obtain ⟨bv5, av5, hs5⟩ := hs4.dk_open; have q1 := hs5.cell (i := 1) (v := .int .i64 D1.synced) rfl; have p1 := hs5.free 1))
        all_goals
          go_ret
          refine Ret.mk ?_
          rw [HR.out]
          refine ⟨rfl, Sat.dk_shut (D := { D1 with bytes := D1.bytes.take m, synced := min D1.synced m }) (bv := bv5) (av := av5) ?_⟩
          first
            | (rw [show min D1.synced m = m by omega]; exact hs5.store 1 (.int .i64 m))
            | (rw [show min D1.synced m = D1.synced by omega]; exact hs5.store 1 (.int .i64 D1.synced))
      · have HR := Hid.mk' (show D.trunc m = (D1, 10) from HA.out)
        clear HA hfar hbad hd
        go_enter Tryd.func109, Tryd.ntmps109
        go_wp2_with (go_at_call 104; refine HGA.out.mono ?_; rintro e w2 ⟨v, rfl, rfl, hs3⟩; simp only [errv])
        go_ret
        exact Ret.mk (by rw [HR.out]; exact ⟨rfl, hs3⟩)
section
variable {w0 w : World} {F : HP} {b : Nat} {D : Dk} {E : Nat → Addr}
theorem disk_sync (hE : Errs w0 E) (hD : D.Ok) (hs : Sat w0 w (F * dk b D)) :
    Calls Tryd.prog 107 #[.pointer (some ⟨b, 0, none⟩)] w (Ret fun v w' => v = errv E D.sync.2 ∧ Sat w0 w' (F * dk b D.sync.1)) := disk_sync' (hE.at 10 (by decide) (by decide)) hD hs
theorem disk_readAll (hE : Errs w0 E) (hD : D.Ok) (hs : Sat w0 w (F * dk b D)) :
    Calls Tryd.prog 108 #[.pointer (some ⟨b, 0, none⟩)] w (Ret fun v w' => ∃ u, v = .tuple #[u, errv E (D.gate id).2] ∧
      Sat w0 w' (F * dk b (D.gate id).1 * vec 5 1 u (if (D.gate id).2 = 0 then (D.gate id).1.bytes else []).length (bvs (if (D.gate id).2 = 0 then (D.gate id).1.bytes else [])))) := disk_readAll' (hE.at 10 (by decide) (by decide)) hD hs
theorem disk_truncate (hE : Errs w0 E) (hD : D.Ok) (hs : Sat w0 w (F * dk b D)) (n : Int) :
    Calls Tryd.prog 109 #[.pointer (some ⟨b, 0, none⟩), .int .i64 n] w (Ret fun v w' => v = errv E (D.trunc n).2 ∧ Sat w0 w' (F * dk b (D.trunc n).1)) := disk_truncate' (hE.at 1 (by decide) (by decide)) (hE.at 10 (by decide) (by decide)) hD hs n
end
end Go.Proofs.YtjhlelcopofkkaaDoor

/-! Disk4 -/
namespace Go.Proofs.YtjhlelcopofkkaaDoor
open Go.RowKit

theorem info_arm : (Tryd.prog.info? 179).map (fun i => (i.zero, i.size, i.bytes)) = some (some (.agg #[.int .i64 0, .int .i64 0]), 2, 16) := by kernel_rfl

set_option maxHeartbeats 3200000 in
theorem disk_arm {w0 w : World} {F : HP} {b : Nat} {D : Dk} (hs : Sat w0 w (F * dk b D)) (after keep : Int) (hn : D.arms.length < 8796093022207) :
    Calls Tryd.prog 58 #[.pointer (some ⟨b, 0, none⟩), .int .i64 after, .int .i64 keep] w (Ret fun v w' => v = .tuple #[] ∧ Sat w0 w' (F * dk b (D.arm after keep))) := by
  obtain ⟨bv, av, hs1⟩ := hs.dk_open
  obtain ⟨ao, cap, rfl, _, _, _, _⟩ := hs1.swap.vo_rd
  have k4 := hs1.cell (i := 4) (v := .slice ao D.arms.length cap) rfl
  have hA := Hid.mk' (show aks (D.arm after keep).arms = aks D.arms ++ [.int .i64 (after.toNat : Int), .int .i64 keep] by unfold Dk.arm; rw [aks_append]; rfl)
  have hL := Hid.mk' (show (D.arm after keep).arms.length = D.arms.length + 1 by unfold Dk.arm; rw [List.length_append]; rfl)
  clear hs
  by_cases ha : after < 0
  · have HM := Hid.mk' (show (after.toNat : Int) = 0 by omega)
    go_enter Tryd.func58, Tryd.ntmps58
    go_wp2_with (at_builtin; go_loud (refine sl_append_vo rfl _ _ 162 rfl 179 (.agg #[.int .i64 0, .int .i64 0]) 2 16 Tryd.underlying162 info_arm rfl (by decide) _ D.arms.length _ rfl (by exact hs1.swap.skip) _ 1 _ [.int .i64 0, .int .i64 keep] rfl (fun h => by cases h) rfl (by exact Rd.made _ _ _ _) (by intro u hu; simp at hu; rcases hu with rfl | rfl <;> rfl) (by simp only [maxLen]; omega) (by omega) ?_); intro v' w' hS; obtain ⟨so, cap', rfl, _, _, _, _⟩ := hS.vo_rd; have q4 := hS.swap.cell (i := 4) (v := .slice ao D.arms.length cap) rfl; have p4 := hS.swap.free 4)
    go_end0
    refine Ret.mk ⟨rfl, ?_⟩
    refine Sat.dk_shut (D := D.arm after keep) (bv := bv) (av := .slice so (D.arms.length + 1) cap') ?_
    rw [hA.out, hL.out, HM.out]
    exact hS.swap.store 4 (.slice so (D.arms.length + 1) cap')
  · have HM := Hid.mk' (show (after.toNat : Int) = after by omega)
    have ha' : 0 ≤ after := by omega
    clear ha
    go_enter Tryd.func58, Tryd.ntmps58
    go_wp2_with (at_builtin; go_loud (refine sl_append_vo rfl _ _ 162 rfl 179 (.agg #[.int .i64 0, .int .i64 0]) 2 16 Tryd.underlying162 info_arm rfl (by decide) _ D.arms.length _ rfl (by exact hs1.swap.skip) _ 1 _ [.int .i64 after, .int .i64 keep] rfl (fun h => by cases h) rfl (by exact Rd.made _ _ _ _) (by intro u hu; simp at hu; rcases hu with rfl | rfl <;> rfl) (by simp only [maxLen]; omega) (by omega) ?_); intro v' w' hS; obtain ⟨so, cap', rfl, _, _, _, _⟩ := hS.vo_rd; have q4 := hS.swap.cell (i := 4) (v := .slice ao D.arms.length cap) rfl; have p4 := hS.swap.free 4)
    go_end0
    refine Ret.mk ⟨rfl, ?_⟩
    refine Sat.dk_shut (D := D.arm after keep) (bv := bv) (av := .slice so (D.arms.length + 1) cap') ?_
    rw [hA.out, hL.out, HM.out]
    exact hS.swap.store 4 (.slice so (D.arms.length + 1) cap')

set_option maxHeartbeats 1600000 in
theorem disk_crash {w0 w : World} {F : HP} {b : Nat} {D : Dk} (hs : Sat w0 w (F * dk b D)) (hD : D.Ok) (keep : Int) (h1 : -9223372036854775808 ≤ keep) (h2 : keep ≤ 9223372036854775807) :
    Calls Tryd.prog 62 #[.pointer (some ⟨b, 0, none⟩), .int .i64 keep] w (Ret fun v w' => v = .tuple #[] ∧ Sat w0 w' (F * dk b (D.crash keep))) := by
  obtain ⟨bv, av, hs1⟩ := hs.dk_open
  have k3 := hs1.cell (i := 3) (v := .bool D.dead) rfl
  have HF := Hid.mk' (disk_fail hs hD keep h1 h2)
  clear hs1
  cases hd : D.dead with
  | true =>
    have HR := Hid.mk' (show D.crash keep = D from if_pos hd)
    rw [hd] at k3
    clear hd
    go_enter Tryd.func62, Tryd.ntmps62
    go_wp2_with fail
    go_end0
    exact Ret.mk ⟨rfl, by rw [HR.out]; exact hs⟩
  | false =>
    have HR := Hid.mk' (show D.crash keep = D.fail keep from if_neg (by rw [hd]; simp))
    rw [hd] at k3
    clear hd
    go_enter Tryd.func62, Tryd.ntmps62
    go_wp2_with (go_at_call 122; refine HF.out.mono ?_; rintro e w2 ⟨v, rfl, rfl, hs2⟩)
    go_end0
    exact Ret.mk ⟨rfl, by rw [HR.out]; exact hs2⟩

theorem disk_dead {w0 w : World} {F : HP} {b : Nat} {D : Dk} (hs : Sat w0 w (F * dk b D)) :
    Calls Tryd.prog 53 #[.pointer (some ⟨b, 0, none⟩)] w (Same (.bool D.dead) w) := by
  obtain ⟨bv, av, hs1⟩ := hs.dk_open
  have k3 := hs1.cell (i := 3) (v := .bool D.dead) rfl
  clear hs1
  go_enter Tryd.func53, Tryd.ntmps53
  go_wp2_with fail
  go_ret
  exact ⟨rfl, rfl⟩

theorem disk_revive {w0 w : World} {F : HP} {b : Nat} {D : Dk} (hs : Sat w0 w (F * dk b D)) :
    Calls Tryd.prog 63 #[.pointer (some ⟨b, 0, none⟩)] w (Ret fun v w' => v = .tuple #[] ∧ Sat w0 w' (F * dk b D.revive)) := by
  obtain ⟨bv, av, hs1⟩ := hs.dk_open
  have k3 := hs1.cell (i := 3) (v := .bool D.dead) rfl
  have f3 := hs1.free 3
  go_enter Tryd.func63, Tryd.ntmps63
  go_wp2_with fail
  go_end0
  exact Ret.mk ⟨rfl, Sat.dk_shut (D := D.revive) (bv := bv) (av := av) (hs1.store 3 (.bool false))⟩

set_option maxRecDepth 20000 in
set_option maxHeartbeats 3200000 in
theorem disk_look {w0 w : World} {F : HP} {b : Nat} {D : Dk} (hD : D.Ok) (hs : Sat w0 w (F * dk b D)) :
    Calls Tryd.prog 61 #[.pointer (some ⟨b, 0, none⟩)] w (Ret fun v w' => ∃ u, v = .tuple #[u, .int .i64 D.synced] ∧ Sat w0 w' (F * dk b D * vec 5 1 u D.bytes.length (bvs D.bytes))) := by
  obtain ⟨bv, av, hs1⟩ := hs.dk_open
  obtain ⟨bo, cap, rfl, _, _, hrd, _⟩ := hs1.rot3.vo_rd
  have k0 := hs1.cell (i := 0) (v := .slice bo D.bytes.length cap) rfl
  have k1 := hs1.cell (i := 1) (v := .int .i64 D.synced) rfl
  have HF := Hid.mk' (fun m => disk_fresh (w := w.drewN m) D.bytes bo cap hrd.drewN hD.bytes)
  clear hs1 hrd
  go_enter Tryd.func61, Tryd.ntmps61
  go_wp2_with fail
  go_region_held3 (fun wr => wr.cell? ⟨b, 0, none⟩ = some (.slice bo D.bytes.length cap) ∧ wr.cell? ⟨b, 1, none⟩ = some (.int .i64 D.synced)) (first | exact ⟨k0, k1⟩ | exact ⟨(hx.below.cell (World.block_lt_of_cell? _ _ k0)).trans k0, (hx.below.cell (World.block_lt_of_cell? _ _ k1)).trans k1⟩)
    ((go_at_call 99; go_loud (refine (HF.out 1).mono ?_); rintro e w3 ⟨v, rfl, hx⟩))
  go_wp2
  go_ret2
  exact Ret.mk ⟨_, rfl, (hs.drewN 1).glue hx⟩

set_option maxHeartbeats 3200000 in
theorem disk_open {w0 w : World} {F : HP} (hs : Sat w0 w F) (xs : List UInt8) (ao : Option Addr) (c : Nat) (hr : Rd w ao (bvs xs)) (hn : xs.length ≤ 140737488351232) (room : Int) :
    Calls Tryd.prog 42 #[.slice ao xs.length c, .int .i64 room] w (Ret fun v w' => ∃ b, v = .pointer (some ⟨b, 0, none⟩) ∧ Sat w0 w' (F * dk b (Dk.new xs room))) := by
  have HF := Hid.mk' (disk_fresh xs ao c hr hn)
  have HR := Hid.mk' (show ((Dk.new xs room).room : Int) = min (max room 0) 1073741824 by show (((min (max room 0) 1073741824).toNat : Nat) : Int) = _; omega)
  clear hr
  go_enter Tryd.func42, Tryd.ntmps42
  go_wp2_with (go_at_call 99; refine HF.out.mono ?_; rintro e w3 ⟨v, rfl, hx⟩; have hs2 := hs.glue hx; clear hx; obtain ⟨uo, uc, rfl, _, _, _⟩ := hs2.vec_rd)
  all_goals
    go_ret
    refine Ret.mk ⟨_, rfl, Sat.dk_shut (D := Dk.new xs room) (bv := .slice uo xs.length uc) (av := .slice none 0 0) ?_⟩
    rw [HR.out]
    first
      | (rw [show min (max room 0) 1073741824 = 0 by omega]; exact ((hs2.vec_vo.vec_nil _ _).vec_vo).new _ _)
      | (rw [show min (max room 0) 1073741824 = room by omega]; exact ((hs2.vec_vo.vec_nil _ _).vec_vo).new _ _)
      | (rw [show min (max room 0) 1073741824 = 1073741824 by omega]; exact ((hs2.vec_vo.vec_nil _ _).vec_vo).new _ _)
theorem disk_new {w0 w : World} {F : HP} (hs : Sat w0 w F) (room : Int) :
    Calls Tryd.prog 56 #[.int .i64 room] w (Ret fun v w' => ∃ b, v = .pointer (some ⟨b, 0, none⟩) ∧ Sat w0 w' (F * dk b (Dk.new [] room))) := by
  have HO := Hid.mk' (disk_open hs [] none 0 (Rd.nil _ _) (by simp) room)
  go_enter Tryd.func56, Tryd.ntmps56
  go_wp2_with (go_at_call 42; refine HO.out.mono ?_; rintro e w3 ⟨v, rfl, b, rfl, hx⟩)
  go_ret
  exact Ret.mk ⟨_, rfl, hx⟩
end Go.Proofs.YtjhlelcopofkkaaDoor
