/- The program's disk: its functions, by what becomes of what it holds. -/
import Derived.Test.YtjhlelcopofkkaaDoorDk
import Derived.Test.YtjhlelcopofkkaaDoorWal
import Derived.Deep.RegionHeld3
namespace Go.Proofs.YtjhlelcopofkkaaDoor
open Go.RowKit

/-- The cells of the arms that wait. -/
def aks (l : List (Nat × Int)) : List Value := l.flatMap fun x => [.int .i64 x.1, .int .i64 x.2]
theorem aks_nil : aks [] = [] := rfl
theorem aks_cons (x : Nat × Int) (l : List (Nat × Int)) : aks (x :: l) = [.int .i64 x.1, .int .i64 x.2] ++ aks l := rfl
theorem aks_length (l : List (Nat × Int)) : (aks l).length = l.length * 2 := by
  induction l with
  | nil => rfl
  | cons x l ih => rw [aks_cons, List.length_append, ih, List.length_cons, List.length_cons, List.length_cons, List.length_nil]; omega
theorem aks_append (l m : List (Nat × Int)) : aks (l ++ m) = aks l ++ aks m := by simp [aks]
theorem aks_one (l : List (Nat × Int)) : ∀ v ∈ aks l, v.oneCell' = true := by
  intro v hv
  obtain ⟨x, _, hx⟩ := List.mem_flatMap.1 hv
  simp only [List.mem_cons, List.not_mem_nil, or_false] at hx
  rcases hx with rfl | rfl <;> rfl

/-- A disk, at the head of a block. -/
def dk (b : Nat) (D : Dk) : HP := fun h => ∃ bv av, (vo 5 1 bv D.bytes.length (bvs D.bytes) * vo 179 2 av D.arms.length (aks D.arms) * blk b [bv, .int .i64 D.synced, .int .i64 D.room, .bool D.dead, av] 164) h
section
variable {w0 w : World} {F : HP} {b : Nat} {D : Dk}
theorem Sat.dk_open (hs : Sat w0 w (F * dk b D)) : ∃ bv av, Sat w0 w (F * vo 5 1 bv D.bytes.length (bvs D.bytes) * vo 179 2 av D.arms.length (aks D.arms) * blk b [bv, .int .i64 D.synced, .int .i64 D.room, .bool D.dead, av] 164) := by
  obtain ⟨x, ⟨h1, h2, ha, ⟨bv, av, hb⟩, hd, hu⟩, hx⟩ := hs.held
  refine ⟨bv, av, ?_⟩
  rw [HP.assoc, HP.assoc]
  rw [HP.assoc] at hb
  exact ⟨hs.below, x, ⟨h1, h2, ha, hb, hd, hu⟩, hx⟩
theorem Sat.dk_shut {bv av : Value} (hs : Sat w0 w (F * vo 5 1 bv D.bytes.length (bvs D.bytes) * vo 179 2 av D.arms.length (aks D.arms) * blk b [bv, .int .i64 D.synced, .int .i64 D.room, .bool D.dead, av] 164)) : Sat w0 w (F * dk b D) := by
  rw [HP.assoc, HP.assoc] at hs
  exact hs.imp_last fun x hx => ⟨bv, av, by rw [HP.assoc]; exact hx⟩
end

theorem put_whole {cur cs : List Value} (h : cs.length = cur.length) : put cur 0 cs = cs := by
  simp only [put, List.take_zero, List.nil_append, Nat.zero_add]
  rw [List.drop_eq_nil_of_le (by omega), List.append_nil]

set_option maxHeartbeats 1600000 in
theorem disk_fresh {w : World} (xs : List UInt8) (ao : Option Addr) (c : Nat) (hr : Rd w ao (bvs xs)) (hn : xs.length ≤ 140737488351232) :
    Calls Tryd.prog 99 #[.slice ao xs.length c] w (Ret fun v w' => Sat w w' (vec 5 1 v xs.length (bvs xs))) := by
  have HR := Hid.mk' hr
  have hs0 := Sat.refl w
  have HL := Hid.mk' (bvs_length xs)
  clear hr
  go_enter Tryd.func99, Tryd.ntmps99
  go_wp2_with (first | (at_make; go_loud (refine sl_make rfl _ _ 22 rfl 5 (.int .u8 0) 1 rfl Tryd.underlying22 info_u8 .i64 .i64 _ _ xs.length rfl rfl (by omega) (by omega) (by omega) (by simp only [maxLen]; omega) (by exact hs0) ?_); intro w3 hs5) | ((with_reducible refine gate_op (.call { callee := .builtin .copy, args := #[.tmp 7, .tmp 8], argTypes := #[22, 22] }) rfl ?_); go_loud (refine sl_copy rfl _ _ _ _ rfl 5 Tryd.underlying22 size_u8 _ _ _ _ _ _ rfl rfl _ 0 _ _ (by exact hs5) (bvs xs) (by rw [HL.out]; exact (Nat.min_eq_left (by omega)).symm) (fun _ => rfl) (by exact HR.out.mono hs5.below) (by rw [HL.out, List.length_replicate]; omega) (bvs_one _) ?_); intro w4 hs6))
  go_ret
  rw [put_whole (by rw [HL.out, List.length_replicate])] at hs6
  exact Ret.mk ((hs6.as_vec (n := xs.length) (by rw [HL.out, Nat.mul_one]) (by simp only [maxLen]; omega)).unone')

set_option maxHeartbeats 1600000 in
theorem disk_cut {w0 w : World} {F : HP} {b : Nat} {D : Dk} (hs : Sat w0 w (F * dk b D)) (n : Nat) (hn : n ≤ D.bytes.length) (z : Int) (hz : z = (n : Int)) :
    Calls Tryd.prog 139 #[.pointer (some ⟨b, 0, none⟩), .int .i64 z] w (Ret fun v w' => v = .tuple #[] ∧ Sat w0 w' (F * dk b { D with bytes := D.bytes.take n })) := by
  obtain ⟨bv, av, hs1⟩ := hs.dk_open
  obtain ⟨ao, cap, rfl, hc, hc2, _, _⟩ := hs1.swap.rot3.vo_rd
  have k0 := hs1.cell (i := 0) (v := .slice ao D.bytes.length cap) rfl
  have f0 := hs1.free 0
  clear hs
  subst hz
  simp only [maxLen] at hc2
  go_enter Tryd.func139, Tryd.ntmps139
  go_wp2
  go_end0
  refine Ret.mk ⟨rfl, ?_⟩
  have h2 := (hs1.store 0 (.slice ao n n)).swap.rot3.vo_cut n hn
  rw [bvs_take, Nat.mul_one] at h2
  have e : (D.bytes.take n).length = n := by rw [List.length_take]; omega
  refine Sat.dk_shut (D := { D with bytes := D.bytes.take n }) (bv := .slice ao n n) (av := av) ?_
  show Sat w0 _ (F * vo 5 1 (.slice ao n n) (D.bytes.take n).length (bvs (D.bytes.take n)) * vo 179 2 av D.arms.length (aks D.arms) * blk b [.slice ao n n, .int .i64 D.synced, .int .i64 D.room, .bool D.dead, av] 164)
  rw [e]
  exact h2.perm (by simp only [List.set_cons_zero]; ac_rfl)

set_option maxHeartbeats 1600000 in
theorem disk_fits {w0 w : World} {F : HP} {b : Nat} {D : Dk} (hs : Sat w0 w (F * dk b D)) (hD : D.Ok) (n : Nat) (hn : n ≤ 140737488351232) :
    Calls Tryd.prog 103 #[.pointer (some ⟨b, 0, none⟩), .int .i64 n] w (Drew (.bool (decide (D.fits n))) w) := by
  obtain ⟨bv, av, hs1⟩ := hs.dk_open
  obtain ⟨ao, cap, rfl, hc, hc2, _, _⟩ := hs1.swap.rot3.vo_rd
  have k0 := hs1.cell (i := 0) (v := .slice ao D.bytes.length cap) rfl
  have k2 := hs1.cell (i := 2) (v := .int .i64 D.room) rfl
  have hb := hD.bytes
  have hr := hD.room
  clear hs hs1
  have HQ := Hid.mk' (show decide (D.fits n) = decide ((D.bytes.length : Int) + (n : Int) ≤ (D.room : Int)) from decide_eq_decide.2 (by unfold Dk.fits; omega))
  go_enter Tryd.func103, Tryd.ntmps103
  go_wp2
  go_quiet (fail)
  go_wp2
  go_ret
  exact ⟨congrArg _ (ret_bool HQ.out.symm), _, rfl⟩

set_option maxHeartbeats 1600000 in
theorem disk_fail {w0 w : World} {F : HP} {b : Nat} {D : Dk} (hs : Sat w0 w (F * dk b D)) (hD : D.Ok) (keep : Int) (h1 : -9223372036854775808 ≤ keep) (h2 : keep ≤ 9223372036854775807) :
    Calls Tryd.prog 122 #[.pointer (some ⟨b, 0, none⟩), .int .i64 keep] w (Ret fun v w' => v = .tuple #[] ∧ Sat w0 w' (F * dk b (D.fail keep))) := by
  obtain ⟨bv, av, hs1⟩ := hs.dk_open
  obtain ⟨ao, cap, rfl, hc, hc2, _, _⟩ := hs1.swap.rot3.vo_rd
  have k0 := hs1.cell (i := 0) (v := .slice ao D.bytes.length cap) rfl
  have k1 := hs1.cell (i := 1) (v := .int .i64 D.synced) rfl
  have hb := hD.bytes
  have hr := hD.room
  have hy := hD.synced
  go_enter Tryd.func122, Tryd.ntmps122
  go_wp2
  go_quiet (fail)
  go_wp2_with fail
  all_goals
    refine (disk_cut (hs.drewN nq) (D.kept keep) (Dk.kept_le hy keep) _ (by unfold Dk.kept; omega)).mono ?_
    rintro e w2 ⟨v, rfl, rfl, hs2⟩
    obtain ⟨bv2, av2, hs3⟩ := hs2.dk_open
    obtain ⟨ao2, cap2, rfl, hc3, hc4, _, _⟩ := hs3.swap.rot3.vo_rd
    have hle := Dk.kept_le hy keep
    have hlen : (D.bytes.take (D.kept keep)).length = D.kept keep := by rw [List.length_take]; omega
    have hs4 : Sat w0 w2 (F * vo 5 1 (.slice ao2 (D.kept keep) cap2) (D.kept keep) (bvs (D.fail keep).bytes) * vo 179 2 av2 D.arms.length (aks D.arms) * blk b [.slice ao2 (D.kept keep) cap2, .int .i64 D.synced, .int .i64 D.room, .bool D.dead, av2] 164) := by
      rw [← hlen]; exact hs3
    have HL := Hid.mk' (show (D.fail keep).bytes.length = D.kept keep from hlen)
    clear hs3 hlen k0 k1 hs2 hs1 hle
    have q0 := hs4.cell (i := 0) (v := .slice ao2 (D.kept keep) cap2) rfl
    have q1 := hs4.cell (i := 1) (v := .int .i64 D.synced) rfl
    have q3 := hs4.cell (i := 3) (v := .bool D.dead) rfl
    have p1 := hs4.free 1
    have p3 := hs4.free 3
    go_wp2
    go_end0
    refine Ret.mk ⟨rfl, ?_⟩
    refine Sat.dk_shut (D := D.fail keep) (bv := .slice ao2 (D.kept keep) cap2) (av := av2) ?_
    rw [HL.out]
    exact (hs4.store 1 (.int .i64 (D.kept keep))).store 3 (.bool true)

/-- One refusal lies where it should. -/
def ErrAt (w : World) (E : Nat → Addr) (k : Nat) : Prop := w.cell? ⟨gErr k, 0, none⟩ = some (.iface 203 (.pointer (some (E k))))
theorem ErrAt.of0 {w0 w : World} {E : Nat → Addr} {k : Nat} {A : HP} (h : ErrAt w0 E k) (hs : Sat w0 w A) : ErrAt w E k := (hs.below.cell (World.block_lt_of_cell? w0 _ h)).trans h
theorem Errs.at {w : World} {E : Nat → Addr} (h : Errs w E) (k : Nat) (h1 : 1 ≤ k) (h2 : k ≤ 13) : ErrAt w E k := h.cell k h1 h2

set_option maxHeartbeats 3200000 in
/-- The gate: 'L' is what the function that is handed in does. -/
theorem disk_gate' {w0 w : World} {F : HP} {b : Nat} {D : Dk} {E : Nat → Addr} (hE : ErrAt w0 E 10) (hs : Sat w0 w (F * dk b D)) (hD : D.Ok) (lf : FuncId) (caps : Array Value) (L : Dk → Dk) (hLo : ∀ D' : Dk, D'.Ok → (L D').Ok)
    (heg : ∀ args w, (callFunc lf args).run Tryd.prog w = .ok (.enter lf args) w)
    (hL : ∀ (D' : Dk) (w' : World), D'.Ok → Sat w0 w' (F * dk b D') → Calls Tryd.prog lf caps w' (Ret fun v w2 => v = .tuple #[] ∧ Sat w0 w2 (F * dk b (L D')))) :
    Calls Tryd.prog 104 #[.pointer (some ⟨b, 0, none⟩), .func (.func lf) #[] caps] w (Ret fun v w' => v = errv E (D.gate L).2 ∧ Sat w0 w' (F * dk b (D.gate L).1)) := by
  obtain ⟨bv, av, hs1⟩ := hs.dk_open
  obtain ⟨ao, cap, rfl, hc, hc2, _, _⟩ := hs1.swap.vo_rd
  have hHE := Hid.mk' hE
  have hHL := Hid.mk' hL
  clear hL hE
  have c10 : w.cell? ⟨gErr 10, 0, none⟩ = some (.iface 203 (.pointer (some (E 10)))) := hHE.out.of0 hs
  simp only [gErr] at c10
  have k3 := hs1.cell (i := 3) (v := .bool D.dead) rfl
  have k4 := hs1.cell (i := 4) (v := .slice ao D.arms.length cap) rfl
  cases hd : D.dead with
  | true =>
    have HG := Hid.mk' (show D.gate L = (D, 10) by unfold Dk.gate; rw [if_pos hd])
    rw [hd] at k3
    clear hd
    go_enter Tryd.func104, Tryd.ntmps104
    go_wp2
    go_ret
    exact Ret.mk (by rw [HG.out]; exact ⟨rfl, hs⟩)
  | false =>
    rw [hd] at k3
    cases ha : D.arms with
    | nil =>
      have HG := Hid.mk' (show D.gate L = (D, 0) by unfold Dk.gate; rw [if_neg (by rw [hd]; simp), ha])
      rw [ha] at k4
      clear hd ha
      go_enter Tryd.func104, Tryd.ntmps104
      go_wp2
      go_ret
      exact Ret.mk (by rw [HG.out]; exact ⟨rfl, hs⟩)
    | cons x r =>
      obtain ⟨k, keep⟩ := x
      rw [ha] at k4 hc hs1
      obtain ⟨ba, oa, _, e1, _, hc3, hcl, hfr, hst⟩ := hs1.swap.vo_cell (by simp)
      cases e1
      have a0 : w.cell? ⟨ba, oa, none⟩ = some (.int .i64 (k : Int)) := hcl 0 _ rfl
      have a1 : w.cell? ⟨ba, oa + 1, none⟩ = some (.int .i64 keep) := hcl 1 _ rfl
      have g0 : w.frozen? ⟨ba, oa, none⟩ = false := hfr 0
      have hok := hD.arms (k, keep) (by rw [ha]; exact List.mem_cons_self ..)
      rw [List.length_cons] at k4 hc
      have hl0 : ((r.length : Int) + 1 == 0) = false := beq_eq_false_iff_ne.2 (by omega)
      cases k with
      | succ k =>
        have HG := Hid.mk' (show D.gate L = ({ D with arms := (k, keep) :: r }, 0) by unfold Dk.gate; rw [if_neg (by rw [hd]; simp), ha])
        have a0' : w.cell? ⟨ba, oa, none⟩ = some (.int .i64 ((k : Int) + 1)) := a0
        have hst' := hst 0 (.int .i64 (k : Int)) (by rw [aks_length]; simp)
        clear hd ha hcl hfr hst a0
        have HST := Hid.mk' hst'
        clear hst'
        go_enter Tryd.func104, Tryd.ntmps104
        go_wp2
        go_ret
        refine Ret.mk ?_
        rw [HG.out]
        refine ⟨rfl, ?_⟩
        refine Sat.dk_shut (D := { D with arms := (k, keep) :: r }) (bv := bv) (av := .slice (some ⟨ba, oa, none⟩) ((k + 1, keep) :: r).length cap) ?_
        exact HST.out.swap
      | zero =>
        clear hcl hfr hst
        have a0' : w.cell? ⟨ba, oa, none⟩ = some (.int .i64 0) := a0
        clear a0
        have HG := Hid.mk' (show D.gate L = ((L { D with arms := r }).fail keep, 10) by unfold Dk.gate; rw [if_neg (by rw [hd]; simp), ha])
        have hok' : ({ D with arms := r } : Dk).Ok := ⟨hD.synced, hD.room, hD.bytes, fun x hx => hD.arms x (by rw [ha]; exact List.mem_cons_of_mem _ hx)⟩
        have hLk := hLo _ hok'
        have hE10 := Hid.mk' (fun (w' : World) (h : Sat w0 w' (F * dk b ((L { D with arms := r }).fail keep))) => show w'.cell? ⟨9, 0, none⟩ = some (errv E 10) from hHE.out.of0 h)
        have f4 := hs1.free 4
        have ht := Hid.mk' (show Sat w0 (w.setCell ⟨b, 4, none⟩ (.slice (some ⟨ba, if cap = 1 then oa else oa + 2, none⟩) r.length (cap - 1))) (F * dk b { D with arms := r }) from by
          have h1 := (hs1.store 4 (.slice (some ⟨ba, if cap = 1 then oa else oa + 2, none⟩) r.length (cap - 1))).swap.vo_tail (by simp) (by decide)
          refine Sat.dk_shut (D := { D with arms := r }) (bv := bv) (av := .slice (some ⟨ba, if cap = 1 then oa else oa + 2, none⟩) r.length (cap - 1)) ?_
          exact h1.swap)
        clear hd ha hs1
        by_cases hcap : cap = 1
        · subst hcap
          obtain rfl : r = [] := List.eq_nil_of_length_eq_zero (by omega)
          go_enter Tryd.func104, Tryd.ntmps104
          go_wp2_with fail
          refine (hHL.out { D with arms := [] } _ hok' ht.out).mono ?_
          rintro e w2 ⟨v, rfl, rfl, hs2⟩
          go_wp2_with fail
          refine (disk_fail hs2 hLk keep hok.2.1 hok.2.2).mono ?_
          rintro e w3 ⟨v, rfl, rfl, hs3⟩
          have c11 : w3.cell? ⟨9, 0, none⟩ = some (errv E 10) := hE10.out _ hs3
          simp only [errv] at c11
          go_wp2_with fail
          go_ret
          exact Ret.mk (by rw [HG.out]; exact ⟨rfl, hs3⟩)
        · have ht2 := ht.out
          rw [if_neg hcap] at ht2
          have HT2 := Hid.mk' ht2
          clear ht2 ht
          go_enter Tryd.func104, Tryd.ntmps104
          go_wp2_with fail
          refine (hHL.out { D with arms := r } _ hok' HT2.out).mono ?_
          rintro e w2 ⟨v, rfl, rfl, hs2⟩
          go_wp2_with fail
          refine (disk_fail hs2 hLk keep hok.2.1 hok.2.2).mono ?_
          rintro e w3 ⟨v, rfl, rfl, hs3⟩
          have c11 : w3.cell? ⟨9, 0, none⟩ = some (errv E 10) := hE10.out _ hs3
          simp only [errv] at c11
          go_wp2_with fail
          go_ret
          exact Ret.mk (by rw [HG.out]; exact ⟨rfl, hs3⟩)
theorem disk_gate {w0 w : World} {F : HP} {b : Nat} {D : Dk} {E : Nat → Addr} (hE : Errs w0 E) (hs : Sat w0 w (F * dk b D)) (hD : D.Ok) (lf : FuncId) (caps : Array Value) (L : Dk → Dk) (hLo : ∀ D' : Dk, D'.Ok → (L D').Ok)
    (heg : ∀ args w, (callFunc lf args).run Tryd.prog w = .ok (.enter lf args) w)
    (hL : ∀ (D' : Dk) (w' : World), D'.Ok → Sat w0 w' (F * dk b D') → Calls Tryd.prog lf caps w' (Ret fun v w2 => v = .tuple #[] ∧ Sat w0 w2 (F * dk b (L D')))) :
    Calls Tryd.prog 104 #[.pointer (some ⟨b, 0, none⟩), .func (.func lf) #[] caps] w (Ret fun v w' => v = errv E (D.gate L).2 ∧ Sat w0 w' (F * dk b (D.gate L).1)) :=
  disk_gate' (hE.at 10 (by decide) (by decide)) hs hD lf caps L hLo heg hL
end Go.Proofs.YtjhlelcopofkkaaDoor
