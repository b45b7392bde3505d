/- The program's disk: what its callers see. -/
import Derived.Test.YtjhlelcopofkkaaDoorDisk2
namespace Go.Proofs.YtjhlelcopofkkaaDoor
open Go.RowKit

set_option maxRecDepth 20000 in
set_option maxHeartbeats 3200000 in
theorem disk_append {w0 w : World} {F : HP} {b : Nat} {D : Dk} {E : Nat → Addr} (hE : Errs w0 E) (p : List UInt8) (ao : Option Addr) (c : Nat) (hc : p.length ≤ c) (hno : ao = none → p.length = 0 ∧ c = 0) (hn : p.length ≤ 140737488351232)
    (hp : ∀ w' A, Sat w0 w' (F * A) → Rd w' ao (bvs p)) (hD : D.Ok) (hs : Sat w0 w (F * dk b D)) :
    Calls Tryd.prog 45 #[.pointer (some ⟨b, 0, none⟩), .slice ao p.length c] w (Ret fun v w' => v = errv E (D.append p).2 ∧ Sat w0 w' (F * dk b (D.append p).1)) := by
  have HE := Hid.mk' hE
  have HP := Hid.mk' hp
  clear hE hp
  have hmf : ∀ (fn : Fn) (first cap : Array Value) (w : World), (Instr.makeFunc fn first cap).run Tryd.prog w = .ok (.func fn first cap) w := fun _ _ _ _ => rfl
  have hs1 := (hs.new #[.pointer (some ⟨b, 0, none⟩)] 74).new #[.slice ao p.length c] 22
  rw [World.size_alloc] at hs1
  have hcall := Tryd.call102
  obtain ⟨g, hg⟩ : ∃ g, D.gate (·.putp p) = g := ⟨_, rfl⟩
  have hgo := hD.gate (L := (·.putp p)) (fun D' h' => h'.putp p)
  have hgc := D.gate_cases (·.putp p)
  rw [hg] at hgo hgc
  obtain ⟨D1, k⟩ := g
  have HA := Hid.mk' (show D.append p = if k = 0 then (if D1.fits p.length then (D1.putp p, 0) else (D1, 9)) else (D1, k) by unfold Dk.append; rw [hg])
  simp only at hgo hgc
  have hs2 : Sat w0 ((w.alloc (.cells #[.pointer (some ⟨b, 0, none⟩)] 74)).alloc (.cells #[.slice ao p.length c] 22)) (F * blk w.heap.size [.pointer (some ⟨b, 0, none⟩)] 74 * blk (w.heap.size + 1) [.slice ao p.length c] 22 * dk b D) := hs1.perm (by ac_rfl)
  have HGA := Hid.mk' (disk_gate HE.out hs2 hD 102 #[.pointer (some ⟨w.heap.size, 0, none⟩), .pointer (some ⟨w.heap.size + 1, 0, none⟩)] (·.putp p) (fun D' h' => h'.putp p) hcall
    (fun D' w' hD' hs' => disk_put p ao c hc hno hn (fun w' A h => HP.out w' _ h) hD' hs'))
  rw [hg] at HGA
  have kd := hs2.rot3.cell (i := 0) (v := .pointer (some ⟨b, 0, none⟩)) rfl
  clear hs hs1 hg
  generalize hbw : w.heap.size = bw at *
  go_enter Tryd.func45, Tryd.ntmps45
  go_wp2_with fail
  refine HGA.out.mono ?_
  rintro e w2 ⟨v, rfl, rfl, hs3⟩
  have qd := hs3.rot3.cell (i := 0) (v := .pointer (some ⟨b, 0, none⟩)) rfl
  have qp := hs3.swap.cell (i := 0) (v := .slice ao p.length c) rfl
  rcases hgc with rfl | rfl
  · have hfit := Hid.mk' (disk_fits hs3 hgo p.length hn)
    by_cases hf : D1.fits p.length
    · rw [decide_eq_true hf] at hfit
      have HR := Hid.mk' (show D.append p = (D1.putp p, 0) by rw [HA.out, if_pos rfl, if_pos hf])
      have hput := Hid.mk' (fun m => disk_put p ao c hc hno hn (fun w' A h => HP.out w' _ h) hgo (hs3.drewN m))
      clear hf
      simp only [errv]
      go_wp2_with (first | (go_at_call 103; refine (hfit.out).mono ?_; rintro e w' ⟨rfl, m, rfl⟩) | (go_at_call 102; refine ((hput.out _)).mono ?_; rintro e w4 ⟨v, rfl, rfl, hs4⟩))
      go_ret
      exact Ret.mk (by rw [HR.out]; exact ⟨rfl, (hs4.perm (B := F * dk b (D1.putp p) * (blk bw [.pointer (some ⟨b, 0, none⟩)] 74 * blk (bw + 1) [.slice ao p.length c] 22)) (by ac_rfl)).drop⟩)
    · rw [decide_eq_false hf] at hfit
      have HR := Hid.mk' (show D.append p = (D1, 9) by rw [HA.out, if_pos rfl, if_neg hf])
      have c9 := Hid.mk' ((HE.out.of0 hs3).cell 9 (by omega) (by omega))
      clear hf
      simp only [errv]
      go_wp2_with (first | (go_at_call 103; refine (hfit.out).mono ?_; rintro e w' ⟨rfl, m, rfl⟩; have c9' := c9.out; simp only [gErr] at c9'))
      go_ret
      exact Ret.mk (by rw [HR.out]; exact ⟨rfl, ((hs3.drewN m).perm (B := F * dk b D1 * (blk bw [.pointer (some ⟨b, 0, none⟩)] 74 * blk (bw + 1) [.slice ao p.length c] 22)) (by ac_rfl)).drop⟩)
  · have HR := Hid.mk' (show D.append p = (D1, 10) by rw [HA.out, if_neg (by decide)])
    simp only [errv]
    go_wp2_with fail
    go_ret
    exact Ret.mk (by rw [HR.out]; exact ⟨rfl, (hs3.perm (B := F * dk b D1 * (blk bw [.pointer (some ⟨b, 0, none⟩)] 74 * blk (bw + 1) [.slice ao p.length c] 22)) (by ac_rfl)).drop⟩)

theorem disk_nothing {w : World} : Calls Tryd.prog 138 #[] w (Same (.tuple #[]) w) := by
  go_enter Tryd.func138, Tryd.ntmps138
  go_wp2_with fail
  go_end0
  exact ⟨rfl, rfl⟩
/-- The gate of an operation that does nothing more when it dies. -/
theorem disk_gate0 {w0 w : World} {F : HP} {b : Nat} {D : Dk} {E : Nat → Addr} (hE : ErrAt w0 E 10) (hs : Sat w0 w (F * dk b D)) (hD : D.Ok) :
    Calls Tryd.prog 104 #[.pointer (some ⟨b, 0, none⟩), .func (.func 138) #[] #[]] w (Ret fun v w' => v = errv E (D.gate id).2 ∧ Sat w0 w' (F * dk b (D.gate id).1)) :=
  disk_gate' hE hs hD 138 #[] id (fun _ h => h) Tryd.call138 (fun D' w' _ hs' => disk_nothing.mono fun e w'' ⟨he, hw⟩ => ⟨_, he, rfl, by rw [← hw]; exact hs'⟩)

set_option maxHeartbeats 3200000 in
theorem disk_sync' {w0 w : World} {F : HP} {b : Nat} {D : Dk} {E : Nat → Addr} (hE : ErrAt w0 E 10) (hD : D.Ok) (hs : Sat w0 w (F * dk b D)) :
    Calls Tryd.prog 107 #[.pointer (some ⟨b, 0, none⟩)] w (Ret fun v w' => v = errv E D.sync.2 ∧ Sat w0 w' (F * dk b D.sync.1)) := by
  obtain ⟨g, hg⟩ : ∃ g, D.gate id = g := ⟨_, rfl⟩
  have hgc := D.gate_cases id
  have HGA := Hid.mk' (disk_gate0 hE hs hD)
  rw [hg] at hgc HGA
  obtain ⟨D1, k⟩ := g
  have HA := Hid.mk' (show D.sync = if k = 0 then ({ D1 with synced := D1.bytes.length }, 0) else (D1, k) by unfold Dk.sync; rw [hg])
  simp only at hgc
  clear hg hE
  go_enter Tryd.func107, Tryd.ntmps107
  go_wp2_with fail
  refine HGA.out.mono ?_
  rintro e w2 ⟨v, rfl, rfl, hs3⟩
  rcases hgc with rfl | rfl
  · have HR := Hid.mk' (show D.sync = ({ D1 with synced := D1.bytes.length }, 0) from HA.out)
    clear HA
    obtain ⟨bv, av, hs4⟩ := hs3.dk_open
    obtain ⟨bo, cap, rfl, _, _, _, _⟩ := hs4.rot3.vo_rd
    have q0 := hs4.cell (i := 0) (v := .slice bo D1.bytes.length cap) rfl
    have q1 := hs4.cell (i := 1) (v := .int .i64 D1.synced) rfl
    have p1 := hs4.free 1
    simp only [errv]
    go_wp2_with fail
    go_ret
    exact Ret.mk (by rw [HR.out]; exact ⟨rfl, Sat.dk_shut (D := { D1 with synced := D1.bytes.length }) (bv := .slice bo D1.bytes.length cap) (av := av) (hs4.store 1 (.int .i64 D1.bytes.length))⟩)
  · have HR := Hid.mk' (show D.sync = (D1, 10) from HA.out)
    clear HA
    simp only [errv]
    go_wp2_with fail
    go_ret
    exact Ret.mk (by rw [HR.out]; exact ⟨rfl, hs3⟩)

set_option maxHeartbeats 3200000 in
theorem disk_readAll' {w0 w : World} {F : HP} {b : Nat} {D : Dk} {E : Nat → Addr} (hE : ErrAt w0 E 10) (hD : D.Ok) (hs : Sat w0 w (F * dk b D)) :
    Calls Tryd.prog 108 #[.pointer (some ⟨b, 0, none⟩)] w (Ret fun v w' => ∃ u, v = .tuple #[u, errv E (D.gate id).2] ∧
      Sat w0 w' (F * dk b (D.gate id).1 * vec 5 1 u (if (D.gate id).2 = 0 then (D.gate id).1.bytes else []).length (bvs (if (D.gate id).2 = 0 then (D.gate id).1.bytes else [])))) := by
  obtain ⟨g, hg⟩ : ∃ g, D.gate id = g := ⟨_, rfl⟩
  have hgc := D.gate_cases id
  have hgo := hD.gate (L := id) (fun _ h => h)
  have HGA := Hid.mk' (disk_gate0 hE hs hD)
  rw [hg] at hgc HGA hgo ⊢
  obtain ⟨D1, k⟩ := g
  simp only at hgc hgo ⊢
  clear hg hE
  go_enter Tryd.func108, Tryd.ntmps108
  go_wp2_with fail
  refine HGA.out.mono ?_
  rintro e w2 ⟨v, rfl, rfl, hs3⟩
  rcases hgc with rfl | rfl
  · obtain ⟨bv, av, hs4⟩ := hs3.dk_open
    obtain ⟨bo, cap, rfl, _, _, hrd, _⟩ := hs4.rot3.vo_rd
    have q0 := hs4.cell (i := 0) (v := .slice bo D1.bytes.length cap) rfl
    have HF := Hid.mk' (disk_fresh D1.bytes bo cap hrd hgo.bytes)
    clear hrd
    simp only [errv]
    go_wp2_with (go_at_call 99; refine HF.out.mono ?_; rintro e w3 ⟨v, rfl, hx⟩)
    go_ret2
    refine Ret.mk ⟨_, rfl, ?_⟩
    exact hs3.glue hx
  · simp only [errv]
    go_wp2_with fail
    go_ret2
    refine Ret.mk ⟨_, rfl, ?_⟩
    exact hs3.vec_nil _ _

set_option maxHeartbeats 6400000 in
theorem disk_truncate' {w0 w : World} {F : HP} {b : Nat} {D : Dk} {E : Nat → Addr} (hE1 : ErrAt w0 E 1) (hE : ErrAt w0 E 10) (hD : D.Ok) (hs : Sat w0 w (F * dk b D)) (n : Int) :
    Calls Tryd.prog 109 #[.pointer (some ⟨b, 0, none⟩), .int .i64 n] w (Ret fun v w' => v = errv E (D.trunc n).2 ∧ Sat w0 w' (F * dk b (D.trunc n).1)) := by
  have HE := Hid.mk' hE1
  obtain ⟨bv, av, hs1⟩ := hs.dk_open
  obtain ⟨bo, cap, rfl, _, _, _, _⟩ := hs1.rot3.vo_rd
  have k0 := hs1.cell (i := 0) (v := .slice bo D.bytes.length cap) rfl
  have k3 := hs1.cell (i := 3) (v := .bool D.dead) rfl
  by_cases hbad : D.dead = false ∧ (n < 0 ∨ (D.bytes.length : Int) < n)
  · have HR := Hid.mk' (show D.trunc n = (D, 1) from if_pos hbad)
    have c1 : w.cell? ⟨gErr 1, 0, none⟩ = some (.iface 203 (.pointer (some (E 1)))) := HE.out.of0 hs
    simp only [gErr] at c1
    obtain ⟨hd, hn⟩ := hbad
    rw [hd] at k3
    clear hd hE hE1 hs1
    by_cases hn0 : n < 0
    · clear hn
      go_enter Tryd.func109, Tryd.ntmps109
      go_wp2_with fail
      go_ret
      exact Ret.mk (by rw [HR.out]; exact ⟨rfl, hs⟩)
    · have hn1 : (D.bytes.length : Int) < n := by omega
      clear hn
      go_enter Tryd.func109, Tryd.ntmps109
      go_wp2_with fail
      go_ret
      exact Ret.mk (by rw [HR.out]; exact ⟨rfl, hs⟩)
  · obtain ⟨g, hg⟩ : ∃ g, D.gate id = g := ⟨_, rfl⟩
    have hgc := D.gate_cases id
    have hgo := hD.gate (L := id) (fun _ h => h)
    have HGA := Hid.mk' (disk_gate0 hE hs hD)
    have hfar : (D.gate id).2 = 0 → D.dead = false ∧ 0 ≤ n ∧ n ≤ (D.gate id).1.bytes.length := by
      intro h
      have hdd : D.dead = false := by
        cases hd : D.dead with
        | false => rfl
        | true => unfold Dk.gate at h; rw [if_pos hd] at h; cases h
      have hb : (D.gate id).1.bytes = D.bytes := by
        unfold Dk.gate at h ⊢
        rw [if_neg (by rw [hdd]; simp)] at h ⊢
        split at h
        · rfl
        · rfl
        · cases h
      rw [hb]
      exact ⟨hdd, Int.not_lt.1 (fun h => hbad ⟨hdd, Or.inl h⟩), Int.not_lt.1 (fun h => hbad ⟨hdd, Or.inr h⟩)⟩
    rw [hg] at hgc HGA hgo hfar
    obtain ⟨D1, k⟩ := g
    have HA := Hid.mk' (show D.trunc n = if k = 0 then ({ D1 with bytes := D1.bytes.take n.toNat, synced := min D1.synced n.toNat }, 0) else (D1, k) by unfold Dk.trunc; rw [if_neg hbad, hg])
    simp only at hgc hgo hfar
    clear hg hE hE1
    cases hd : D.dead with
    | true =>
      rw [hd] at k3
      rcases hgc with rfl | rfl
      · have := (hfar rfl).1
        rw [hd] at this
        cases this
      · have HR := Hid.mk' (show D.trunc n = (D1, 10) from HA.out)
        clear HA hfar hbad hd
        go_enter Tryd.func109, Tryd.ntmps109
        go_wp2_with (go_at_call 104; refine HGA.out.mono ?_; rintro e w2 ⟨v, rfl, rfl, hs3⟩; simp only [errv])
        go_ret
        exact Ret.mk (by rw [HR.out]; exact ⟨rfl, hs3⟩)
    | false =>
      rw [hd] at k3
      have h0 : ¬ n < 0 := by
        intro h
        exact hbad ⟨hd, Or.inl h⟩
      have h1 : ¬ (D.bytes.length : Int) < n := by
        intro h
        exact hbad ⟨hd, Or.inr h⟩
      obtain ⟨m, rfl⟩ : ∃ m : Nat, n = (m : Int) := ⟨n.toNat, by omega⟩
      rw [Int.toNat_natCast] at HA
      rcases hgc with rfl | rfl
      · have HR := Hid.mk' (show D.trunc m = ({ D1 with bytes := D1.bytes.take m, synced := min D1.synced m }, 0) from HA.out)
        have hm := (hfar rfl).2.2
        clear HA hfar hbad hd
        go_enter Tryd.func109, Tryd.ntmps109
        go_wp2_with (first | (go_at_call 104; refine HGA.out.mono ?_; rintro e w2 ⟨v, rfl, rfl, hs3⟩; simp only [errv]) | (go_at_call 139; refine (disk_cut hs3 m (by omega) _ rfl).mono ?_; rintro e w4 ⟨v, rfl, rfl, hs4⟩; obtain ⟨bv5, av5, hs5⟩ := hs4.dk_open; have q1 := hs5.cell (i := 1) (v := .int .i64 D1.synced) rfl; have p1 := hs5.free 1))
        all_goals
          go_ret
          refine Ret.mk ?_
          rw [HR.out]
          refine ⟨rfl, Sat.dk_shut (D := { D1 with bytes := D1.bytes.take m, synced := min D1.synced m }) (bv := bv5) (av := av5) ?_⟩
          first
            | (rw [show min D1.synced m = m by omega]; exact hs5.store 1 (.int .i64 m))
            | (rw [show min D1.synced m = D1.synced by omega]; exact hs5.store 1 (.int .i64 D1.synced))
      · have HR := Hid.mk' (show D.trunc m = (D1, 10) from HA.out)
        clear HA hfar hbad hd
        go_enter Tryd.func109, Tryd.ntmps109
        go_wp2_with (go_at_call 104; refine HGA.out.mono ?_; rintro e w2 ⟨v, rfl, rfl, hs3⟩; simp only [errv])
        go_ret
        exact Ret.mk (by rw [HR.out]; exact ⟨rfl, hs3⟩)
section
variable {w0 w : World} {F : HP} {b : Nat} {D : Dk} {E : Nat → Addr}
theorem disk_sync (hE : Errs w0 E) (hD : D.Ok) (hs : Sat w0 w (F * dk b D)) :
    Calls Tryd.prog 107 #[.pointer (some ⟨b, 0, none⟩)] w (Ret fun v w' => v = errv E D.sync.2 ∧ Sat w0 w' (F * dk b D.sync.1)) := disk_sync' (hE.at 10 (by decide) (by decide)) hD hs
theorem disk_readAll (hE : Errs w0 E) (hD : D.Ok) (hs : Sat w0 w (F * dk b D)) :
    Calls Tryd.prog 108 #[.pointer (some ⟨b, 0, none⟩)] w (Ret fun v w' => ∃ u, v = .tuple #[u, errv E (D.gate id).2] ∧
      Sat w0 w' (F * dk b (D.gate id).1 * vec 5 1 u (if (D.gate id).2 = 0 then (D.gate id).1.bytes else []).length (bvs (if (D.gate id).2 = 0 then (D.gate id).1.bytes else [])))) := disk_readAll' (hE.at 10 (by decide) (by decide)) hD hs
theorem disk_truncate (hE : Errs w0 E) (hD : D.Ok) (hs : Sat w0 w (F * dk b D)) (n : Int) :
    Calls Tryd.prog 109 #[.pointer (some ⟨b, 0, none⟩), .int .i64 n] w (Ret fun v w' => v = errv E (D.trunc n).2 ∧ Sat w0 w' (F * dk b (D.trunc n).1)) := disk_truncate' (hE.at 1 (by decide) (by decide)) (hE.at 10 (by decide) (by decide)) hD hs n
end
end Go.Proofs.YtjhlelcopofkkaaDoor
