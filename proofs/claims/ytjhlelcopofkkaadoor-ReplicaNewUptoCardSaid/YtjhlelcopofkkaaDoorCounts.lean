/- The walk of the law DiskArmed. -/
import Derived.Test.YtjhlelcopofkkaaDoorDLaw
import Derived.Test.YtjhlelcopofkkaaDoorDiskLookFreeW
namespace Go.Proofs.YtjhlelcopofkkaaDoor
open Go.RowKit

theorem law12_actLook {w0 w : World} {F : HP} {b : Nat} {D : Dk} {E : Nat → Addr} (hE : Errs w0 E) (hD : D.Ok) (hm : D.arms.length < 8796093022207) (hs : Sat w0 w (F * dk b D)) :
    Calls Tryd.prog 47 #[.pointer (some ⟨b, 0, none⟩), Stp.looks.val] w (Ret fun v w' => ∃ (a : Option Addr) (c : Nat), D.bytes.length ≤ c ∧ v = .agg #[.slice a D.bytes.length c, .int .i64 D.synced, .int .i64 0] ∧
      Sat w0 w' (F * dk b D * vec 5 1 (.slice a D.bytes.length c) D.bytes.length (bvs D.bytes))) := law12_act' hE hD Stp.looks Stp.looks_ok hm hs
theorem law12_sameLook {w : World} (l : List UInt8) (n : Nat) (a1 a2 : Option Addr) (c1 c2 : Nat) (h1 : Rd w a1 (bvs l)) (h2 : Rd w a2 (bvs l)) (hl : l.length ≤ 140737488351232) :
    Calls Tryd.prog 48 #[.agg #[.slice a1 l.length c1, .int .i64 n, .int .i64 0], .agg #[.slice a2 l.length c2, .int .i64 n, .int .i64 0]] w (Ret fun v w' => v = .bool true ∧ Sat w w' 1) :=
  law12_same_true ⟨l, n, 0⟩ a1 a2 c1 c2 h1 h2 hl

theorem law12_roomy {w : World} (z : Int) : Calls Tryd.prog 55 #[.int .i64 z] w (Same (.int .i64 ((Dk.new [] z).room : Nat)) w) := by
  have HR := Hid.mk' (show ((Dk.new [] z).room : Int) = min (max z 0) 1073741824 by show (((min (max z 0) 1073741824).toNat : Nat) : Int) = _; omega)
  by_cases h1 : z < 0
  · go_enter Tryd.func55, Tryd.ntmps55
    go_wp2_with fail
    go_ret
    exact ⟨congrArg _ (ret_int (by rw [HR.out]; omega)), rfl⟩
  · by_cases h2 : 1073741824 < z
    · go_enter Tryd.func55, Tryd.ntmps55
      go_wp2_with fail
      go_ret
      exact ⟨congrArg _ (ret_int (by rw [HR.out]; omega)), rfl⟩
    · go_enter Tryd.func55, Tryd.ntmps55
      go_wp2_with fail
      go_ret
      exact ⟨congrArg _ (ret_int (by rw [HR.out]; omega)), rfl⟩

theorem law12_operation {w : World} (s : Stp) : Calls Tryd.prog 118 #[.agg #[.int .i64 s.kind, .int .i64 s.on, .int .i64 s.n, .int .i64 s.m, .string s.data]] w (Ret fun v w' => v = .bool (decide (1 ≤ s.kind ∧ s.kind ≤ 4)) ∧ Sat w w' 1) := by
  obtain ⟨K, O, N, M, DT⟩ := s
  show Calls Tryd.prog 118 #[.agg #[.int .i64 K, .int .i64 O, .int .i64 N, .int .i64 M, .string DT]] w (Ret fun v w' => v = .bool (decide (1 ≤ K ∧ K ≤ 4)) ∧ Sat w w' 1)
  have hs := (Sat.refl w).new #[.int .i64 K, .int .i64 O, .int .i64 N, .int .i64 M, .string DT] 83
  have HS := Hid.mk' hs.drop
  clear hs
  by_cases h1 : 1 ≤ K
  · have b1 : decide (1 ≤ K) = true := decide_eq_true h1
    by_cases h2 : K ≤ 4
    · have b2 : decide (K ≤ 4) = true := decide_eq_true h2
      have HQ := Hid.mk' (show decide (1 ≤ K ∧ K ≤ 4) = true from decide_eq_true ⟨h1, h2⟩)
      go_enter Tryd.func118, Tryd.ntmps118
      go_wp2_with fail
      go_ret
      exact Ret.mk ⟨by first | (rw [HQ.out]; rfl) | rfl, HS.out⟩
    · have b2 : decide (K ≤ 4) = false := decide_eq_false h2
      have HQ := Hid.mk' (show decide (1 ≤ K ∧ K ≤ 4) = false from decide_eq_false (fun h => h2 h.2))
      go_enter Tryd.func118, Tryd.ntmps118
      go_wp2_with fail
      go_ret
      exact Ret.mk ⟨by first | (rw [HQ.out]; rfl) | rfl, HS.out⟩
  · have b1 : decide (1 ≤ K) = false := decide_eq_false h1
    have HQ := Hid.mk' (show decide (1 ≤ K ∧ K ≤ 4) = false from decide_eq_false (fun h => h1 h.1))
    go_enter Tryd.func118, Tryd.ntmps118
    go_wp2_with fail
    go_ret
    exact Ret.mk ⟨by first | (rw [HQ.out]; rfl) | rfl, HS.out⟩

set_option maxRecDepth 20000 in
set_option maxHeartbeats 6400000 in
theorem law12_counts {w0 w : World} {F : HP} {b : Nat} {D : Dk} {E : Nat → Addr} (hE : Errs w0 E) (hD : D.Ok) (hm : D.arms.length < 8796093022207) (s : Stp) (hs : Sat w0 w (F * dk b D)) :
    Calls Tryd.prog 59 #[.pointer (some ⟨b, 0, none⟩), .agg #[.int .i64 s.kind, .int .i64 s.on, .int .i64 s.n, .int .i64 s.m, .string s.data]] w (Ret fun v w' => v = .bool (D.counts s) ∧ Sat w0 w' (F * dk b D)) := by
  obtain ⟨K, O, N, M, DT⟩ := s
  show Calls Tryd.prog 59 #[.pointer (some ⟨b, 0, none⟩), .agg #[.int .i64 K, .int .i64 O, .int .i64 N, .int .i64 M, .string DT]] w _
  have hT := (hs.new #[.int .i64 K, .int .i64 O, .int .i64 N, .int .i64 M, .string DT] 83).swap
  have HD := Hid.mk' (disk_dead hT)
  have HO := Hid.mk' (fun w => law12_operation (w := w) (⟨K, O, N, M, DT⟩ : Stp))
  generalize hbt : w.heap.size = bt at hT
  clear hs
  have hfl0 : ∀ (x y z : Value) (w : World), (Instr.field 87 (.agg #[x, y, z]) 0).run Tryd.prog w = .ok x w := fun _ _ _ _ => by kernel_rfl
  have hfl2 : ∀ (x y z : Value) (w : World), (Instr.field 87 (.agg #[x, y, z]) 2).run Tryd.prog w = .ok z w := fun _ _ _ _ => by kernel_rfl
  cases hd : D.dead with
  | true =>
    have HQ := Hid.mk' (show D.counts (⟨K, O, N, M, DT⟩ : Stp) = false by unfold Dk.counts; rw [hd]; rfl)
    rw [hd] at HD
    clear hd
    have HT := Hid.mk' hT.swap.drop
    clear hT
    go_enter Tryd.func59, Tryd.ntmps59
    go_wp2_with (go_at_call 53; refine HD.out.mono ?_; rintro e v5 ⟨rfl, rfl⟩)
    go_ret
    exact Ret.mk ⟨by rw [HQ.out]; rfl, HT.out⟩
  | false =>
    rw [hd] at HD
    by_cases hop : 1 ≤ K ∧ K ≤ 4
    · have HO' := Hid.mk' (fun w => by have := HO.out w; rw [decide_eq_true (show 1 ≤ (⟨K, O, N, M, DT⟩ : Stp).kind ∧ (⟨K, O, N, M, DT⟩ : Stp).kind ≤ 4 from hop)] at this; exact this)
      clear HO
      by_cases h4 : K = 4
      · subst h4
        have HQ := Hid.mk' (show D.counts ⟨4, O, N, M, DT⟩ = decide (0 ≤ N ∧ N ≤ D.bytes.length) by unfold Dk.counts; rw [hd]; rfl)
        clear hd hop
        by_cases hn0 : 0 ≤ N
        · have b1 : decide (0 ≤ N) = true := decide_eq_true hn0
          by_cases hn1 : N ≤ D.bytes.length
          · have b2 : decide (N ≤ (D.bytes.length : Int)) = true := decide_eq_true hn1
            rw [decide_eq_true ⟨hn0, hn1⟩] at HQ
            go_enter Tryd.func59, Tryd.ntmps59
            go_wp2_with (first | (go_at_call 53; refine HD.out.mono ?_; rintro e v5 ⟨rfl, rfl⟩) | (go_at_call 118; refine (HO'.out _).mono ?_; rintro e v6 ⟨v, rfl, rfl, hx⟩; have hT1 := hT.then1 hx; have q0 := hT1.swap.cell (i := 0) (v := .int .i64 4) rfl) | (go_at_call 50; refine law12_look.mono ?_; rintro e v7 ⟨v, rfl, rfl, hy⟩; have hT2 := hT1.then1 hy) | (go_at_call 47; refine (law12_actLook hE hD hm hT2).mono ?_; rintro e v8 ⟨v, rfl, la, lc, hlc, rfl, hz⟩; have hT3 := hz.drop; have r0 := hT3.swap.cell (i := 0) (v := .int .i64 4) rfl; have r2 := hT3.swap.cell (i := 2) (v := .int .i64 N) rfl))
            go_ret
            exact Ret.mk ⟨by rw [HQ.out]; rfl, hT3.swap.drop⟩
          · have b2 : decide (N ≤ (D.bytes.length : Int)) = false := decide_eq_false hn1
            rw [decide_eq_false (fun h => hn1 h.2)] at HQ
            go_enter Tryd.func59, Tryd.ntmps59
            go_wp2_with (first | (go_at_call 53; refine HD.out.mono ?_; rintro e v5 ⟨rfl, rfl⟩) | (go_at_call 118; refine (HO'.out _).mono ?_; rintro e v6 ⟨v, rfl, rfl, hx⟩; have hT1 := hT.then1 hx; have q0 := hT1.swap.cell (i := 0) (v := .int .i64 4) rfl) | (go_at_call 50; refine law12_look.mono ?_; rintro e v7 ⟨v, rfl, rfl, hy⟩; have hT2 := hT1.then1 hy) | (go_at_call 47; refine (law12_actLook hE hD hm hT2).mono ?_; rintro e v8 ⟨v, rfl, la, lc, hlc, rfl, hz⟩; have hT3 := hz.drop; have r0 := hT3.swap.cell (i := 0) (v := .int .i64 4) rfl; have r2 := hT3.swap.cell (i := 2) (v := .int .i64 N) rfl))
            go_ret
            exact Ret.mk ⟨by rw [HQ.out]; rfl, hT3.swap.drop⟩
        · have b1 : decide (0 ≤ N) = false := decide_eq_false hn0
          rw [decide_eq_false (fun h => hn0 h.1)] at HQ
          go_enter Tryd.func59, Tryd.ntmps59
          go_wp2_with (first | (go_at_call 53; refine HD.out.mono ?_; rintro e v5 ⟨rfl, rfl⟩) | (go_at_call 118; refine (HO'.out _).mono ?_; rintro e v6 ⟨v, rfl, rfl, hx⟩; have hT1 := hT.then1 hx; have q0 := hT1.swap.cell (i := 0) (v := .int .i64 4) rfl) | (go_at_call 50; refine law12_look.mono ?_; rintro e v7 ⟨v, rfl, rfl, hy⟩; have hT2 := hT1.then1 hy) | (go_at_call 47; refine (law12_actLook hE hD hm hT2).mono ?_; rintro e v8 ⟨v, rfl, la, lc, hlc, rfl, hz⟩; have hT3 := hz.drop; have r0 := hT3.swap.cell (i := 0) (v := .int .i64 4) rfl; have r2 := hT3.swap.cell (i := 2) (v := .int .i64 N) rfl))
          go_ret
          exact Ret.mk ⟨by rw [HQ.out]; rfl, hT3.swap.drop⟩
      · have HQ := Hid.mk' (show D.counts (⟨K, O, N, M, DT⟩ : Stp) = true by
          unfold Dk.counts
          rw [hd, decide_eq_true (show 1 ≤ (⟨K, O, N, M, DT⟩ : Stp).kind ∧ (⟨K, O, N, M, DT⟩ : Stp).kind ≤ 4 from hop), decide_eq_true (show (⟨K, O, N, M, DT⟩ : Stp).kind ≠ 4 from h4)]
          rfl)
        have h4b : (K != 4) = true := bne_iff_ne.2 h4
        clear hd hop h4
        go_enter Tryd.func59, Tryd.ntmps59
        go_wp2_with (first | (go_at_call 53; refine HD.out.mono ?_; rintro e v5 ⟨rfl, rfl⟩) | (go_at_call 118; refine (HO'.out _).mono ?_; rintro e v6 ⟨v, rfl, rfl, hx⟩; have hT1 := hT.then1 hx; have q0 := hT1.swap.cell (i := 0) (v := .int .i64 K) rfl) | (go_at_call 50; refine law12_look.mono ?_; rintro e v7 ⟨v, rfl, rfl, hy⟩; have hT2 := hT1.then1 hy) | (go_at_call 47; refine (law12_actLook hE hD hm hT2).mono ?_; rintro e v8 ⟨v, rfl, la, lc, hlc, rfl, hz⟩; have hT3 := hz.drop; have r0 := hT3.swap.cell (i := 0) (v := .int .i64 K) rfl; have r2 := hT3.swap.cell (i := 2) (v := .int .i64 N) rfl))
        go_ret
        exact Ret.mk ⟨by rw [HQ.out]; rfl, hT3.swap.drop⟩
    · have HO' := Hid.mk' (fun w => by have := HO.out w; rw [decide_eq_false (show ¬ (1 ≤ (⟨K, O, N, M, DT⟩ : Stp).kind ∧ (⟨K, O, N, M, DT⟩ : Stp).kind ≤ 4) from hop)] at this; exact this)
      have HQ := Hid.mk' (show D.counts (⟨K, O, N, M, DT⟩ : Stp) = false by
        unfold Dk.counts
        rw [hd, decide_eq_false (show ¬ (1 ≤ (⟨K, O, N, M, DT⟩ : Stp).kind ∧ (⟨K, O, N, M, DT⟩ : Stp).kind ≤ 4) from hop)]
        rfl)
      have HT := Hid.mk' hT.swap.drop
      clear hd hop HO hT
      go_enter Tryd.func59, Tryd.ntmps59
      go_wp2_with (first | (go_at_call 53; refine HD.out.mono ?_; rintro e v5 ⟨rfl, rfl⟩) | (go_at_call 118; refine (HO'.out _).mono ?_; rintro e v6 ⟨v, rfl, rfl, hx⟩))
      go_ret
      exact Ret.mk ⟨by rw [HQ.out]; rfl, HT.out.then1 hx⟩

set_option maxRecDepth 20000 in
set_option maxHeartbeats 6400000 in
theorem law12_cut {w0 w : World} {F : HP} {b : Nat} {D : Dk} {E : Nat → Addr} (hE : Errs w0 E) (hD : D.Ok) (ha : D.arms = []) (hd : D.dead = false) (s : Stp) (hS : s.Ok) (keep : Int) (hk1 : -9223372036854775808 ≤ keep) (hk2 : keep ≤ 9223372036854775807) (hs : Sat w0 w (F * dk b D)) :
    Calls Tryd.prog 60 #[.pointer (some ⟨b, 0, none⟩), .agg #[.int .i64 s.kind, .int .i64 s.on, .int .i64 s.n, .int .i64 s.m, .string s.data], .int .i64 D.room, .int .i64 keep] w (Ret fun v w' => v = .bool true ∧ Sat w0 w' (F * dk b (D.cutB s keep))) := by
  obtain ⟨K, O, N, M, DT⟩ := s
  show Calls Tryd.prog 60 #[.pointer (some ⟨b, 0, none⟩), .agg #[.int .i64 K, .int .i64 O, .int .i64 N, .int .i64 M, .string DT], .int .i64 D.room, .int .i64 keep] w _
  have hT := (hs.new #[.int .i64 K, .int .i64 O, .int .i64 N, .int .i64 M, .string DT] 83).swap
  have hm : D.arms.length < 8796093022207 := by rw [ha]; decide
  have hby := hD.bytes
  have hro := hD.room
  have hdz : DT.size ≤ 140737488351232 := hS.data
  generalize hbt : w.heap.size = bt at hT
  clear hs
  have hcr : ∀ D' : Dk, D'.dead = false → D'.crash keep = D'.fail keep := fun D' h => if_neg (by rw [h]; simp)
  have hfl0 : ∀ (x y z : Value) (w : World), (Instr.field 87 (.agg #[x, y, z]) 0).run Tryd.prog w = .ok x w := fun _ _ _ _ => by kernel_rfl
  have hfl2 : ∀ (x y z : Value) (w : World), (Instr.field 87 (.agg #[x, y, z]) 2).run Tryd.prog w = .ok z w := fun _ _ _ _ => by kernel_rfl
  by_cases h1 : K = 1
  · subst h1
    by_cases hf : D.fits DT.data.toList.length
    · have hlen : D.bytes.length + DT.size ≤ D.room := hf
      have hw : IntKind.i64.wrap ((D.bytes.length : Int) + (DT.size : Int)) = (D.bytes.length : Int) + (DT.size : Int) := by rw [IntKind.wrap_i64]; omega
      have b1 : decide ((D.bytes.length : Int) + (DT.size : Int) ≤ (D.room : Int)) = true := decide_eq_true (by omega)
      have HQ := Hid.mk' (show D.cutB ⟨1, O, N, M, DT⟩ keep = (D.putp DT.data.toList).fail keep from rfl)
      have HAC := Hid.mk' (show D.act ⟨1, O, N, M, DT⟩ = (⟨[], 0, 0⟩, D.putp DT.data.toList) by rw [Dk.act1 _ rfl, Dk.append_none ha, if_neg (by rw [hd]; simp), if_pos hf])
      have hpo := hD.putp DT.data.toList
      have hpd : (D.putp DT.data.toList).dead = false := by unfold Dk.putp; rw [if_pos hf]; exact hd
      have HCR := Hid.mk' (hcr _ hpd)
      clear hcr hpd hd
      go_enter Tryd.func60, Tryd.ntmps60
      go_wp2_with fail
      go_region_held3 (fun wr => wr.cell? ⟨bt, 0, none⟩ = some (.int .i64 1) ∧ wr.cell? ⟨bt, 4, none⟩ = some (.string DT)) (first | exact ⟨hT.swap.cell rfl, hT.swap.cell rfl⟩ | exact ⟨hT1.swap.cell rfl, hT1.swap.cell rfl⟩ | exact ⟨hT2.swap.cell rfl, hT2.swap.cell rfl⟩)
        (first | (go_at_call 47; refine (law12_actLook hE hD hm hT1).mono ?_; rintro e v8 ⟨v, rfl, la, lc, hlc, rfl, hz⟩; have hT2 := hz.drop) | (go_at_call 50; refine law12_look.mono ?_; rintro e v7 ⟨v, rfl, rfl, hy⟩; have hT1 := (hT.drewN 1).then1 hy))
      have q0 := hT2.swap.cell (i := 0) (v := .int .i64 1) rfl
      have q1 := hT2.swap.cell (i := 1) (v := .int .i64 O) rfl
      have q2 := hT2.swap.cell (i := 2) (v := .int .i64 N) rfl
      have q3 := hT2.swap.cell (i := 3) (v := .int .i64 M) rfl
      have q4 := hT2.swap.cell (i := 4) (v := .string DT) rfl
      clear hT hT1 hz
      go_wp2_with fail
      refine (law12_act' hE hD ⟨1, O, N, M, DT⟩ hS hm hT2).mono ?_
      rintro e v9 ⟨v, rfl, ma, mc, hmc, rfl, hu⟩
      rw [HAC.out] at hu ⊢
      have hT3 := hu.drop
      clear hu hT2 q0 q1 q2 q3 q4
      go_wp2_with (go_at_call 62; refine (disk_crash hT3 hpo keep hk1 hk2).mono ?_; rintro e va ⟨v, rfl, rfl, hT4⟩)
      go_ret
      exact Ret.mk ⟨rfl, by rw [HQ.out, ← HCR.out]; exact hT4.swap.drop⟩
    · have hlen : ¬ D.bytes.length + DT.size ≤ D.room := hf
      have hw : IntKind.i64.wrap ((D.bytes.length : Int) + (DT.size : Int)) = (D.bytes.length : Int) + (DT.size : Int) := by rw [IntKind.wrap_i64]; omega
      have b1 : decide ((D.bytes.length : Int) + (DT.size : Int) ≤ (D.room : Int)) = false := decide_eq_false (by omega)
      have HQ := Hid.mk' (show D.cutB ⟨1, O, N, M, DT⟩ keep = D.crash keep by
        rw [hcr D hd]
        show (D.putp DT.data.toList).fail keep = _
        unfold Dk.putp
        rw [if_neg hf])
      clear hcr hd
      go_enter Tryd.func60, Tryd.ntmps60
      go_wp2_with fail
      go_region_held3 (fun wr => wr.cell? ⟨bt, 0, none⟩ = some (.int .i64 1) ∧ wr.cell? ⟨bt, 4, none⟩ = some (.string DT)) (first | exact ⟨hT.swap.cell rfl, hT.swap.cell rfl⟩ | exact ⟨hT1.swap.cell rfl, hT1.swap.cell rfl⟩ | exact ⟨hT2.swap.cell rfl, hT2.swap.cell rfl⟩)
        (first | (go_at_call 47; refine (law12_actLook hE hD hm hT1).mono ?_; rintro e v8 ⟨v, rfl, la, lc, hlc, rfl, hz⟩; have hT2 := hz.drop) | (go_at_call 50; refine law12_look.mono ?_; rintro e v7 ⟨v, rfl, rfl, hy⟩; have hT1 := (hT.drewN 1).then1 hy))
      clear hT hT1 hz
      go_wp2_with (go_at_call 62; refine (disk_crash hT2 hD keep hk1 hk2).mono ?_; rintro e va ⟨v, rfl, rfl, hT4⟩)
      go_ret
      exact Ret.mk ⟨rfl, by rw [HQ.out]; exact hT4.swap.drop⟩
  · have h1b : (K == 1) = false := beq_eq_false_iff_ne.2 h1
    have HQ := Hid.mk' (show D.cutB (⟨K, O, N, M, DT⟩ : Stp) keep = D.crash keep by
      rw [hcr D hd]
      unfold Dk.cutB
      rw [if_neg (show ¬ (⟨K, O, N, M, DT⟩ : Stp).kind = 1 from h1)])
    have q0 := hT.swap.cell (i := 0) (v := .int .i64 K) rfl
    clear hcr hd h1
    go_enter Tryd.func60, Tryd.ntmps60
    go_wp2_with fail
    go_quiet (fail)
    have hT2 := hT.drewN nq
    clear hT q0
    go_wp2_with (go_at_call 62; refine (disk_crash hT2 hD keep hk1 hk2).mono ?_; rintro e va ⟨v, rfl, rfl, hT4⟩)
    go_ret
    exact Ret.mk ⟨rfl, by rw [HQ.out]; exact hT4.swap.drop⟩
end Go.Proofs.YtjhlelcopofkkaaDoor
