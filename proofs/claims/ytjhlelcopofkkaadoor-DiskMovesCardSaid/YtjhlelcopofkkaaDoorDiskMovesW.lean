/- The walk of the law DiskMoves. -/
import Derived.Test.YtjhlelcopofkkaaDoorMovesB
import Derived.Test.YtjhlelcopofkkaaDoorMovesC
import Derived.Test.YtjhlelcopofkkaaDoorMovesD
import Derived.Test.YtjhlelcopofkkaaDoorMovesE
namespace Go.Proofs.YtjhlelcopofkkaaDoor
open Go.RowKit

theorem moves_to {f : Nat} {args : Array Value} {w : World} {a c : Int} {P : World → Prop} (h : Calls Tryd.prog f args w (Ret fun v w' => v = .tuple #[.bool true, .int .i64 a] ∧ P w')) (e : a = c) : Calls Tryd.prog f args w (Ret fun v w' => v = .tuple #[.bool true, .int .i64 c] ∧ P w') := e ▸ h

theorem law12_moves {w0 w : World} {F : HP} {b : Nat} {D : Dk} {E : Nat → Addr} (hE : Errs w0 E) (hD : D.Ok) (hm : D.arms.length + 1 < 8796093022207) (s : Stp) (hS : s.Ok) (R : Nat) (hR : D.room = R) (hs : Sat w0 w (F * dk b D)) :
    Calls Tryd.prog 54 #[.pointer (some ⟨b, 0, none⟩), .agg #[.int .i64 s.kind, .int .i64 s.on, .int .i64 s.n, .int .i64 s.m, .string s.data], .int .i64 R, .int .i64 D.arms.length] w (Ret fun v w' => v = .tuple #[.bool true, .int .i64 (D.act s).2.arms.length] ∧ Sat w0 w' (F * dk b (D.act s).2)) := by
  subst hR
  have hD2 := hD.act hS
  have hm1 : D.arms.length < 8796093022207 := by omega
  have hm2 : (D.act s).2.arms.length < 8796093022207 := by have := act_arms D s; omega
  obtain ⟨K, O, N, M, DT⟩ := s
  have hdy := fun (hd : D.dead = false) (hk : D.diesB = true) (h : 1 ≤ K ∧ K ≤ 4) (h4 : K = 4 → 0 ≤ N ∧ N ≤ D.bytes.length) => Dk.act_dying hd hk (s := ⟨K, O, N, M, DT⟩) h h4
  have hga : ((D.laid ⟨K, O, N, M, DT⟩).fail D.diesK).arms = D.rest := Dk.laid_arms D _
  have hlen : ∀ hk : D.diesB = true, (D.arms.length : Int) - 1 = ((((D.laid ⟨K, O, N, M, DT⟩).fail D.diesK).arms.length : Nat) : Int) := fun hk => by rw [hga]; have := Dk.dies_len hk; omega
  have hpos : ∀ hk : D.diesB = true, (0 : Int) < (D.arms.length : Int) := fun hk => by have := Dk.dies_len hk; omega
  have hn2 : (D.arms.length : Int) ≤ 8796093022207 := by omega
  have hliv : ∀ hk : D.diesB = false, (D.arms.length : Int) = ((D.rest.length : Nat) : Int) := fun hk => by rw [Dk.lives_len hk]
  rcases Dk.kinds ⟨K, O, N, M, DT⟩ with e | e | e | e | e | e | e | e | e | e
  · obtain rfl : K = 1 := e
    cases hd : D.dead with
    | true =>
      have ha := Dk.act_dead hd (s := ⟨1, O, N, M, DT⟩) (by show (1 : Int) ≤ 1 ∧ (1 : Int) ≤ 4; decide)
      rw [ha] at hD2 hm2 ⊢
      exact moves_dead1 hE hD hD2 hm1 hm2 hS _ hd hd rfl rfl ha hs
    | false =>
      cases hk : D.diesB with
      | true =>
        have ha := hdy hd hk (by decide) (fun h => by omega)
        rw [ha] at hD2 hm2 ⊢
        by_cases hf : D.bytes.length + DT.size ≤ D.room
        · exact moves_to (moves_dying1fits hE hD hD2 hm1 hm2 hS _ hd rfl (hpos hk) hn2 hf rfl ha hs) (hlen hk)
        · exact moves_to (moves_dying1full hE hD hD2 hm1 hm2 hS _ hd rfl (hpos hk) hn2 hf rfl ha hs) (hlen hk)
      | false =>
        have ha := Dk.act1_lives hd hk (s := ⟨1, O, N, M, DT⟩) rfl
        by_cases hf : D.fits DT.data.toList.length
        · rw [if_pos hf] at ha
          rw [ha] at hD2 hm2 ⊢
          exact moves_to (moves_live1fits hE hD hD2 hm1 hm2 hS _ hd hd rfl rfl hf rfl ha hs) (hliv hk)
        · rw [if_neg hf] at ha
          rw [ha] at hD2 hm2 ⊢
          exact moves_to (moves_live1full hE hD hD2 hm1 hm2 hS _ hd hd rfl rfl hf ha hs) (hliv hk)
  · obtain rfl : K = 2 := e
    cases hd : D.dead with
    | true =>
      have ha := Dk.act_dead hd (s := ⟨2, O, N, M, DT⟩) (by show (1 : Int) ≤ 2 ∧ (2 : Int) ≤ 4; decide)
      rw [ha] at hD2 hm2 ⊢
      exact moves_dead2 hE hD hD2 hm1 hm2 hS _ hd hd rfl rfl ha hs
    | false =>
      cases hk : D.diesB with
      | true =>
        have ha := hdy hd hk (by decide) (fun h => by omega)
        rw [ha] at hD2 hm2 ⊢
        exact moves_to (moves_dying2 hE hD hD2 hm1 hm2 hS _ hd rfl (hpos hk) hn2 rfl ha hs) (hlen hk)
      | false =>
        have ha := Dk.act2_lives hd hk (s := ⟨2, O, N, M, DT⟩) rfl
        rw [ha] at hD2 hm2 ⊢
        exact moves_to (moves_live2 hE hD hD2 hm1 hm2 hS _ hd hd rfl rfl rfl ha hs) (hliv hk)
  · obtain rfl : K = 3 := e
    cases hd : D.dead with
    | true =>
      have ha := Dk.act_dead hd (s := ⟨3, O, N, M, DT⟩) (by show (1 : Int) ≤ 3 ∧ (3 : Int) ≤ 4; decide)
      rw [ha] at hD2 hm2 ⊢
      exact moves_dead3 hE hD hD2 hm1 hm2 hS _ hd hd rfl rfl ha hs
    | false =>
      cases hk : D.diesB with
      | true =>
        have ha := hdy hd hk (by decide) (fun h => by omega)
        rw [ha] at hD2 hm2 ⊢
        exact moves_to (moves_dying3 hE hD hD2 hm1 hm2 hS _ hd rfl (hpos hk) hn2 rfl ha hs) (hlen hk)
      | false =>
        have ha := Dk.act3_lives hd hk (s := ⟨3, O, N, M, DT⟩) rfl
        rw [ha] at hD2 hm2 ⊢
        exact moves_to (moves_live3 hE hD hD2 hm1 hm2 hS _ hd hd rfl rfl ha hs) (hliv hk)
  · obtain rfl : K = 4 := e
    cases hd : D.dead with
    | true =>
      have ha := Dk.act_dead hd (s := ⟨4, O, N, M, DT⟩) (by show (1 : Int) ≤ 4 ∧ (4 : Int) ≤ 4; decide)
      rw [ha] at hD2 hm2 ⊢
      exact moves_dead4 hE hD hD2 hm1 hm2 hS _ hd hd rfl rfl ha hs
    | false =>
      by_cases hneg : N < 0
      · have ha := Dk.act4_bad hd (s := ⟨4, O, N, M, DT⟩) rfl (Or.inl hneg)
        rw [ha] at hD2 hm2 ⊢
        exact moves_live4neg hE hD hD2 hm1 hm2 hS _ hd hd rfl rfl hneg ha hs
      · by_cases hfar : (D.bytes.length : Int) < N
        · have ha := Dk.act4_bad hd (s := ⟨4, O, N, M, DT⟩) rfl (Or.inr hfar)
          rw [ha] at hD2 hm2 ⊢
          exact moves_live4far hE hD hD2 hm1 hm2 hS _ hd hd rfl rfl (by omega) hfar ha hs
        · cases hk : D.diesB with
          | true =>
            have ha := hdy hd hk (by decide) (fun _ => by omega)
            rw [ha] at hD2 hm2 ⊢
            exact moves_to (moves_dying4 hE hD hD2 hm1 hm2 hS _ hd rfl (hpos hk) hn2 rfl ha hs) (hlen hk)
          | false =>
            obtain ⟨j, rfl⟩ : ∃ j : Nat, N = (j : Int) := ⟨N.toNat, by omega⟩
            have ha := Dk.act4_lives hd hk (s := ⟨4, O, (j : Nat), M, DT⟩) rfl (by show (0 : Int) ≤ (j : Int) ∧ (j : Int) ≤ _; omega)
            rw [ha] at hD2 hm2 ⊢
            exact moves_to (moves_live4ok hE hD hD2 hm1 hm2 hS _ hd hd rfl rfl (by omega) (by rw [Int.toNat_natCast]) (by rw [Int.toNat_natCast]) ha hs) (hliv hk)
  · obtain rfl : K = 5 := e
    have ha := Dk.act5 D (s := ⟨5, O, N, M, DT⟩) rfl
    rw [ha] at hD2 hm2 ⊢
    have h3 : (D.arms.length : Int) + 1 = (((D.arm N M).arms.length : Nat) : Int) := by
      show _ = (((D.arms ++ [(N.toNat, M)]).length : Nat) : Int)
      rw [List.length_append, List.length_singleton]; omega
    cases hd : D.dead with
    | true => exact moves_to (moves_dead5 hE hD hD2 hm1 hm2 hS _ hd hd rfl rfl (by omega) hn2 ha hs) h3
    | false => exact moves_to (moves_live5 hE hD hD2 hm1 hm2 hS _ hd hd rfl rfl (by omega) hn2 ha hs) h3
  · obtain rfl : K = 6 := e
    have ha := Dk.act6 D (s := ⟨6, O, N, M, DT⟩) rfl
    cases hd : D.dead with
    | true =>
      have hc : D.crash N = D := if_pos hd
      rw [hc] at ha
      rw [ha] at hD2 hm2 ⊢
      exact moves_dead6 hE hD hD2 hm1 hm2 hS _ hd hd rfl rfl ha hs
    | false =>
      have hc : D.crash N = D.fail N := if_neg (by rw [hd]; simp)
      rw [hc] at ha
      rw [ha] at hD2 hm2 ⊢
      exact moves_live6 hE hD hD2 hm1 hm2 hS _ hd rfl rfl ha hs
  · obtain rfl : K = 7 := e
    have ha := Dk.act7 D (s := ⟨7, O, N, M, DT⟩) rfl
    rw [ha] at hD2 hm2 ⊢
    cases hd : D.dead with
    | true =>
      rw [if_pos hd] at ha
      exact moves_dead7 hE hD hD2 hm1 hm2 hS _ hd hd rfl rfl ha hs
    | false =>
      rw [if_neg (by rw [hd]; simp)] at ha
      exact moves_live7 hE hD hD2 hm1 hm2 hS _ hd hd rfl rfl ha hs
  · obtain rfl : K = 8 := e
    have ha := Dk.act8 D (s := ⟨8, O, N, M, DT⟩) rfl
    rw [ha] at hD2 hm2 ⊢
    cases hd : D.dead with
    | true => exact moves_dead8 hE hD hD2 hm1 hm2 hS _ hd rfl rfl rfl ha hs
    | false => exact moves_live8 hE hD hD2 hm1 hm2 hS _ hd rfl rfl rfl ha hs
  · obtain rfl : K = 9 := e
    have ha := Dk.act9 D (s := ⟨9, O, N, M, DT⟩) rfl
    rw [ha] at hD2 hm2 ⊢
    cases hd : D.dead with
    | true => exact moves_dead9 hE hD hD2 hm1 hm2 hS _ hd hd rfl rfl ha hs
    | false => exact moves_live9 hE hD hD2 hm1 hm2 hS _ hd hd rfl rfl ha hs
  · have ho : K < 1 ∨ 9 < K := e
    have ha := Dk.act0 D (s := ⟨K, O, N, M, DT⟩) ho
    rw [ha] at hD2 hm2 ⊢
    cases hd : D.dead with
    | true => exact moves_dead0 hE hD hD2 hm1 hm2 hS _ hd hd rfl rfl ho ha hs
    | false => exact moves_live0 hE hD hD2 hm1 hm2 hS _ hd hd rfl rfl ho ha hs

theorem Dk.act_room' (D : Dk) (s : Stp) : (D.act s).2.room = D.room := by
  by_cases hop : 1 ≤ s.kind ∧ s.kind ≤ 4
  · cases hd : D.dead with
    | true => rw [Dk.act_dead hd hop]
    | false =>
      by_cases hb : s.kind = 4 ∧ (s.n < 0 ∨ (D.bytes.length : Int) < s.n)
      · rw [Dk.act4_bad hd hb.1 hb.2]
      · cases hk : D.diesB with
        | true =>
          rw [Dk.act_dying hd hk hop (fun e => by have : ¬ (s.n < 0 ∨ (D.bytes.length : Int) < s.n) := fun h => hb ⟨e, h⟩; omega)]
          exact Dk.laid_room D s
        | false =>
          obtain e | e | e | e : s.kind = 1 ∨ s.kind = 2 ∨ s.kind = 3 ∨ s.kind = 4 := by omega
          · rw [Dk.act1_lives hd hk e]
            by_cases hf : D.fits s.data.data.toList.length
            · rw [if_pos hf]; rfl
            · rw [if_neg hf]; rfl
          · rw [Dk.act2_lives hd hk e]; rfl
          · rw [Dk.act3_lives hd hk e]; rfl
          · rw [Dk.act4_lives hd hk e (by have : ¬ (s.n < 0 ∨ (D.bytes.length : Int) < s.n) := fun h => hb ⟨e, h⟩; omega)]; rfl
  · rcases Dk.kinds s with e | e | e | e | e | e | e | e | e | e
    · omega
    · omega
    · omega
    · omega
    · rw [Dk.act5 D e]; rfl
    · rw [Dk.act6 D e]
      unfold Dk.crash
      split <;> rfl
    · rw [Dk.act7 D e]
    · rw [Dk.act8 D e]; rfl
    · rw [Dk.act9 D e]
    · rw [Dk.act0 D e]

theorem stps_at {w : World} {b o k : Nat} {ss : List Stp} {s : Stp} (h : Rd w (some ⟨b, o, none⟩) (stps ss)) (hk : k < ss.length) (hs : ss[k] = s) : w.cell? ⟨b, o + k * 5, none⟩ = some (.int .i64 s.kind) ∧ w.cell? ⟨b, o + k * 5 + 1, none⟩ = some (.int .i64 s.on) ∧ w.cell? ⟨b, o + k * 5 + 2, none⟩ = some (.int .i64 s.n) ∧ w.cell? ⟨b, o + k * 5 + 3, none⟩ = some (.int .i64 s.m) ∧ w.cell? ⟨b, o + k * 5 + 4, none⟩ = some (.string s.data) := by
  subst hs
  obtain ⟨b1, o1, e, c⟩ := stps_rd h hk
  obtain ⟨rfl, rfl, _⟩ := by simpa using e
  exact c

set_option maxRecDepth 20000 in
set_option maxHeartbeats 25600000 in
theorem walk_diskMoves {w : World} {E : Nat → Addr} (hE : Errs w E) (room : Int) (data : ByteArray) (hdz : data.size ≤ 140737488351232) (other : Int) (ss : List Stp) (ao : Option Addr) (c : Nat) (hr : Rd w ao (stps ss)) (hn : ss.length ≤ 2932031007402) (hok : ∀ s ∈ ss, s.Ok) :
    Calls Tryd.prog 9 #[.agg #[.int .i64 room, .string data, .int .i64 other, .slice ao ss.length c]] w (Ret fun v w' => v = .bool true ∧ Sat w w' 1) := by
  have HE := Hid.mk' hE
  have HR := Hid.mk' hr
  have HOK := Hid.mk' hok
  have hs0 := (Sat.refl w).new #[.int .i64 room, .string data, .int .i64 other, .slice ao ss.length c] 72
  clear hE hr hok
  obtain ⟨SC, hSC⟩ : ∃ SC, #[Value.int .i64 room, .string data, .int .i64 other, .slice ao ss.length c].toList = SC := ⟨_, rfl⟩
  have C1 := Hid.mk' (show SC[1]? = some (.string data) by rw [← hSC]; rfl)
  have C2 := Hid.mk' (show SC[2]? = some (.int .i64 other) by rw [← hSC]; rfl)
  have C3 := Hid.mk' (show SC[3]? = some (.slice ao ss.length c) by rw [← hSC]; rfl)
  rw [hSC] at hs0
  clear hSC
  generalize hbw : w.heap.size = bw at hs0
  have hsz : data.data.toList.length = data.size := rfl
  go_enter Tryd.func9, Tryd.ntmps9
  go_wp2_with fail
  go_region_held3 (fun wr => wr.cell? ⟨bw, 1, none⟩ = some (.string data) ∧ wr.cell? ⟨bw, 2, none⟩ = some (.int .i64 other)) (first | exact ⟨hs0.cell C1.out, hs0.cell C2.out⟩ | exact ⟨hs3.swap.cell C1.out, hs3.swap.cell C2.out⟩ | exact ⟨hs4.rot3.cell C1.out, hs4.rot3.cell C2.out⟩)
    (first | (go_at_call 41; refine (kit_bytes data hdz).mono ?_; rintro e w3 ⟨v, rfl, hx⟩; have hs3 := (hs0.drewN 1).glue hx; obtain ⟨po, pc, rfl, _, hrp, _⟩ := hs3.vec_rd) | (go_at_call 42; refine (disk_open hs3 data.data.toList po pc hrp hdz other).mono ?_; rintro e w4 ⟨v, rfl, bd, rfl, hs4⟩))
  have hs5 := hs4.swap.drop
  clear hs4 hs3 hs0 hrp hx
  go_wp2_with fail
  refine law12_look.mono ?_
  rintro e w5 ⟨v, rfl, rfl, hx⟩
  have hs6 := hs5.then1 hx
  clear hs5 hx
  go_wp2_with fail
  refine (show Calls Tryd.prog 47 #[.pointer (some ⟨bd, 0, none⟩), Stp.looks.val] w5 (Ret fun v w' => ∃ (a : Option Addr) (c : Nat), data.size ≤ c ∧ v = .agg #[.slice a data.size c, .int .i64 data.size, .int .i64 0] ∧ Sat w w' (1 * blk bw SC 72 * dk bd (Dk.new data.data.toList other) * vec 5 1 (.slice a data.size c) data.size (bvs data.data.toList))) from law12_actLook HE.out (Dk.Ok.new hdz other) (show (0 : Nat) < 8796093022207 by decide) hs6).mono ?_
  rintro e w6 ⟨v, rfl, la, lc, _, rfl, hx⟩
  have hs7 := hx.new #[.slice la data.size lc, .int .i64 data.size, .int .i64 0] 87
  generalize hb4 : w6.heap.size = b4 at hs7
  have hs8 := hs7.perm (B := 1 * blk bw SC 72 * blk b4 [.slice la data.size lc, .int .i64 data.size, .int .i64 0] 87 * vec 5 1 (.slice la data.size lc) data.size (bvs data.data.toList) * dk bd (Dk.new data.data.toList other)) (by ac_rfl)
  have hne : ((data.size : Int) != (data.size : Int)) = false := bne_eq_false_iff_eq.2 rfl
  clear hx hs7 hs6
  go_wp2_with fail
  go_region_held3 (fun wr => wr.cell? ⟨b4, 0, none⟩ = some (.slice la data.size lc) ∧ wr.cell? ⟨b4, 1, none⟩ = some (.int .i64 data.size) ∧ wr.cell? ⟨bw, 1, none⟩ = some (.string data)) (first | exact ⟨hs8.rot3.cell rfl, hs8.rot3.cell rfl, hs8.rot4.cell C1.out⟩ | exact ⟨(hs8.drewN _).rot3.cell rfl, (hs8.drewN _).rot3.cell rfl, (hs8.drewN _).rot4.cell C1.out⟩ | exact ⟨hs9.rot4.cell rfl, hs9.rot4.cell rfl, hs9.rot5.cell C1.out⟩ | exact ⟨(hs9.drewN _).rot4.cell rfl, (hs9.drewN _).rot4.cell rfl, (hs9.drewN _).rot5.cell C1.out⟩)
    (first | (go_at_call 25; refine (ref0_same_true data.data.toList la po lc pc hs9.rot3.rd hs9.rd hdz).mono ?_; rintro e w8 ⟨rfl, m, rfl⟩) | (go_at_call 41; refine (kit_bytes data hdz).mono ?_; rintro e w7 ⟨v, rfl, hx⟩; have hs9 := (hs8.drewN 1).glue hx; obtain ⟨po, pc, rfl, _, _, _⟩ := hs9.vec_rd) | (go_at_call 53; refine (disk_dead_is (d := false) rfl (hs8.drewN 1)).mono ?_; rintro e v9 ⟨rfl, rfl⟩))
  have hs10 := (hs9.drewN m).perm (B := 1 * blk bw SC 72 * dk bd (Dk.new data.data.toList other) * (blk b4 [.slice la data.size lc, .int .i64 data.size, .int .i64 0] 87 * vec 5 1 (.slice la data.size lc) data.size (bvs data.data.toList) * vec 5 1 (.slice po data.size pc) data.size (bvs data.data.toList))) (by ac_rfl)
  have hs11 := hs10.drop
  clear hs8 hs9 hs10 hx
  have HN := Hid.mk' (Dk.Ok.new hdz other)
  go_wp2_with fail
  go_loopw [5, 6] (fun z i wr => ∃ (k : Nat) (D : Dk), k ≤ ss.length ∧ z = .int .i64 D.arms.length ∧ i = .int .i64 k ∧ D.Ok ∧ D.room = (Dk.new [] other).room ∧ D.arms.length ≤ k ∧ Sat w wr (1 * blk bw SC 72 * dk bd D)) (fun _ i _ => ss.length - (intOf i).toNat)
  case atStart => exact ⟨0, Dk.new data.data.toList other, by omega, rfl, rfl, HN.out, rfl, Nat.zero_le _, hs11⟩
  case round =>
    clear hs11
    obtain ⟨k, D, hkl, rfl, rfl, hDo, hRR, hlen, hS⟩ := hrel
    have k3 := hS.swap.cell C3.out
    by_cases hlt : k < ss.length
    · obtain ⟨b1, o1, rfl, _⟩ := stps_rd (HR.out.of0 hS) hlt
      have hso := HOK.out _ (List.getElem_mem hlt)
      obtain ⟨s, hsk⟩ : ∃ s, ss[k] = s := ⟨_, rfl⟩
      rw [hsk] at hso
      have HSK := Hid.mk' hsk
      have HRR := Hid.mk' hRR
      clear hsk hRR
      have hDm : D.arms.length + 1 < 8796093022207 := by omega
      have hDa := act_arms D s
      have hDo2 := hDo.act hso
      obtain ⟨D2, hD2⟩ : ∃ D2, (D.act s).2 = D2 := ⟨_, rfl⟩
      rw [hD2] at hDa hDo2
      have HD2 := Hid.mk' hD2
      clear hD2
      have h0k : (0 : Int) ≤ (k : Int) := by omega
      have hkn : (k : Int) < (ss.length : Int) := by omega
      obtain ⟨K, O, N, M, DT⟩ := s
      go_wp2_with fail
      go_region_held3 (fun wr => (wr.cell? ⟨bw, 3, none⟩ = some (.slice (some ⟨b1, o1, none⟩) ss.length c) ∧ wr.cell? ⟨bw, 2, none⟩ = some (.int .i64 other)) ∧ wr.cell? ⟨b1, o1 + k * 5, none⟩ = some (.int .i64 K) ∧ wr.cell? ⟨b1, o1 + k * 5 + 1, none⟩ = some (.int .i64 O) ∧ wr.cell? ⟨b1, o1 + k * 5 + 2, none⟩ = some (.int .i64 N) ∧ wr.cell? ⟨b1, o1 + k * 5 + 3, none⟩ = some (.int .i64 M) ∧ wr.cell? ⟨b1, o1 + k * 5 + 4, none⟩ = some (.string DT))
        (first | exact ⟨⟨hS.swap.cell C3.out, hS.swap.cell C2.out⟩, stps_at (HR.out.of0 hS) hlt HSK.out⟩ | exact ⟨⟨(hS.drewN _).swap.cell C3.out, (hS.drewN _).swap.cell C2.out⟩, stps_at (HR.out.of0 (hS.drewN _)) hlt HSK.out⟩ | exact ⟨⟨hU.swap.cell C3.out, hU.swap.cell C2.out⟩, stps_at (HR.out.of0 hU) hlt HSK.out⟩)
        (first | (go_at_call 55; refine (law12_roomy other).mono ?_; rintro e v5 ⟨rfl, rfl⟩) | (go_at_call 54; refine (law12_moves HE.out hDo hDm (⟨K, O, N, M, DT⟩ : Stp) hso (Dk.new [] other).room HRR.out (b := bd) (F := 1 * blk bw SC 72) (hS.drewN _)).mono ?_; rintro e v2 ⟨v, rfl, rfl, hU⟩))
      rw [HD2.out] at hU ⊢
      have HR2 := Hid.mk' (Dk.act_room' D (⟨K, O, N, M, DT⟩ : Stp))
      all_goals
        go_wp2_with fail
        exact ⟨⟨k + 1, D2, by omega, rfl, by go_num, hDo2, by rw [← HD2.out, HR2.out, HRR.out], by omega, hU⟩, by simp [intOf]; omega⟩
    · go_wp2_with fail
      go_ret
      exact Ret.mk ⟨rfl, (Sat.start w).ext hS.below⟩
end Go.Proofs.YtjhlelcopofkkaaDoor
