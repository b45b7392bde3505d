/- What the law DiskLasts demands of one call, whatever it is. -/
import Derived.Test.YtjhlelcopofkkaaDoorHeld3
namespace Go.Proofs.YtjhlelcopofkkaaDoor
open Go.RowKit

theorem Dk.fail_fits {D : Dk} (h : D.bytes.length ≤ D.room) (keep : Int) : (D.fail keep).bytes.length ≤ (D.fail keep).room := by
  show (D.bytes.take _).length ≤ D.room
  rw [List.length_take]; omega
theorem Dk.putp_fits {D : Dk} (h : D.bytes.length ≤ D.room) (p : List UInt8) : (D.putp p).bytes.length ≤ (D.putp p).room := by
  unfold Dk.putp
  split
  · rename_i hf
    unfold Dk.fits at hf
    show (D.bytes ++ p).length ≤ D.room
    rw [List.length_append]; exact hf
  · exact h
theorem Dk.laid_fits {D : Dk} (h : D.bytes.length ≤ D.room) (s : Stp) : (D.laid s).bytes.length ≤ (D.laid s).room := by
  unfold Dk.laid
  split
  · exact Dk.putp_fits (D := D.ticked) h _
  · exact h
theorem Dk.act_room {D : Dk} (h : D.bytes.length ≤ D.room) (s : Stp) : (D.act s).2.bytes.length ≤ (D.act s).2.room ∧ (D.act s).2.room = D.room := by
  by_cases hop : 1 ≤ s.kind ∧ s.kind ≤ 4
  · cases hd : D.dead with
    | true => rw [Dk.act_dead hd hop]; exact ⟨h, rfl⟩
    | false =>
      by_cases hb : s.kind = 4 ∧ (s.n < 0 ∨ (D.bytes.length : Int) < s.n)
      · rw [Dk.act4_bad hd hb.1 hb.2]; exact ⟨h, rfl⟩
      · cases hk : D.diesB with
        | true =>
          rw [Dk.act_dying hd hk hop (fun e => by have : ¬ (s.n < 0 ∨ (D.bytes.length : Int) < s.n) := fun h => hb ⟨e, h⟩; omega)]
          exact ⟨Dk.fail_fits (Dk.laid_fits h s) _, Dk.laid_room D s⟩
        | false =>
          obtain e | e | e | e : s.kind = 1 ∨ s.kind = 2 ∨ s.kind = 3 ∨ s.kind = 4 := by omega
          · rw [Dk.act1_lives hd hk e]
            by_cases hf : D.fits s.data.data.toList.length
            · rw [if_pos hf]
              refine ⟨?_, rfl⟩
              show (D.bytes ++ s.data.data.toList).length ≤ D.room
              rw [List.length_append]; exact hf
            · rw [if_neg hf]; exact ⟨h, rfl⟩
          · rw [Dk.act2_lives hd hk e]; exact ⟨h, rfl⟩
          · rw [Dk.act3_lives hd hk e]; exact ⟨h, rfl⟩
          · rw [Dk.act4_lives hd hk e (by have : ¬ (s.n < 0 ∨ (D.bytes.length : Int) < s.n) := fun h => hb ⟨e, h⟩; omega)]
            refine ⟨?_, rfl⟩
            show (D.bytes.take s.n.toNat).length ≤ D.room
            rw [List.length_take]; omega
  · rcases Dk.kinds s with e | e | e | e | e | e | e | e | e | e
    · omega
    · omega
    · omega
    · omega
    · rw [Dk.act5 D e]; exact ⟨h, rfl⟩
    · rw [Dk.act6 D e]
      unfold Dk.crash
      split
      · exact ⟨h, rfl⟩
      · exact ⟨Dk.fail_fits h _, rfl⟩
    · rw [Dk.act7 D e]; exact ⟨h, rfl⟩
    · rw [Dk.act8 D e]; exact ⟨h, rfl⟩
    · rw [Dk.act9 D e]; exact ⟨h, rfl⟩
    · rw [Dk.act0 D e]; exact ⟨h, rfl⟩

theorem held_lasts {w0 w : World} {F : HP} {b bh : Nat} {D : Dk} {E : Nat → Addr} (hE : Errs w0 E) (hD : D.Ok) (hm : D.arms.length < 8796093022207) (hr : D.bytes.length ≤ D.room) (s : Stp) (hS : s.Ok) (h4 : s.kind ≠ 4) (full : Bool) (hfull : full = decide (s.kind = 1 ∧ ¬ D.fits s.data.data.toList.length))
    (hs : Sat w0 w (F * hk bh (D.bytes.take D.synced) D.bytes D.arms.length * dk b D)) :
    Calls Tryd.prog 64 #[.pointer (some ⟨bh, 0, none⟩), .pointer (some ⟨b, 0, none⟩), .agg #[.int .i64 s.kind, .int .i64 s.on, .int .i64 s.n, .int .i64 s.m, .string s.data], .bool D.dead, .bool full] w (Ret fun v w' => v = .bool true ∧ Sat w0 w' (F * hk bh ((D.act s).2.bytes.take (D.act s).2.synced) (D.act s).2.bytes (D.act s).2.arms.length * dk b (D.act s).2)) := by
  obtain ⟨K, O, N, M, DT⟩ := s
  have hro := hD.room
  have hdz : DT.size ≤ 140737488351232 := hS.data
  have hsz : D.bytes.length + DT.size ≤ 142936511610880 := by omega
  have hff : K ≠ 1 → full = false := fun h => by rw [hfull]; exact decide_eq_false (fun h' => h h'.1)
  have hdy := fun (hd : D.dead = false) (hk : D.diesB = true) (h : 1 ≤ K ∧ K ≤ 4) => Dk.act_dying hd hk (s := ⟨K, O, N, M, DT⟩) h (fun e => absurd e h4)
  have hg := Dk.dying_good hD (⟨K, O, N, M, DT⟩ : Stp) D.diesK
  have hgo : ((D.laid ⟨K, O, N, M, DT⟩).fail D.diesK).Ok := (Dk.laid_ok hD _).fail _
  have hgb := Dk.laid_bytes D (⟨K, O, N, M, DT⟩ : Stp)
  have hga : ((D.laid ⟨K, O, N, M, DT⟩).fail D.diesK).arms = D.rest := Dk.laid_arms D _
  have hgt : ((D.laid ⟨K, O, N, M, DT⟩).fail D.diesK).bytes.take ((D.laid ⟨K, O, N, M, DT⟩).fail D.diesK).synced = ((D.laid ⟨K, O, N, M, DT⟩).fail D.diesK).bytes := by rw [hg.2.2.1, List.take_length]
  rcases Dk.kinds ⟨K, O, N, M, DT⟩ with e | e | e | e | e | e | e | e | e | e
  · obtain rfl : K = 1 := e
    cases hd : D.dead with
    | true =>
      have ha := Dk.act_dead hd (s := ⟨1, O, N, M, DT⟩) (by show (1 : Int) ≤ 1 ∧ (1 : Int) ≤ 4; decide)
      rw [ha]
      exact lasts_dead1 hE hD hm hS rfl rfl rfl ha hs
    | false =>
      cases hk : D.diesB with
      | true =>
        have ha := hdy hd hk (by decide)
        rw [ha]
        refine lasts_dying1 hE hD hm hS hgo (by rw [hga]; have := Dk.dies_len hk; omega) hsz (hg.2.1.trans ?_) hg.1 hgt (by rw [hga]; have := Dk.dies_len hk; omega) ha hs
        rw [hgb]
        split
        · exact List.prefix_refl _
        · exact List.prefix_append _ _
      | false =>
        have ha := Dk.act1_lives hd hk (s := ⟨1, O, N, M, DT⟩) rfl
        have hl := Dk.lives_len hk
        by_cases hf : D.fits DT.data.toList.length
        · rw [if_pos hf] at ha
          rw [ha]
          obtain rfl : full = false := by rw [hfull]; exact decide_eq_false (fun h => h.2 hf)
          exact lasts_live1 hE hD hm hS hsz (Dk.take_pre (List.prefix_append _ _) hD.synced).symm rfl (by show ((D.rest.length : Nat) : Int) = _; omega) ha hs
        · rw [if_neg hf] at ha
          rw [ha]
          obtain rfl : full = true := by rw [hfull]; exact decide_eq_true ⟨rfl, hf⟩
          exact lasts_full hE hD hm hS rfl rfl (by show ((D.rest.length : Nat) : Int) = _; omega) ha hs
  · obtain rfl : K = 2 := e
    cases hd : D.dead with
    | true =>
      have ha := Dk.act_dead hd (s := ⟨2, O, N, M, DT⟩) (by show (1 : Int) ≤ 2 ∧ (2 : Int) ≤ 4; decide)
      rw [ha]
      exact lasts_dead2 hE hD hm hS rfl rfl rfl ha hs
    | false =>
      cases hk : D.diesB with
      | true =>
        have ha := hdy hd hk (by decide)
        rw [ha]
        exact lasts_dying2 hE hD hm hS hgo (by rw [hga]; have := Dk.dies_len hk; omega) (hg.2.1.trans (by rw [hgb, if_neg (by simp)]; exact List.prefix_refl _)) hg.1 hgt (by rw [hga]; have := Dk.dies_len hk; omega) ha hs
      | false =>
        have ha := Dk.act2_lives hd hk (s := ⟨2, O, N, M, DT⟩) rfl
        have hl := Dk.lives_len hk
        rw [ha]
        obtain rfl := hff (by decide)
        exact lasts_live2 hE hD hm hS (List.take_length) rfl (by show ((D.rest.length : Nat) : Int) = _; omega) ha hs
  · obtain rfl : K = 3 := e
    cases hd : D.dead with
    | true =>
      have ha := Dk.act_dead hd (s := ⟨3, O, N, M, DT⟩) (by show (1 : Int) ≤ 3 ∧ (3 : Int) ≤ 4; decide)
      rw [ha]
      exact lasts_dead3 hE hD hm hS rfl rfl rfl ha hs
    | false =>
      cases hk : D.diesB with
      | true =>
        have ha := hdy hd hk (by decide)
        rw [ha]
        exact lasts_dying3 hE hD hm hS hgo (by rw [hga]; have := Dk.dies_len hk; omega) (hg.2.1.trans (by rw [hgb, if_neg (by simp)]; exact List.prefix_refl _)) hg.1 hgt (by rw [hga]; have := Dk.dies_len hk; omega) ha hs
      | false =>
        have ha := Dk.act3_lives hd hk (s := ⟨3, O, N, M, DT⟩) rfl
        have hl := Dk.lives_len hk
        rw [ha]
        obtain rfl := hff (by decide)
        exact lasts_live3 hE hD hm hS rfl rfl (by show ((D.rest.length : Nat) : Int) = _; omega) ha hs
  · exact absurd e h4
  · obtain rfl : K = 5 := e
    have ha := Dk.act5 D (s := ⟨5, O, N, M, DT⟩) rfl
    rw [ha]
    obtain rfl := hff (by decide)
    have h3 : (((D.arm N M).arms.length : Nat) : Int) = D.arms.length + 1 := by
      show (((D.arms ++ [(N.toNat, M)]).length : Nat) : Int) = _
      rw [List.length_append, List.length_singleton]; omega
    cases hd : D.dead with
    | true => exact lasts_dead5 hE hD hm hS rfl rfl h3 ha hs
    | false => exact lasts_live5 hE hD hm hS rfl rfl h3 ha hs
  · obtain rfl : K = 6 := e
    have ha := Dk.act6 D (s := ⟨6, O, N, M, DT⟩) rfl
    obtain rfl := hff (by decide)
    cases hd : D.dead with
    | true =>
      have hc : D.crash N = D := if_pos hd
      rw [hc] at ha
      rw [ha]
      exact lasts_dead6 hE hD hm hS rfl rfl rfl ha hs
    | false =>
      have hc : D.crash N = D.fail N := if_neg (by rw [hd]; simp)
      rw [hc] at ha
      rw [ha]
      have hfg := Dk.fail_good hD.synced N
      exact lasts_live6 hE hD hm hS (hD.fail N) hm hfg.1 hfg.2.1 (by rw [hfg.2.2.1, List.take_length]) rfl ha hs
  · obtain rfl : K = 7 := e
    have ha := Dk.act7 D (s := ⟨7, O, N, M, DT⟩) rfl
    obtain rfl := hff (by decide)
    rw [ha]
    cases hd : D.dead with
    | true =>
      rw [if_pos hd] at ha
      exact lasts_dead7 hE hD hm hS rfl rfl rfl (zz := 1) ha hs
    | false =>
      rw [if_neg (by rw [hd]; simp)] at ha
      exact lasts_live7 hE hD hm hS rfl rfl rfl (zz := 0) ha hs
  · obtain rfl : K = 8 := e
    have ha := Dk.act8 D (s := ⟨8, O, N, M, DT⟩) rfl
    obtain rfl := hff (by decide)
    rw [ha]
    cases hd : D.dead with
    | true => exact lasts_dead8 hE hD hm hS rfl rfl rfl ha hs
    | false => exact lasts_live8 hE hD hm hS rfl rfl rfl ha hs
  · obtain rfl : K = 9 := e
    have ha := Dk.act9 D (s := ⟨9, O, N, M, DT⟩) rfl
    obtain rfl := hff (by decide)
    rw [ha]
    cases hd : D.dead with
    | true => exact lasts_dead9 hE hD hm hS rfl rfl rfl ha hs
    | false => exact lasts_live9 hE hD hm hS rfl rfl rfl ha hs
  · have ho : K < 1 ∨ 9 < K := e
    have ha := Dk.act0 D (s := ⟨K, O, N, M, DT⟩) ho
    obtain rfl := hff (by omega)
    rw [ha]
    cases hd : D.dead with
    | true => exact lasts_dead0 hE hD hm hS rfl rfl rfl ho ha hs
    | false => exact lasts_live0 hE hD hm hS rfl rfl rfl ho ha hs
end Go.Proofs.YtjhlelcopofkkaaDoor
