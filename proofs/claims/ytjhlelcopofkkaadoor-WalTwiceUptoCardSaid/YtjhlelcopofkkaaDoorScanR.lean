/- The document's own reading of a log's good head. -/
import Derived.Test.YtjhlelcopofkkaaDoorFr
namespace Go.Proofs.YtjhlelcopofkkaaDoor
open Go.RowKit

theorem Rd.drop {w : World} {b o : Nat} {l : List Value} (h : Rd w (some ⟨b, o, none⟩) l) (k : Nat) : Rd w (some ⟨b, o + k, none⟩) (l.drop k) := by
  rcases h with h | ⟨b', o', e, hc⟩
  · exact Or.inl (by rw [h]; simp)
  · cases e
    exact Or.inr ⟨b, o + k, rfl, fun i u hu => by rw [List.getElem?_drop] at hu; rw [Nat.add_assoc]; exact hc _ u hu⟩
theorem bvs_drop (xs : List UInt8) (k : Nat) : (bvs xs).drop k = bvs (xs.drop k) := by simp [bvs, List.map_drop]
theorem bvs_take (xs : List UInt8) (k : Nat) : (bvs xs).take k = bvs (xs.take k) := by simp [bvs, List.map_take]
theorem Rd.sub {w : World} {b o : Nat} {xs : List UInt8} (h : Rd w (some ⟨b, o, none⟩) (bvs xs)) (k n : Nat) : Rd w (some ⟨b, o + k, none⟩) (bvs ((xs.drop k).take n)) := by
  rw [← bvs_take, ← bvs_drop]
  exact (h.drop k).take n
theorem be4n_get {d : List UInt8} (h : 4 ≤ d.length) : be4n d = d[0].toNat * 16777216 + d[1].toNat * 65536 + d[2].toNat * 256 + d[3].toNat := by
  match d, h with
  | a :: b :: c :: e :: r, _ => rfl
  | [], h => simp at h
  | [_], h => simp at h
  | [_, _], h => simp at h
  | [_, _, _], h => simp at h
theorem be4n_lt (d : List UInt8) : be4n d < 4294967296 := by
  match d with
  | a :: b :: c :: e :: r =>
    have := a.toNat_lt
    have := b.toNat_lt
    have := c.toNat_lt
    have := e.toNat_lt
    simp only [be4n]
    omega
  | [] => simp [be4n]
  | [_] => simp [be4n]
  | [_, _] => simp [be4n]
  | [_, _, _] => simp [be4n]

set_option maxHeartbeats 1600000 in
theorem ref13_told0 {w : World} (b o l c i : Nat) (b0 b1 b2 b3 : UInt8) (hl : i + 4 ≤ l) (hl' : l ≤ 140737488351232)
    (h0 : w.cell? ⟨b, o + i, none⟩ = some (bv b0)) (h1 : w.cell? ⟨b, o + (i + 1), none⟩ = some (bv b1)) (h2 : w.cell? ⟨b, o + (i + 2), none⟩ = some (bv b2)) (h3 : w.cell? ⟨b, o + (i + 3), none⟩ = some (bv b3)) :
    Calls Tryd.prog 136 #[.slice (some ⟨b, o, none⟩) l c, .int .i64 i] w (Drew (.int .i64 ((b0.toNat : Int) * 16777216 + b1.toNat * 65536 + b2.toNat * 256 + b3.toNat)) w) := by
  unfold bv at h0 h1 h2 h3
  have g0 := b0.toNat_lt
  have g1 := b1.toNat_lt
  have g2 := b2.toNat_lt
  have g3 := b3.toNat_lt
  go_enter Tryd.func136, Tryd.ntmps136
  go_wp2
  go_quiet (fail)
  go_wp2
  go_ret
  exact ⟨congrArg _ (ret_int (by omega)), _, rfl⟩
theorem ref13_told {w : World} (b o c i : Nat) (xs : List UInt8) (hr : Rd w (some ⟨b, o, none⟩) (bvs xs)) (hl : i + 4 ≤ xs.length) (hn : xs.length ≤ 140737488351232) :
    Calls Tryd.prog 136 #[.slice (some ⟨b, o, none⟩) xs.length c, .int .i64 i] w (Drew (.int .i64 (be4n (xs.drop i) : Int)) w) := by
  have hc : ∀ k (h : k < xs.length), w.cell? ⟨b, o + k, none⟩ = some (bv xs[k]) := by
    intro k hk
    rcases hr with h | ⟨b', o', e, hc⟩
    · have := bvs_length xs
      rw [h] at this
      simp at this
      omega
    · cases e
      exact hc k _ (bvs_get hk)
  have e := be4n_get (d := xs.drop i) (by rw [List.length_drop]; omega)
  rw [show (xs.drop i)[0]'(by rw [List.length_drop]; omega) = xs[i + 0]'(by omega) from List.getElem_drop, show (xs.drop i)[1]'(by rw [List.length_drop]; omega) = xs[i + 1]'(by omega) from List.getElem_drop,
    show (xs.drop i)[2]'(by rw [List.length_drop]; omega) = xs[i + 2]'(by omega) from List.getElem_drop, show (xs.drop i)[3]'(by rw [List.length_drop]; omega) = xs[i + 3]'(by omega) from List.getElem_drop] at e
  refine (ref13_told0 b o xs.length c i _ _ _ _ hl hn (hc (i + 0) (by omega)) (hc (i + 1) (by omega)) (hc (i + 2) (by omega)) (hc (i + 3) (by omega))).mono ?_
  rintro e' w' ⟨rfl, m, rfl⟩
  exact ⟨congrArg _ (ret_int (by omega)), m, rfl⟩

theorem num4_be4n {d : List UInt8} (h : 4 ≤ d.length) : num4 (be4n d) = d.take 4 := by
  match d, h with
  | a :: b :: c :: e :: r, _ =>
    have := a.toNat_lt
    have := b.toNat_lt
    have := c.toNat_lt
    have := e.toNat_lt
    simp only [be4n, num4, List.take_succ_cons, List.take_zero, List.cons.injEq, and_true]
    refine ⟨?_, ?_, ?_, ?_⟩ <;> (apply UInt8.toNat_inj.1; rw [UInt8.toNat_ofNat']; omega)
  | [], h => simp at h
  | [_], h => simp at h
  | [_, _], h => simp at h
  | [_, _, _], h => simp at h

/-- The length of the frame that stands at the head. -/
def fr8 (d : List UInt8) : Nat := if snd d = 0 then 0 else 8 + snd d
theorem fr8_bad {d : List UInt8} (h : ¬ Good d) : fr8 d = 0 := if_pos (snd_bad h)
theorem fr8_good {d : List UInt8} (h : Good d) : fr8 d = 8 + be4n d := by
  unfold fr8
  rw [snd_good h, if_neg (by have := h.1; omega)]

set_option maxRecDepth 20000 in
set_option maxHeartbeats 3200000 in
theorem ref13_sound_in {w : World} (b o c i l n n4 : Nat) (s : Int) (h8 : i + 8 ≤ l) (q1 : 1 ≤ n) (q2 : n ≤ 8192) (q3 : i + 8 + n ≤ l) (hl : l ≤ 16777216) (hlc : l ≤ c) (s0 : 0 ≤ s) (s1 : s < 4294967296)
    (T1 : Hid (Calls Tryd.prog 136 #[.slice (some ⟨b, o, none⟩) l c, .int .i64 i] w (Drew (.int .i64 n) w)))
    (T2 : Hid (∀ m, Calls Tryd.prog 136 #[.slice (some ⟨b, o, none⟩) l c, .int .i64 ((i : Int) + 4)] (w.drewN m) (Drew (.int .i64 n4) (w.drewN m))))
    (S : Hid (∀ m c', Calls Tryd.prog 91 #[.slice (some ⟨b, o + (i + 8), none⟩) n c'] (w.drewN m) (Ret fun v w' => v = .int .u32 s ∧ Sat (w.drewN m) w' 1))) :
    Calls Tryd.prog 93 #[.slice (some ⟨b, o, none⟩) l c, .int .i64 i] w (Ret fun v w' => v = .int .i64 (if (n4 : Int) = s then (8 + n : Nat) else (0 : Nat)) ∧ Sat w w' 1) := by
  by_cases q4 : (n4 : Int) = s
  · have hq : ((n4 : Int) != s) = false := bne_eq_false_iff_eq.2 q4
    have hw : (IntKind.i64.wrap s) = s := by rw [IntKind.wrap_i64]; omega
    rw [if_pos q4]
    have Q4 := Hid.mk' q4
    clear q4
    go_enter Tryd.func93, Tryd.ntmps93
    go_wp2_with (first | (go_at_call 136; refine (T1.out).mono ?_; clear T1; rintro e w' ⟨rfl, m, rfl⟩) | (go_at_call 136; go_loud (refine (T2.out _).mono ?_); clear T2; rintro e w' ⟨rfl, m2, rfl⟩))
    refine (S.out _ _).mono ?_
    rintro e w2 ⟨v, rfl, rfl, hs⟩
    go_wp2
    go_ret
    exact Ret.mk ⟨ret_int (by omega), ((Sat.refl _).drewN _).then1 hs⟩
  · have hq : ((n4 : Int) != s) = true := bne_iff_ne.2 q4
    have hw : (IntKind.i64.wrap s) = s := by rw [IntKind.wrap_i64]; omega
    rw [if_neg q4]
    have Q4 := Hid.mk' q4
    clear q4
    go_enter Tryd.func93, Tryd.ntmps93
    go_wp2_with (first | (go_at_call 136; refine (T1.out).mono ?_; clear T1; rintro e w' ⟨rfl, m, rfl⟩) | (go_at_call 136; go_loud (refine (T2.out _).mono ?_); clear T2; rintro e w' ⟨rfl, m2, rfl⟩))
    refine (S.out _ _).mono ?_
    rintro e w2 ⟨v, rfl, rfl, hs⟩
    go_wp2
    go_ret
    exact Ret.mk ⟨rfl, ((Sat.refl _).drewN _).then1 hs⟩

set_option maxRecDepth 20000 in
set_option maxHeartbeats 3200000 in
theorem ref13_sound {w : World} (xs : List UInt8) (ao : Option Addr) (c : Nat) (hr : Rd w ao (bvs xs)) (hn : xs.length ≤ 16777216) (hc : xs.length ≤ c) (i : Nat) (hi : i ≤ xs.length) :
    Calls Tryd.prog 93 #[.slice ao xs.length c, .int .i64 i] w (Ret fun v w' => v = .int .i64 (fr8 (xs.drop i)) ∧ Sat w w' 1) := by
  by_cases h8 : xs.length < i + 8
  · have H0 := Hid.mk' (show fr8 (xs.drop i) = 0 from fr8_bad (fun g => by have := g.2.2.1; rw [List.length_drop] at this; omega))
    clear hr
    go_enter Tryd.func93, Tryd.ntmps93
    go_wp2_with fail
    go_ret
    exact Ret.mk ⟨ret_int (by rw [H0.out]; rfl), Sat.refl _⟩
  · obtain ⟨b, o, rfl, hcells⟩ := hr.addr (by intro e; have := bvs_length xs; rw [e] at this; simp at this; omega)
    clear hcells
    have hbe := be4n_lt (xs.drop i)
    have HG := Hid.mk' (show Good (xs.drop i) ↔ (1 ≤ be4n (xs.drop i) ∧ be4n (xs.drop i) ≤ 8192 ∧ 8 + be4n (xs.drop i) ≤ (xs.drop i).length ∧ (crc ((xs.drop i).take 4 ++ ((xs.drop i).drop 8).take (be4n (xs.drop i)))).toNat = be4n ((xs.drop i).drop 4)) from Iff.rfl)
    have HT := Hid.mk' (ref13_told b o c i xs hr (by omega) (by omega))
    have HN : (xs.drop i).length = xs.length - i := List.length_drop
    have HR := Hid.mk' hr
    by_cases q1 : be4n (xs.drop i) < 1
    · have H0 := Hid.mk' (show fr8 (xs.drop i) = 0 from fr8_bad (fun g => by have := HG.out.1 g; omega))
      clear hr
      go_enter Tryd.func93, Tryd.ntmps93
      go_wp2_with (go_at_call 136; refine (HT.out).mono ?_; rintro e w' ⟨rfl, m, rfl⟩)
      go_ret
      exact Ret.mk ⟨ret_int (by rw [H0.out]; rfl), (Sat.refl _).drewN _⟩
    by_cases q2 : 8192 < be4n (xs.drop i)
    · have H0 := Hid.mk' (show fr8 (xs.drop i) = 0 from fr8_bad (fun g => by have := HG.out.1 g; omega))
      clear hr
      go_enter Tryd.func93, Tryd.ntmps93
      go_wp2_with (go_at_call 136; refine (HT.out).mono ?_; rintro e w' ⟨rfl, m, rfl⟩)
      go_ret
      exact Ret.mk ⟨ret_int (by rw [H0.out]; rfl), (Sat.refl _).drewN _⟩
    by_cases q3 : xs.length < i + 8 + be4n (xs.drop i)
    · have H0 := Hid.mk' (show fr8 (xs.drop i) = 0 from fr8_bad (fun g => by have := HG.out.1 g; omega))
      clear hr
      go_enter Tryd.func93, Tryd.ntmps93
      go_wp2_with (go_at_call 136; refine (HT.out).mono ?_; rintro e w' ⟨rfl, m, rfl⟩)
      go_ret
      exact Ret.mk ⟨ret_int (by rw [H0.out]; rfl), (Sat.refl _).drewN _⟩
    have HT2 := Hid.mk' (show ∀ m, Calls Tryd.prog 136 #[.slice (some ⟨b, o, none⟩) xs.length c, .int .i64 ((i : Int) + 4)] (w.drewN m) (Drew (.int .i64 (be4n (xs.drop (i + 4)) : Int)) (w.drewN m)) from fun m => ref13_told b o c (i + 4) xs hr.drewN (by omega) (by omega))
    have hpl : ((xs.drop (i + 8)).take (be4n (xs.drop i))).length = be4n (xs.drop i) := by rw [List.length_take, List.length_drop]; omega
    have HS := Hid.mk' (show ∀ m c', Calls Tryd.prog 91 #[.slice (some ⟨b, o + (i + 8), none⟩) (be4n (xs.drop i)) c'] (w.drewN m) (Ret fun v w' => v = .int .u32 (ru32 (crc (num4 (be4n (xs.drop i)) ++ (xs.drop (i + 8)).take (be4n (xs.drop i))))) ∧ Sat (w.drewN m) w' 1) from fun m c' => by
      have := ref13_sum (w := w.drewN m) ((xs.drop (i + 8)).take (be4n (xs.drop i))) (some ⟨b, o + (i + 8), none⟩) c' (hr.drewN.sub _ _) (fun h => by cases h) (by omega)
      rw [hpl] at this
      exact this)
    have hnum : num4 (be4n (xs.drop i)) = (xs.drop i).take 4 := num4_be4n (by omega)
    have hd8 : (xs.drop i).drop 8 = xs.drop (i + 8) := by rw [List.drop_drop]
    have hd4 : (xs.drop i).drop 4 = xs.drop (i + 4) := by rw [List.drop_drop]
    have hgood : Good (xs.drop i) ↔ (be4n (xs.drop (i + 4)) : Int) = ru32 (crc (num4 (be4n (xs.drop i)) ++ (xs.drop (i + 8)).take (be4n (xs.drop i)))) := by
      unfold Good
      rw [hnum, hd8, hd4]
      exact ⟨fun h => by rw [← h.2.2.2]; rfl, fun h => ⟨by omega, by omega, by omega, (Int.ofNat.inj h).symm⟩⟩
    refine (ref13_sound_in b o c i xs.length _ _ _ (by omega) (by omega) (by omega) (by omega) hn hc (u32_nonneg _) (u32_lt _) HT HT2 HS).mono ?_
    rintro e w' ⟨v, rfl, rfl, hs⟩
    refine Ret.mk ⟨?_, hs⟩
    by_cases g : Good (xs.drop i)
    · rw [if_pos (hgood.1 g), fr8_good g]
    · rw [if_neg (fun h => g (hgood.2 h)), fr8_bad g]

end Go.Proofs.YtjhlelcopofkkaaDoor
