/- wal.Frames: a closure over the bytes, and what it does with a function that is handed to it. -/
import Derived.Test.YtjhlelcopofkkaaDoorScanW
namespace Go.Proofs.YtjhlelcopofkkaaDoor
open Go.RowKit

theorem wal_frames {w : World} (s : Value) (ao : Option Addr) (l c : Nat) (h : s = .slice ao l c) :
    Calls Tryd.prog 30 #[s] w (Ret fun v w' => ∃ b, v = .func (.func 95) #[] #[.pointer (some ⟨b, 0, none⟩)] ∧ Sat w w' (1 * blk b [s] 22)) := by
  subst h
  have hmf : ∀ (fn : Fn) (first cap : Array Value) (w : World), (Instr.makeFunc fn first cap).run Tryd.prog w = .ok (.func fn first cap) w := fun _ _ _ _ => rfl
  go_enter Tryd.func30, Tryd.ntmps30
  go_wp2
  go_ret
  exact Ret.mk ⟨_, rfl, (Sat.refl w).new _ _⟩

theorem put_all {cur cs : List Value} (h : cs.length = cur.length) : put cur 0 cs = cs := by
  simp only [put, List.take_zero, List.nil_append, Nat.zero_add]
  rw [List.drop_eq_nil_of_le (by omega), List.append_nil]

set_option maxRecDepth 20000 in
set_option maxHeartbeats 3200000 in
/-- Round by round: 'J pre' holds when 'pre' has been handed on and the next is wanted; 'Q' when the walk is over. -/
theorem frames_yield {gf : FuncId} {caps : Array Value} (xs : List UInt8) (b : Nat) (ao : Option Addr) (c : Nat) (hn : xs.length ≤ 16777216) (hc : xs.length ≤ c) (hg : ∀ args w, (callFunc gf args).run Tryd.prog w = .ok (.enter gf args) w)
    (J : List (List UInt8) → World → Prop) (Q : World → Prop)
    (hJ : ∀ pre w, J pre w → CrcTab w ∧ Rd w ao (bvs xs) ∧ w.cell? ⟨b, 0, none⟩ = some (.slice ao xs.length c))
    (hD : ∀ pre w n, J pre w → J pre (w.drewN n))
    (hY : ∀ pre p rest w w' a cap, J pre w → frames xs = pre ++ p :: rest → Sat w w' (vec 5 1 (.slice (some a) p.length cap) p.length (bvs p)) →
      Calls Tryd.prog gf (#[.int .i64 (size pre + 8 + p.length), .slice (some a) p.length cap] ++ caps) w' (Ret fun v w2 => (v = .bool true ∧ J (pre ++ [p]) w2) ∨ (v = .bool false ∧ Q w2)))
    (hE : ∀ w, J (frames xs) w → Q w)
    (w : World) (h0 : J [] w) :
    Calls Tryd.prog 95 #[.func (.func gf) #[] caps, .pointer (some ⟨b, 0, none⟩)] w (Ret fun v w' => v = .tuple #[] ∧ Q w') := by
  go_enter Tryd.func95, Tryd.ntmps95
  go_wp2
  go_loopw [3] (fun i wr => ∃ (k : Nat) (pre : List (List UInt8)), i = .int .i64 k ∧ Walked xs pre k ∧ J pre wr) (fun i _ => xs.length - (intOf i).toNat)
  case atStart => exact ⟨0, [], rfl, Walked.start xs, h0⟩
  case round =>
    obtain ⟨k, pre, rfl, hW, hj⟩ := hrel
    have HJ := Hid.mk' (hJ pre _ hj)
    have hk := hW.le
    have hcell := HJ.out.2.2
    by_cases hlt : k < xs.length
    · obtain ⟨b1, o1, rfl, _⟩ := HJ.out.2.1.addr (by intro e; have := bvs_length xs; rw [e] at this; simp at this; omega)
      have hrd : Rd wr (some ⟨b1, o1 + k, none⟩) (bvs (xs.drop k)) := by rw [← bvs_drop]; exact HJ.out.2.1.drop k
      have HS := Hid.mk' (show Calls Tryd.prog 96 #[.slice (some ⟨b1, o1 + k, none⟩) (xs.length - k) (c - k)] wr (Drew (.int .i64 (snd (xs.drop k))) wr) from by
        have := wal_sound HJ.out.1 (xs.drop k) _ (c - k) hrd (by rw [List.length_drop]; omega) (by rw [List.length_drop]; omega)
        rw [List.length_drop] at this
        exact this)
      by_cases h0 : snd (xs.drop k) = 0
      · have HQ := Hid.mk' (show ∀ m, Q (wr.drewN m) from fun m => hE _ (by rw [hW.done h0]; exact hD _ _ _ hj))
        rw [h0] at HS
        clear h0 hW hj HJ hJ hD hY hE
        go_wp2_with (go_at_call 96; refine (HS.out).mono ?_; rintro e w' ⟨rfl, m, rfl⟩)
        go_end0
        exact Ret.mk ⟨rfl, HQ.out m⟩
      · obtain ⟨n, hnn⟩ : ∃ n, snd (xs.drop k) = n := ⟨_, rfl⟩
        have h0' : ((n : Int) == 0) = false := beq_eq_false_iff_ne.2 (by omega)
        have hsl := snd_le h0
        rw [hnn, List.length_drop] at hsl
        rw [hnn] at HS
        have HNN := Hid.mk' hnn
        have HC := Hid.mk' (show ∀ (m : Nat) (w3 : World) (A : HP), Sat (wr.drewN m) w3 A → w3.cell? ⟨b, 0, none⟩ = some (.slice (some ⟨b1, o1, none⟩) xs.length c) from fun m w3 A h => ((hD _ _ m hj |> hJ pre _).2.2 |> fun e => (h.below.cell (World.block_lt_of_cell? _ _ e)).trans e))
        have HRD := Hid.mk' (show ∀ (m : Nat) (w3 : World) (A : HP), Sat (wr.drewN m) w3 A → Rd w3 (some ⟨b1, o1 + (k + 8), none⟩) (bvs ((xs.drop (k + 8)).take n)) from fun m w3 A h => ((hD _ _ m hj |> hJ pre _).2.1.mono h.below).sub (k + 8) n)
        have hpl : ((xs.drop (k + 8)).take n).length = n := by rw [List.length_take, List.length_drop]; omega
        have HPL := Hid.mk' (show (bvs ((xs.drop (k + 8)).take n)).length = n by rw [bvs_length, hpl])
        have hfr : frames xs = pre ++ (xs.drop (k + 8)).take n :: frames (xs.drop (k + (8 + n))) := by
          have := (hW.next h0).eq
          rw [hnn] at this
          rw [this]
          simp
        have HY := Hid.mk' (show ∀ (m : Nat) (w' : World) (g cap : Nat), Sat (wr.drewN m) w' (vec 5 1 (.slice (some ⟨g, 0, none⟩) n cap) n (bvs ((xs.drop (k + 8)).take n))) →
            Calls Tryd.prog gf (#[.int .i64 ((k : Int) + (8 + (n : Int))), .slice (some ⟨g, 0, none⟩) n cap] ++ caps) w' (Ret fun v w2 => (v = .bool true ∧ J (pre ++ [(xs.drop (k + 8)).take n]) w2) ∨ (v = .bool false ∧ Q w2)) from fun m w' g cap h => by
          have := hY pre _ _ (wr.drewN m) w' ⟨g, 0, none⟩ cap (hD _ _ m hj) hfr (by rw [hpl]; exact h)
          rw [hpl, ← hW.at_, show (k : Int) + 8 + (n : Int) = (k : Int) + (8 + (n : Int)) by omega] at this
          exact this)
        have HW := Hid.mk' hW
        clear hpl hfr hY hD hJ hj hW HJ hrd hnn h0
        go_wp2_with (first | (go_at_call 96; refine (HS.out).mono ?_; rintro e w' ⟨rfl, m, rfl⟩; have hs0 := Sat.refl (wr.drewN m)) | (at_make; go_loud (refine sl_make rfl _ _ 22 rfl 5 (.int .u8 0) 1 rfl Tryd.underlying22 info_u8 .i64 .i64 _ _ n rfl rfl (by omega) (by omega) (by omega) (by simp only [maxLen]; omega) (by exact hs0) ?_); intro w3 hs5; have hcell3 := HC.out m w3 _ hs5) | ((with_reducible refine gate_op (.call { callee := .builtin .copy, args := #[.tmp 14, .tmp 18], argTypes := #[22, 22] }) rfl ?_); go_loud (refine sl_copy rfl _ _ _ _ rfl 5 Tryd.underlying22 size_u8 _ _ _ _ _ _ rfl rfl _ 0 _ _ (by exact hs5) (bvs ((xs.drop (k + 8)).take n)) (by rw [HPL.out]; exact (Nat.min_eq_right (by omega)).symm) (fun _ => rfl) (by exact HRD.out m _ _ hs5) (by rw [HPL.out, List.length_replicate]; omega) (bvs_one _) ?_); intro w4 hs6))
        rw [put_all (by rw [HPL.out, List.length_replicate])] at hs6
        refine (HY.out m w4 _ n ((hs6.as_vec (n := n) (by rw [HPL.out, Nat.mul_one]) (by simp only [maxLen]; omega)).unone')).mono ?_
        have HNX := Hid.mk' (by have := HW.out.next (by rw [HNN.out]; omega); rw [HNN.out] at this; exact this)
        have hle := HNX.out.le
        rintro e w5 ⟨v, rfl, (⟨rfl, hj5⟩ | ⟨rfl, hq5⟩)⟩
        · go_wp2
          refine ⟨⟨k + (8 + n), pre ++ [(xs.drop (k + 8)).take n], by first | rfl | trivial, HNX.out, hj5⟩, by simp [intOf]; omega⟩
        · go_wp2
          go_end0
          exact Ret.mk ⟨rfl, hq5⟩
    · have hkk : k = xs.length := by omega
      subst hkk
      have HQ := Hid.mk' (show ∀ m, Q (wr.drewN m) from fun m => hE _ (by rw [hW.end_ (Nat.le_refl _)]; exact hD _ _ _ hj))
      have HS := Hid.mk' (show ∀ a c', Calls Tryd.prog 96 #[.slice a 0 c'] wr (Drew (.int .i64 0) wr) from fun a c' => by
        have := wal_sound HJ.out.1 [] a c' (Rd.nil _ _) (by simp) (by simp)
        rw [snd_short (by simp)] at this
        exact this)
      clear hW hj HJ hJ hD hY hE
      go_wp2_with (go_at_call 96; refine (HS.out _ _).mono ?_; rintro e w' ⟨rfl, m, rfl⟩)
      all_goals
        go_end0
        exact Ret.mk ⟨rfl, HQ.out m⟩
end Go.Proofs.YtjhlelcopofkkaaDoor
