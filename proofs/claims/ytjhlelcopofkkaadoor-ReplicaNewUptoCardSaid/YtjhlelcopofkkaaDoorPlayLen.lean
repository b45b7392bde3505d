/- How long what lies on a disk can be, and how many arms wait. In plain Lean. -/
import Derived.Test.YtjhlelcopofkkaaDoorPow
namespace Go.Proofs.YtjhlelcopofkkaaDoor
open Go.RowKit

namespace Dk
theorem fail_len (D : Dk) (k : Int) : (D.fail k).bytes.length ≤ D.bytes.length := by
  show (D.bytes.take (D.kept k)).length ≤ _
  rw [List.length_take]; omega
theorem putp_len (D : Dk) (p : List UInt8) : (D.putp p).bytes.length ≤ D.bytes.length + p.length := by
  unfold putp
  split
  · show (D.bytes ++ p).length ≤ _
    rw [List.length_append]; omega
  · omega
theorem gate_len (D : Dk) (L : Dk → Dk) (n : Nat) (hL : ∀ D : Dk, (L D).bytes.length ≤ D.bytes.length + n) : (D.gate L).1.bytes.length ≤ D.bytes.length + n := by
  unfold gate
  split
  · exact Nat.le_add_right _ _
  · split
    · exact Nat.le_add_right _ _
    · exact Nat.le_add_right _ _
    · exact Nat.le_trans (fail_len _ _) (hL _)
theorem gate0_len (D : Dk) : (D.gate id).1.bytes.length ≤ D.bytes.length := gate_len D id 0 (fun _ => Nat.le_refl _)
theorem append_len (D : Dk) (p : List UInt8) : (D.append p).1.bytes.length ≤ D.bytes.length + p.length := by
  have hg := gate_len D (·.putp p) p.length (fun D => putp_len D p)
  unfold append
  split
  · rename_i h0
    have e : (D.gate (·.putp p)).1.bytes = D.bytes := by
      cases hd : D.dead with
      | true => rw [gate_dead hd] at h0; exact absurd h0 (show ¬ (10 : Nat) = 0 by decide)
      | false =>
        cases hk : D.diesB with
        | true => rw [gate_dies hd hk] at h0; exact absurd h0 (show ¬ (10 : Nat) = 0 by decide)
        | false => rw [gate_lives hd hk]; rfl
    split
    · have := putp_len (D.gate (·.putp p)).1 p
      rw [e] at this
      exact this
    · show (D.gate (·.putp p)).1.bytes.length ≤ _
      rw [e]; omega
  · exact hg
theorem sync_len (D : Dk) : D.sync.1.bytes.length ≤ D.bytes.length := by
  have := gate0_len D
  unfold sync
  split
  · exact this
  · exact this
theorem trunc_len (D : Dk) (n : Int) : (D.trunc n).1.bytes.length ≤ D.bytes.length := by
  have := gate0_len D
  unfold trunc
  split
  · exact Nat.le_refl _
  · split
    · show ((D.gate id).1.bytes.take n.toNat).length ≤ _
      rw [List.length_take]; omega
    · exact this
theorem crash_len (D : Dk) (n : Int) : (D.crash n).bytes.length ≤ D.bytes.length := by
  unfold crash
  split
  · exact Nat.le_refl _
  · exact fail_len _ _
theorem wopen_len (D : Dk) : D.wopen.1.bytes.length ≤ D.bytes.length := by
  have h1 := gate0_len D
  unfold wopen
  split
  · split
    · have h2 := trunc_len (D.gate id).1 (size (frames D.bytes))
      split
      · have := sync_len ((D.gate id).1.trunc (size (frames D.bytes))).1
        omega
      · omega
    · have := sync_len (D.gate id).1
      omega
  · exact h1
theorem Ok.wopen {D : Dk} (h : D.Ok) : D.wopen.1.Ok := by
  have hg := h.gate (L := id) (fun _ h => h)
  unfold Dk.wopen
  split
  · split
    · split
      · exact (hg.trunc _).sync
      · exact hg.trunc _
    · exact hg.sync
  · exact hg
theorem wopen_arms (D : Dk) : D.wopen.1.arms.length ≤ D.arms.length := by
  have hg := gate_arms D id (fun _ => rfl)
  unfold wopen
  split
  · split
    · have h2 := trunc_arms (D.gate id).1 (size (frames D.bytes))
      split
      · have := sync_arms ((D.gate id).1.trunc (size (frames D.bytes))).1
        omega
      · omega
    · have := sync_arms (D.gate id).1
      omega
  · exact hg
theorem Ok.pow {D : Dk} (h : D.Ok) {w : World} {s : Stp13} (hs : s.Ok w) : (D.pow s).Ok := by
  unfold Dk.pow
  split
  · exact h.crash _
  split
  · exact h.arm hs.n2 hs.m1 hs.m2
  split
  · exact h.revive
  split
  · exact h.append _
  split
  · exact h.trunc _
  · exact h
theorem pow_len (D : Dk) (s : Stp13) : (D.pow s).bytes.length ≤ D.bytes.length + s.p.length := by
  have h1 := crash_len D s.n
  have h2 := append_len D s.p
  have h3 := trunc_len D s.n
  unfold pow
  split
  · omega
  split
  · exact Nat.le_add_right _ _
  split
  · exact Nat.le_add_right _ _
  split
  · omega
  split
  · omega
  · omega
theorem pow_arms (D : Dk) (s : Stp13) : (D.pow s).arms.length ≤ D.arms.length + 1 := by
  unfold pow
  split
  · unfold crash
    split
    · exact Nat.le_succ _
    · exact Nat.le_succ _
  split
  · show (D.arms ++ [(s.n.toNat, s.m)]).length ≤ _
    simp
  split
  · exact Nat.le_succ _
  split
  · have := append_arms D s.p
    omega
  split
  · have := trunc_arms D s.n
    omega
  · omega
end Dk
theorem put_ok {L : Lg} {D : Dk} (h : D.Ok) (p : List UInt8) : (L.put D p).2.1.Ok := by
  unfold Lg.put
  split
  · split
    · exact h
    · split
      · split
        · exact (h.append _).sync
        · exact (h.append _).sync
      · exact h.append _
  · exact h
theorem put_len (L : Lg) (D : Dk) (p : List UInt8) : (L.put D p).2.1.bytes.length ≤ D.bytes.length + (8 + p.length) := by
  have h1 := Dk.append_len D (wframe p)
  rw [wframe_length] at h1
  have h2 := Dk.sync_len (D.append (wframe p)).1
  unfold Lg.put
  split
  · split
    · exact Nat.le_add_right _ _
    · split
      · split
        · exact Nat.le_trans h2 h1
        · exact Nat.le_trans h2 h1
      · exact h1
  · exact Nat.le_add_right _ _
theorem put_arms (L : Lg) (D : Dk) (p : List UInt8) : (L.put D p).2.1.arms.length ≤ D.arms.length := by
  have h1 := append_arms D (wframe p)
  have h2 := sync_arms (D.append (wframe p)).1
  unfold Lg.put
  split
  · split
    · exact Nat.le_refl _
    · split
      · split
        · exact Nat.le_trans h2 h1
        · exact Nat.le_trans h2 h1
      · exact h1
  · exact Nat.le_refl _
theorem put_lg (L : Lg) (D : Dk) (p : List UInt8) : (L.put D p).1.count ≤ L.count + 1 ∧ (L.put D p).1.size ≤ L.size + 8200 := by
  unfold Lg.put
  split
  · rename_i h
    split
    · exact ⟨Nat.le_succ _, Nat.le_add_right _ _⟩
    · split
      · split
        · exact ⟨Nat.le_refl _, by show L.size + (8 + p.length) ≤ _; omega⟩
        · exact ⟨Nat.le_succ _, Nat.le_add_right _ _⟩
      · exact ⟨Nat.le_succ _, Nat.le_add_right _ _⟩
  · exact ⟨Nat.le_succ _, Nat.le_add_right _ _⟩
theorem s13size_drop {ss : List Stp13} {k : Nat} (h : k < ss.length) : s13size (ss.drop k) = ss[k].p.length + s13size (ss.drop (k + 1)) := by
  rw [List.drop_eq_getElem_cons h]; rfl
end Go.Proofs.YtjhlelcopofkkaaDoor
