/- A disk whose power may fail: what it holds, and what becomes of it. In plain Lean. -/
import Derived.Test.YtjhlelcopofkkaaDoorVo
namespace Go.Proofs.YtjhlelcopofkkaaDoor

/-- What lies on a disk, how much of it is synced, its room, whether it is dead, the arms that wait. -/
structure Dk where
  bytes : List UInt8
  synced : Nat
  room : Nat
  dead : Bool
  arms : List (Nat × Int)

namespace Dk
/-- How many bytes are there when the power has failed. -/
def kept (D : Dk) (keep : Int) : Nat := D.synced + min keep.toNat (D.bytes.length - D.synced)
def fail (D : Dk) (keep : Int) : Dk := { D with bytes := D.bytes.take (D.kept keep), synced := D.kept keep, dead := true }
/-- What every operation goes through first; 'L': what an operation that dies still does. -/
def gate (D : Dk) (L : Dk → Dk) : Dk × Nat :=
  if D.dead = true then (D, 10) else
    match D.arms with
    | [] => (D, 0)
    | (k + 1, keep) :: r => ({ D with arms := (k, keep) :: r }, 0)
    | (0, keep) :: r => ((L { D with arms := r }).fail keep, 10)
def fits (D : Dk) (n : Nat) : Prop := D.bytes.length + n ≤ D.room
instance (D : Dk) (n : Nat) : Decidable (D.fits n) := by unfold fits; infer_instance
def putp (D : Dk) (p : List UInt8) : Dk := if D.fits p.length then { D with bytes := D.bytes ++ p } else D
def append (D : Dk) (p : List UInt8) : Dk × Nat :=
  if (D.gate (·.putp p)).2 = 0 then (if (D.gate (·.putp p)).1.fits p.length then ((D.gate (·.putp p)).1.putp p, 0) else ((D.gate (·.putp p)).1, 9)) else D.gate (·.putp p)
def sync (D : Dk) : Dk × Nat :=
  if (D.gate id).2 = 0 then ({ (D.gate id).1 with synced := (D.gate id).1.bytes.length }, 0) else D.gate id
def trunc (D : Dk) (n : Int) : Dk × Nat :=
  if D.dead = false ∧ (n < 0 ∨ (D.bytes.length : Int) < n) then (D, 1)
  else if (D.gate id).2 = 0 then ({ (D.gate id).1 with bytes := (D.gate id).1.bytes.take n.toNat, synced := min (D.gate id).1.synced n.toNat }, 0) else D.gate id
def arm (D : Dk) (after keep : Int) : Dk := { D with arms := D.arms ++ [(after.toNat, keep)] }
def crash (D : Dk) (keep : Int) : Dk := if D.dead = true then D else D.fail keep
def revive (D : Dk) : Dk := { D with dead := false }
/-- A disk on which these bytes lie. -/
def new (bytes : List UInt8) (room : Int) : Dk := { bytes := bytes, synced := bytes.length, room := (min (max room 0) 1073741824).toNat, dead := false, arms := [] }

/-- Does the operation die? With how much of the tail? What then waits? -/
def diesB (D : Dk) : Bool := match D.arms with
  | (0, _) :: _ => true
  | _ => false
def diesK (D : Dk) : Int := match D.arms with
  | [] => 0
  | (_, keep) :: _ => keep
def rest (D : Dk) : List (Nat × Int) := match D.arms with
  | [] => []
  | (0, _) :: r => r
  | (k + 1, keep) :: r => (k, keep) :: r
theorem gate_eq {D : Dk} (hd : D.dead = false) (L : Dk → Dk) : D.gate L = if D.diesB = true then ((L { D with arms := D.rest }).fail D.diesK, 10) else ({ D with arms := D.rest }, 0) := by
  obtain ⟨b, s, r, d, a⟩ := D
  simp only at hd
  subst hd
  unfold gate diesB rest diesK
  match a with
  | [] => rfl
  | (0, k) :: r => rfl
  | (n + 1, k) :: r => rfl
theorem gate_dead {D : Dk} (hd : D.dead = true) (L : Dk → Dk) : D.gate L = (D, 10) := if_pos hd
theorem gate_cases (D : Dk) (L : Dk → Dk) : (D.gate L).2 = 0 ∨ (D.gate L).2 = 10 := by
  unfold gate
  split
  · exact Or.inr rfl
  · split
    · exact Or.inl rfl
    · exact Or.inl rfl
    · exact Or.inr rfl
/-- It is in order. -/
structure Ok (D : Dk) : Prop where
  synced : D.synced ≤ D.bytes.length
  room : D.room ≤ 1073741824
  bytes : D.bytes.length ≤ 140737488351232
  arms : ∀ x ∈ D.arms, (x.1 : Int) ≤ 9223372036854775807 ∧ -9223372036854775808 ≤ x.2 ∧ x.2 ≤ 9223372036854775807

theorem kept_le {D : Dk} (h : D.synced ≤ D.bytes.length) (keep : Int) : D.kept keep ≤ D.bytes.length := by unfold kept; omega
theorem Ok.fail {D : Dk} (h : D.Ok) (keep : Int) : (D.fail keep).Ok := by
  have := kept_le h.synced keep
  have := h.bytes
  refine ⟨?_, h.room, ?_, h.arms⟩
  · show D.kept keep ≤ (D.bytes.take (D.kept keep)).length
    rw [List.length_take]; omega
  · show (D.bytes.take (D.kept keep)).length ≤ _
    rw [List.length_take]; omega
theorem Ok.putp {D : Dk} (h : D.Ok) (p : List UInt8) : (D.putp p).Ok := by
  unfold Dk.putp
  split
  · rename_i hf
    have := h.synced
    have := h.room
    unfold fits at hf
    refine ⟨?_, h.room, ?_, h.arms⟩
    · show D.synced ≤ (D.bytes ++ p).length
      rw [List.length_append]; omega
    · show (D.bytes ++ p).length ≤ _
      rw [List.length_append]; omega
  · exact h
theorem Ok.gate {D : Dk} (h : D.Ok) {L : Dk → Dk} (hL : ∀ D' : Dk, D'.Ok → (L D').Ok) : (D.gate L).1.Ok := by
  unfold Dk.gate
  split
  · exact h
  · split
    · exact h
    · rename_i k keep r he
      exact ⟨h.synced, h.room, h.bytes, fun x hx => by
        rcases List.mem_cons.1 hx with rfl | hx
        · have := h.arms (k + 1, keep) (by rw [he]; exact List.mem_cons_self ..)
          exact ⟨by omega, this.2⟩
        · exact h.arms x (by rw [he]; exact List.mem_cons_of_mem _ hx)⟩
    · rename_i keep r he
      exact (hL { D with arms := r } ⟨h.synced, h.room, h.bytes, fun x hx => h.arms x (by rw [he]; exact List.mem_cons_of_mem _ hx)⟩).fail keep
theorem Ok.rest {D : Dk} (h : D.Ok) : ({ D with arms := D.rest } : Dk).Ok := by
  refine ⟨h.synced, h.room, h.bytes, fun x hx => ?_⟩
  unfold Dk.rest at hx
  simp only at hx
  split at hx
  · cases hx
  · rename_i r he
    exact h.arms x (by rw [he]; exact List.mem_cons_of_mem _ hx)
  · rename_i k keep r he
    rcases List.mem_cons.1 hx with rfl | hx
    · have := h.arms (k + 1, keep) (by rw [he]; exact List.mem_cons_self ..)
      exact ⟨by omega, this.2⟩
    · exact h.arms x (by rw [he]; exact List.mem_cons_of_mem _ hx)
theorem Ok.diesK {D : Dk} (h : D.Ok) : -9223372036854775808 ≤ D.diesK ∧ D.diesK ≤ 9223372036854775807 := by
  unfold Dk.diesK
  split
  · omega
  · rename_i k keep r he
    exact (h.arms (k, keep) (by rw [he]; exact List.mem_cons_self ..)).2
theorem Ok.append {D : Dk} (h : D.Ok) (p : List UInt8) : (D.append p).1.Ok := by
  have hg := h.gate (L := (·.putp p)) (fun D' h' => h'.putp p)
  unfold Dk.append
  split
  · split
    · exact hg.putp p
    · exact hg
  · exact hg
theorem Ok.sync {D : Dk} (h : D.Ok) : D.sync.1.Ok := by
  have hg := h.gate (L := id) (fun D' h' => h')
  unfold Dk.sync
  split
  · exact ⟨Nat.le_refl _, hg.room, hg.bytes, hg.arms⟩
  · exact hg
theorem Ok.trunc {D : Dk} (h : D.Ok) (n : Int) : (D.trunc n).1.Ok := by
  have hg := h.gate (L := id) (fun D' h' => h')
  unfold Dk.trunc
  split
  · exact h
  · split
    · have := hg.synced
      have := hg.bytes
      refine ⟨?_, hg.room, ?_, hg.arms⟩
      · show min (D.gate id).1.synced n.toNat ≤ ((D.gate id).1.bytes.take n.toNat).length
        rw [List.length_take]; omega
      · show ((D.gate id).1.bytes.take n.toNat).length ≤ _
        rw [List.length_take]; omega
    · exact hg
theorem Ok.arm {D : Dk} (h : D.Ok) {after keep : Int} (h1 : after ≤ 9223372036854775807) (h2 : -9223372036854775808 ≤ keep) (h3 : keep ≤ 9223372036854775807) : (D.arm after keep).Ok :=
  ⟨h.synced, h.room, h.bytes, fun x hx => by
    rcases List.mem_append.1 hx with hx | hx
    · exact h.arms x hx
    · rw [List.mem_singleton] at hx
      subst hx
      exact ⟨by omega, h2, h3⟩⟩
theorem Ok.crash {D : Dk} (h : D.Ok) (keep : Int) : (D.crash keep).Ok := by
  unfold Dk.crash
  split
  · exact h
  · exact h.fail keep
theorem Ok.revive {D : Dk} (h : D.Ok) : D.revive.Ok := ⟨h.synced, h.room, h.bytes, h.arms⟩
theorem Ok.new {bytes : List UInt8} (h : bytes.length ≤ 140737488351232) (room : Int) : (Dk.new bytes room).Ok :=
  ⟨Nat.le_refl _, by show (min (max room 0) 1073741824).toNat ≤ _; omega, h, fun x hx => by cases hx⟩
end Dk
end Go.Proofs.YtjhlelcopofkkaaDoor
