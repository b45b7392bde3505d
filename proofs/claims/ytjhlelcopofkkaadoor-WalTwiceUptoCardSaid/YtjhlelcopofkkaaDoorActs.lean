/- What one step does to a disk, whatever waits: in plain Lean. -/
import Derived.Test.YtjhlelcopofkkaaDoorDkLaws
namespace Go.Proofs.YtjhlelcopofkkaaDoor

namespace Dk
/-- As it is once what waits has counted. -/
def ticked (D : Dk) : Dk := { D with arms := D.rest }
theorem dies_len {D : Dk} (h : D.diesB = true) : D.rest.length + 1 = D.arms.length := by
  unfold diesB at h
  unfold rest
  match ha : D.arms with
  | [] => rw [ha] at h; cases h
  | (0, k) :: r => rfl
  | (n + 1, k) :: r => rw [ha] at h; cases h
theorem lives_len {D : Dk} (h : D.diesB = false) : D.rest.length = D.arms.length := by
  unfold diesB at h
  unfold rest
  match ha : D.arms with
  | [] => rfl
  | (0, k) :: r => rw [ha] at h; cases h
  | (n + 1, k) :: r => rfl
/-- What lies there in the moment of a death. -/
def laid (D : Dk) (s : Stp) : Dk := if s.kind = 1 then D.ticked.putp s.data.data.toList else D.ticked
theorem gate_dies {D : Dk} (hd : D.dead = false) (hk : D.diesB = true) (L : Dk → Dk) : D.gate L = ((L D.ticked).fail D.diesK, 10) := by rw [gate_eq hd, if_pos hk]; rfl
theorem gate_lives {D : Dk} (hd : D.dead = false) (hk : D.diesB = false) (L : Dk → Dk) : D.gate L = (D.ticked, 0) := by rw [gate_eq hd, if_neg (by rw [hk]; simp)]; rfl
theorem act_dead {D : Dk} (hd : D.dead = true) {s : Stp} (h : 1 ≤ s.kind ∧ s.kind ≤ 4) : D.act s = (⟨[], 0, 10⟩, D) := by
  obtain e | e | e | e : s.kind = 1 ∨ s.kind = 2 ∨ s.kind = 3 ∨ s.kind = 4 := by omega
  · rw [act1 _ e]; unfold Dk.append; rw [gate_dead hd]; rfl
  · rw [act2 _ e]; unfold Dk.sync; rw [gate_dead hd]; rfl
  · rw [act3 _ e, gate_dead hd]; rfl
  · rw [act4 _ e]; unfold Dk.trunc; rw [if_neg (by rw [hd]; simp), gate_dead hd]; rfl
theorem act_dying {D : Dk} (hd : D.dead = false) (hk : D.diesB = true) {s : Stp} (h : 1 ≤ s.kind ∧ s.kind ≤ 4) (h4 : s.kind = 4 → 0 ≤ s.n ∧ s.n ≤ D.bytes.length) : D.act s = (⟨[], 0, 10⟩, (D.laid s).fail D.diesK) := by
  obtain e | e | e | e : s.kind = 1 ∨ s.kind = 2 ∨ s.kind = 3 ∨ s.kind = 4 := by omega
  · rw [act1 _ e]; unfold Dk.append laid; rw [gate_dies hd hk, if_pos e]; rfl
  · rw [act2 _ e]; unfold Dk.sync laid; rw [gate_dies hd hk, if_neg (show ¬ s.kind = 1 by omega)]; rfl
  · rw [act3 _ e, gate_dies hd hk]; unfold laid; rw [if_neg (show ¬ s.kind = 1 by omega)]; rfl
  · rw [act4 _ e]; unfold Dk.trunc laid; rw [if_neg (by have := h4 e; omega), gate_dies hd hk, if_neg (show ¬ s.kind = 1 by omega)]; rfl
theorem act1_lives {D : Dk} (hd : D.dead = false) (hk : D.diesB = false) {s : Stp} (e : s.kind = 1) :
    D.act s = if D.fits s.data.data.toList.length then (⟨[], 0, 0⟩, { D.ticked with bytes := D.bytes ++ s.data.data.toList }) else (⟨[], 0, 9⟩, D.ticked) := by
  rw [act1 _ e]; unfold Dk.append; rw [gate_lives hd hk]
  show (_, _) = _
  rw [if_pos rfl]
  by_cases hf : D.fits s.data.data.toList.length
  · rw [if_pos hf, if_pos (show D.ticked.fits _ from hf)]
    unfold putp
    rw [if_pos (show D.ticked.fits _ from hf)]
    rfl
  · rw [if_neg hf, if_neg (show ¬ D.ticked.fits _ from hf)]
theorem act2_lives {D : Dk} (hd : D.dead = false) (hk : D.diesB = false) {s : Stp} (e : s.kind = 2) : D.act s = (⟨[], 0, 0⟩, { D.ticked with synced := D.bytes.length }) := by
  rw [act2 _ e]; unfold Dk.sync; rw [gate_lives hd hk]; rfl
theorem act3_lives {D : Dk} (hd : D.dead = false) (hk : D.diesB = false) {s : Stp} (e : s.kind = 3) : D.act s = (⟨D.bytes, 0, 0⟩, D.ticked) := by
  rw [act3 _ e, gate_lives hd hk]; rfl
theorem act4_lives {D : Dk} (hd : D.dead = false) (hk : D.diesB = false) {s : Stp} (e : s.kind = 4) (h4 : 0 ≤ s.n ∧ s.n ≤ D.bytes.length) : D.act s = (⟨[], 0, 0⟩, { D.ticked with bytes := D.bytes.take s.n.toNat, synced := min D.synced s.n.toNat }) := by
  rw [act4 _ e]; unfold Dk.trunc; rw [if_neg (by omega), gate_lives hd hk]; rfl
theorem act4_bad {D : Dk} (hd : D.dead = false) {s : Stp} (e : s.kind = 4) (h4 : s.n < 0 ∨ (D.bytes.length : Int) < s.n) : D.act s = (⟨[], 0, 1⟩, D) := by
  rw [act4 _ e]; unfold Dk.trunc; rw [if_pos ⟨hd, h4⟩]

/-! What is left when it has died. -/
theorem laid_bytes (D : Dk) (s : Stp) : (D.laid s).bytes = if s.kind = 1 ∧ D.fits s.data.data.toList.length then D.bytes ++ s.data.data.toList else D.bytes := by
  unfold laid putp
  by_cases e : s.kind = 1
  · by_cases hf : D.fits s.data.data.toList.length
    · rw [if_pos e, if_pos (show D.ticked.fits _ from hf), if_pos ⟨e, hf⟩]; rfl
    · rw [if_pos e, if_neg (show ¬ D.ticked.fits _ from hf), if_neg (fun h => hf h.2)]; rfl
  · rw [if_neg e, if_neg (fun h => e h.1)]; rfl
theorem laid_synced (D : Dk) (s : Stp) : (D.laid s).synced = D.synced := by
  unfold laid putp
  repeat' split
  all_goals rfl
theorem laid_arms (D : Dk) (s : Stp) : (D.laid s).arms = D.rest := by
  unfold laid putp
  repeat' split
  all_goals rfl
theorem laid_room (D : Dk) (s : Stp) : (D.laid s).room = D.room := by
  unfold laid putp
  repeat' split
  all_goals rfl
theorem laid_ok {D : Dk} (h : D.Ok) (s : Stp) : (D.laid s).Ok := by
  unfold laid
  split
  · exact Dk.Ok.putp h.rest _
  · exact h.rest
theorem laid_pre (D : Dk) (s : Stp) : D.bytes <+: (D.laid s).bytes := by
  rw [laid_bytes]
  split
  · exact List.prefix_append _ _
  · exact List.prefix_refl _
/-- A power failure leaves the synced head, and a head of what there was. -/
theorem fail_good {D : Dk} (h : D.synced ≤ D.bytes.length) (keep : Int) : D.bytes.take D.synced <+: (D.fail keep).bytes ∧ (D.fail keep).bytes <+: D.bytes ∧ (D.fail keep).synced = (D.fail keep).bytes.length ∧ D.synced ≤ (D.fail keep).bytes.length := by
  have h1 := kept_le h keep
  have h2 : D.synced ≤ D.kept keep := by unfold kept; omega
  have h3 := fail_synced h keep
  refine ⟨?_, List.take_prefix _ _, h3, by rw [← h3]; exact h2⟩
  show D.bytes.take D.synced <+: D.bytes.take (D.kept keep)
  rw [show D.bytes.take D.synced = (D.bytes.take (D.kept keep)).take D.synced by rw [List.take_take, Nat.min_eq_left h2]]
  exact List.take_prefix _ _
theorem take_pre {l m : List UInt8} (h : l <+: m) {n : Nat} (hn : n ≤ l.length) : l.take n = m.take n := by
  obtain ⟨r, rfl⟩ := h
  rw [List.take_append_of_le_length hn]
/-- What the death of an operation leaves. -/
theorem dying_good {D : Dk} (h : D.Ok) (s : Stp) (keep : Int) : D.bytes.take D.synced <+: ((D.laid s).fail keep).bytes ∧ ((D.laid s).fail keep).bytes <+: (D.laid s).bytes ∧ ((D.laid s).fail keep).synced = ((D.laid s).fail keep).bytes.length ∧ D.synced ≤ ((D.laid s).fail keep).bytes.length := by
  have hl := laid_ok h s
  have hs := laid_synced D s
  have := fail_good hl.synced keep
  rw [hs] at this
  rwa [← take_pre (laid_pre D s) h.synced] at this
end Dk
end Go.Proofs.YtjhlelcopofkkaaDoor
