/- What the laws of layer 12 say of a disk, in plain Lean. -/
import Derived.Test.YtjhlelcopofkkaaDoorSame
namespace Go.Proofs.YtjhlelcopofkkaaDoor

namespace Dk
theorem act1 (D : Dk) {s : Stp} (h : s.kind = 1) : D.act s = (⟨[], 0, (D.append s.data.data.toList).2⟩, (D.append s.data.data.toList).1) := by unfold Dk.act; rw [if_pos h]
theorem act2 (D : Dk) {s : Stp} (h : s.kind = 2) : D.act s = (⟨[], 0, D.sync.2⟩, D.sync.1) := by unfold Dk.act; rw [if_neg (by omega), if_pos h]
theorem act3 (D : Dk) {s : Stp} (h : s.kind = 3) : D.act s = (⟨if (D.gate id).2 = 0 then (D.gate id).1.bytes else [], 0, (D.gate id).2⟩, (D.gate id).1) := by unfold Dk.act; rw [if_neg (by omega), if_neg (by omega), if_pos h]
theorem act4 (D : Dk) {s : Stp} (h : s.kind = 4) : D.act s = (⟨[], 0, (D.trunc s.n).2⟩, (D.trunc s.n).1) := by unfold Dk.act; rw [if_neg (by omega), if_neg (by omega), if_neg (by omega), if_pos h]
theorem act5 (D : Dk) {s : Stp} (h : s.kind = 5) : D.act s = (⟨[], 0, 0⟩, D.arm s.n s.m) := by unfold Dk.act; rw [if_neg (by omega), if_neg (by omega), if_neg (by omega), if_neg (by omega), if_pos h]
theorem act6 (D : Dk) {s : Stp} (h : s.kind = 6) : D.act s = (⟨[], 0, 0⟩, D.crash s.n) := by unfold Dk.act; rw [if_neg (by omega), if_neg (by omega), if_neg (by omega), if_neg (by omega), if_neg (by omega), if_pos h]
theorem act7 (D : Dk) {s : Stp} (h : s.kind = 7) : D.act s = (⟨[], if D.dead = true then 1 else 0, 0⟩, D) := by unfold Dk.act; rw [if_neg (by omega), if_neg (by omega), if_neg (by omega), if_neg (by omega), if_neg (by omega), if_neg (by omega), if_pos h]
theorem act8 (D : Dk) {s : Stp} (h : s.kind = 8) : D.act s = (⟨[], 0, 0⟩, D.revive) := by unfold Dk.act; rw [if_neg (by omega), if_neg (by omega), if_neg (by omega), if_neg (by omega), if_neg (by omega), if_neg (by omega), if_neg (by omega), if_pos h]
theorem act9 (D : Dk) {s : Stp} (h : s.kind = 9) : D.act s = (⟨D.bytes, D.synced, 0⟩, D) := by unfold Dk.act; rw [if_neg (by omega), if_neg (by omega), if_neg (by omega), if_neg (by omega), if_neg (by omega), if_neg (by omega), if_neg (by omega), if_neg (by omega), if_pos h]
theorem act0 (D : Dk) {s : Stp} (h : s.kind < 1 ∨ 9 < s.kind) : D.act s = (⟨[], 0, 0⟩, D) := by unfold Dk.act; rw [if_neg (by omega), if_neg (by omega), if_neg (by omega), if_neg (by omega), if_neg (by omega), if_neg (by omega), if_neg (by omega), if_neg (by omega), if_neg (by omega)]
theorem kinds (s : Stp) : s.kind = 1 ∨ s.kind = 2 ∨ s.kind = 3 ∨ s.kind = 4 ∨ s.kind = 5 ∨ s.kind = 6 ∨ s.kind = 7 ∨ s.kind = 8 ∨ s.kind = 9 ∨ (s.kind < 1 ∨ 9 < s.kind) := by omega

theorem gate_none {D : Dk} (ha : D.arms = []) (L : Dk → Dk) : D.gate L = (D, if D.dead = true then 10 else 0) := by
  unfold gate
  by_cases hd : D.dead = true
  · rw [if_pos hd, if_pos hd]
  · rw [if_neg hd, if_neg hd, ha]

/-- Without arms: what is dead is synced. -/
structure Calm (D : Dk) (R : Nat) : Prop where
  ok : D.Ok
  arms : D.arms = []
  room : D.room = R
  dead : D.dead = true → D.synced = D.bytes.length
theorem Calm.new (bytes : List UInt8) (h : bytes.length ≤ 140737488351232) (room : Int) : Calm (Dk.new bytes room) (Dk.new bytes room).room := ⟨Ok.new h room, rfl, rfl, fun h => by cases h⟩
theorem fail_synced {D : Dk} (h : D.synced ≤ D.bytes.length) (keep : Int) : (D.fail keep).synced = (D.fail keep).bytes.length := by
  have := kept_le h keep
  show D.kept keep = (D.bytes.take (D.kept keep)).length
  rw [List.length_take]; omega
theorem append_none {D : Dk} (ha : D.arms = []) (p : List UInt8) : D.append p = if D.dead = true then (D, 10) else if D.fits p.length then (D.putp p, 0) else (D, 9) := by
  unfold Dk.append
  rw [gate_none ha]
  by_cases hd : D.dead = true
  · rw [if_pos hd, if_pos hd, if_neg (show ¬ (10 : Nat) = 0 by decide)]
  · rw [if_neg hd, if_neg hd, if_pos rfl]
theorem sync_none {D : Dk} (ha : D.arms = []) : D.sync = if D.dead = true then (D, 10) else ({ D with synced := D.bytes.length }, 0) := by
  unfold Dk.sync
  rw [gate_none ha]
  by_cases hd : D.dead = true
  · rw [if_pos hd, if_pos hd, if_neg (show ¬ (10 : Nat) = 0 by decide)]
  · rw [if_neg hd, if_neg hd, if_pos rfl]
theorem trunc_none {D : Dk} (ha : D.arms = []) (n : Int) : D.trunc n = if D.dead = true then (D, 10) else if n < 0 ∨ (D.bytes.length : Int) < n then (D, 1) else ({ D with bytes := D.bytes.take n.toNat, synced := min D.synced n.toNat }, 0) := by
  unfold Dk.trunc
  rw [gate_none ha]
  by_cases hd : D.dead = true
  · rw [if_neg (by rw [hd]; simp), if_pos hd, if_pos hd, if_neg (show ¬ (10 : Nat) = 0 by decide)]
  · have hd' : D.dead = false := by simpa using hd
    rw [if_neg hd, if_neg hd]
    by_cases hn : n < 0 ∨ (D.bytes.length : Int) < n
    · rw [if_pos ⟨hd', hn⟩, if_pos hn]
    · rw [if_neg (fun h => hn h.2), if_neg hn, if_pos rfl]
theorem Calm.act {D : Dk} {R : Nat} (h : D.Calm R) {s : Stp} (hs : s.Ok) (h5 : s.kind ≠ 5) : Calm (D.act s).2 R := by
  have hok := h.ok.act hs
  rcases kinds s with e | e | e | e | e | e | e | e | e | e
  · rw [act1 D e, append_none h.arms] at hok ⊢
    by_cases hd : D.dead = true
    · rw [if_pos hd]; exact h
    · rw [if_neg hd] at hok ⊢
      by_cases hf : D.fits s.data.data.toList.length
      · rw [if_pos hf] at hok ⊢
        refine ⟨hok, ?_, ?_, ?_⟩
        · show (D.putp _).arms = []
          rw [putp_arms]; exact h.arms
        · show (D.putp _).room = R
          unfold Dk.putp; rw [if_pos hf]; exact h.room
        · intro hd2
          have : (D.putp s.data.data.toList).dead = D.dead := by unfold Dk.putp; rw [if_pos hf]
          exact absurd (this.symm.trans hd2) hd
      · rw [if_neg hf]; exact h
  · rw [act2 D e, sync_none h.arms] at hok ⊢
    by_cases hd : D.dead = true
    · rw [if_pos hd]; exact h
    · rw [if_neg hd] at hok ⊢
      exact ⟨hok, h.arms, h.room, fun _ => rfl⟩
  · rw [act3 D e, gate_none h.arms]; exact h
  · rw [act4 D e, trunc_none h.arms] at hok ⊢
    by_cases hd : D.dead = true
    · rw [if_pos hd]; exact h
    · rw [if_neg hd] at hok ⊢
      by_cases hn : s.n < 0 ∨ (D.bytes.length : Int) < s.n
      · rw [if_pos hn]; exact h
      · rw [if_neg hn] at hok ⊢
        exact ⟨hok, h.arms, h.room, fun hd2 => absurd hd2 hd⟩
  · exact absurd e h5
  · rw [act6 D e] at hok ⊢
    unfold Dk.crash at hok ⊢
    by_cases hd : D.dead = true
    · rw [if_pos hd]; exact h
    · rw [if_neg hd] at hok ⊢
      exact ⟨hok, h.arms, h.room, fun _ => fail_synced h.ok.synced _⟩
  · rw [act7 D e]; exact h
  · rw [act8 D e] at hok ⊢
    exact ⟨hok, h.arms, h.room, fun hd => by cases hd⟩
  · rw [act9 D e]; exact h
  · rw [act0 D e]; exact h
theorem Calm.crash {D : Dk} {R : Nat} (h : D.Calm R) (keep : Int) : Calm (D.crash keep) R ∧ (D.crash keep).dead = true := by
  unfold Dk.crash
  by_cases hd : D.dead = true
  · rw [if_pos hd]; exact ⟨h, hd⟩
  · rw [if_neg hd]; exact ⟨⟨h.ok.fail keep, h.arms, h.room, fun _ => fail_synced h.ok.synced _⟩, rfl⟩
/-- Behind a power failure it is as a new one. -/
theorem Calm.forgets {D : Dk} {room : Int} (h : D.Calm (Dk.new [] room).room) (hd : D.dead = true) : D.revive = Dk.new D.bytes room := by
  obtain ⟨b, s, r, d, a⟩ := D
  have h1 : a = [] := h.arms
  have h2 : r = (min (max room 0) 1073741824).toNat := h.room
  have h3 : s = b.length := h.dead hd
  subst h1; subst h2; subst h3
  rfl

/-! An arm is a crash at its place. -/
def withArms (B : Dk) (l : List (Nat × Int)) : Dk := { B with arms := l }
/-- Is the step an operation of this disk, as it is now? -/
def counts (B : Dk) (s : Stp) : Bool := !B.dead && (decide (1 ≤ s.kind ∧ s.kind ≤ 4) && (decide (s.kind ≠ 4) || decide (0 ≤ s.n ∧ s.n ≤ B.bytes.length)))
theorem withArms_self {B : Dk} (h : B.arms = []) : B = B.withArms [] := by
  obtain ⟨b, s, r, d, a⟩ := B
  simp only at h
  subst h
  rfl
theorem gate_with_dead {B : Dk} (hd : B.dead = true) (l : List (Nat × Int)) (L : Dk → Dk) : (B.withArms l).gate L = (B.withArms l, 10) := gate_dead (D := B.withArms l) hd L
theorem gate_with_more {B : Dk} (hd : B.dead = false) (k : Nat) (keep : Int) (r : List (Nat × Int)) (L : Dk → Dk) : (B.withArms ((k + 1, keep) :: r)).gate L = (B.withArms ((k, keep) :: r), 0) := by
  obtain ⟨b, s, ro, d, a⟩ := B
  simp only at hd
  subst hd
  rfl
theorem gate_with_now {B : Dk} (hd : B.dead = false) (keep : Int) (r : List (Nat × Int)) (L : Dk → Dk) : (B.withArms ((0, keep) :: r)).gate L = ((L (B.withArms r)).fail keep, 10) := by
  obtain ⟨b, s, ro, d, a⟩ := B
  simp only at hd
  subst hd
  rfl
/-- A step that is no operation (or a dead disk's): the arms stay. -/
theorem act_uncounted {B : Dk} (ha : B.arms = []) {s : Stp} (h5 : s.kind ≠ 5) (hc : B.counts s = false) (l : List (Nat × Int)) : (B.withArms l).act s = ((B.act s).1, (B.act s).2.withArms l) := by
  have hB := withArms_self ha
  unfold counts at hc
  rcases kinds s with e | e | e | e | e | e | e | e | e | e
  · have hd : B.dead = true := by
      have h1 : decide (1 ≤ s.kind ∧ s.kind ≤ 4) = true := decide_eq_true (by omega)
      have h2 : decide (s.kind ≠ 4) = true := decide_eq_true (by omega)
      rw [h1, h2] at hc; simpa using hc
    rw [act1 _ e, act1 _ e, append_none ha, if_pos hd]
    unfold Dk.append
    rw [gate_with_dead hd]
    rfl
  · have hd : B.dead = true := by
      have h1 : decide (1 ≤ s.kind ∧ s.kind ≤ 4) = true := decide_eq_true (by omega)
      have h2 : decide (s.kind ≠ 4) = true := decide_eq_true (by omega)
      rw [h1, h2] at hc; simpa using hc
    rw [act2 _ e, act2 _ e, sync_none ha, if_pos hd]
    unfold Dk.sync
    rw [gate_with_dead hd]
    rfl
  · have hd : B.dead = true := by
      have h1 : decide (1 ≤ s.kind ∧ s.kind ≤ 4) = true := decide_eq_true (by omega)
      have h2 : decide (s.kind ≠ 4) = true := decide_eq_true (by omega)
      rw [h1, h2] at hc; simpa using hc
    rw [act3 _ e, act3 _ e, gate_none ha, if_pos hd, gate_with_dead hd]
    rfl
  · rw [act4 _ e, act4 _ e, trunc_none ha]
    by_cases hd : B.dead = true
    · rw [if_pos hd]
      unfold Dk.trunc
      rw [if_neg (by show ¬ (B.dead = false ∧ _); rw [hd]; simp), gate_with_dead hd]
      rfl
    · have hd' : B.dead = false := by simpa using hd
      have hn : s.n < 0 ∨ (B.bytes.length : Int) < s.n := by
        have h1 : decide (1 ≤ s.kind ∧ s.kind ≤ 4) = true := decide_eq_true (by omega)
        have h2 : decide (s.kind ≠ 4) = false := decide_eq_false (by omega)
        rw [h1, h2, hd'] at hc
        have h3 : ¬ (0 ≤ s.n ∧ s.n ≤ B.bytes.length) := by simpa using hc
        omega
      rw [if_neg hd, if_pos hn]
      unfold Dk.trunc
      rw [if_pos ⟨hd', hn⟩]
  · exact absurd e h5
  · rw [act6 _ e, act6 _ e]
    unfold Dk.crash
    by_cases hd : B.dead = true
    · rw [if_pos hd, if_pos (show (B.withArms l).dead = true from hd)]
    · rw [if_neg hd, if_neg (show ¬ (B.withArms l).dead = true from hd)]
      rfl
  · rw [act7 _ e, act7 _ e]; rfl
  · rw [act8 _ e, act8 _ e]; rfl
  · rw [act9 _ e, act9 _ e]; rfl
  · rw [act0 _ e, act0 _ e]
theorem counts_live {B : Dk} {s : Stp} (h : B.counts s = true) : B.dead = false ∧ 1 ≤ s.kind ∧ s.kind ≤ 4 ∧ (s.kind = 4 → 0 ≤ s.n ∧ s.n ≤ B.bytes.length) := by
  unfold counts at h
  simp only [Bool.and_eq_true, Bool.or_eq_true, decide_eq_true_eq, Bool.not_eq_true'] at h
  exact ⟨h.1, h.2.1.1, h.2.1.2, fun e => h.2.2.resolve_left (fun h' => h' e)⟩
/-- An operation while the arm still waits. -/
theorem act_waits {B : Dk} (ha : B.arms = []) {s : Stp} (hc : B.counts s = true) (k : Nat) (keep : Int) : (B.withArms [(k + 1, keep)]).act s = ((B.act s).1, (B.act s).2.withArms [(k, keep)]) := by
  obtain ⟨hd, h1, h4, hn⟩ := counts_live hc
  have hd' : ¬ B.dead = true := by rw [hd]; simp
  obtain e | e | e | e : s.kind = 1 ∨ s.kind = 2 ∨ s.kind = 3 ∨ s.kind = 4 := by omega
  · rw [act1 _ e, act1 _ e, append_none ha, if_neg hd']
    unfold Dk.append
    rw [gate_with_more hd]
    show (_, _) = _
    rw [if_pos rfl]
    by_cases hf : B.fits s.data.data.toList.length
    · rw [if_pos hf, if_pos (show (B.withArms [(k, keep)]).fits _ from hf)]
      unfold Dk.putp
      rw [if_pos hf, if_pos (show (B.withArms [(k, keep)]).fits _ from hf)]
      rfl
    · rw [if_neg hf, if_neg (show ¬ (B.withArms [(k, keep)]).fits _ from hf)]
  · rw [act2 _ e, act2 _ e, sync_none ha, if_neg hd']
    unfold Dk.sync
    rw [gate_with_more hd]
    rfl
  · rw [act3 _ e, act3 _ e, gate_none ha, if_neg hd', gate_with_more hd]
    rfl
  · rw [act4 _ e, act4 _ e, trunc_none ha, if_neg hd', if_neg (by have := hn e; omega)]
    unfold Dk.trunc
    rw [if_neg (by have := hn e; show ¬ (_ ∧ (_ ∨ (B.bytes.length : Int) < s.n)); omega), gate_with_more hd]
    rfl
/-- What lies there when the arm's operation has died. -/
def cutB (B : Dk) (s : Stp) (keep : Int) : Dk := (if s.kind = 1 then B.putp s.data.data.toList else B).fail keep
theorem act_dies {B : Dk} (ha : B.arms = []) {s : Stp} (hc : B.counts s = true) (keep : Int) : (B.withArms [(0, keep)]).act s = (⟨[], 0, 10⟩, B.cutB s keep) := by
  obtain ⟨hd, h1, h4, hn⟩ := counts_live hc
  have hB := withArms_self ha
  obtain e | e | e | e : s.kind = 1 ∨ s.kind = 2 ∨ s.kind = 3 ∨ s.kind = 4 := by omega
  · rw [act1 _ e]
    unfold Dk.append
    rw [gate_with_now hd, if_neg (show ¬ (10 : Nat) = 0 by decide), ← hB]
    unfold cutB
    rw [if_pos e]
  · rw [act2 _ e]
    unfold Dk.sync
    rw [gate_with_now hd, if_neg (show ¬ (10 : Nat) = 0 by decide), ← hB]
    unfold cutB
    rw [if_neg (by omega)]
    rfl
  · rw [act3 _ e, gate_with_now hd, ← hB, if_neg (show ¬ (10 : Nat) = 0 by decide)]
    unfold cutB
    rw [if_neg (by omega)]
    rfl
  · rw [act4 _ e]
    unfold Dk.trunc
    rw [if_neg (by have := hn e; show ¬ (_ ∧ (_ ∨ (B.bytes.length : Int) < s.n)); omega), gate_with_now hd, if_neg (show ¬ (10 : Nat) = 0 by decide), ← hB]
    unfold cutB
    rw [if_neg (by omega)]
    rfl
theorem cutB_arms {B : Dk} (ha : B.arms = []) (s : Stp) (keep : Int) : (B.cutB s keep).arms = [] := by
  unfold cutB
  show (if s.kind = 1 then B.putp s.data.data.toList else B).arms = []
  split
  · rw [putp_arms]; exact ha
  · exact ha
theorem Calm.cutB {B : Dk} {R : Nat} (h : B.Calm R) (s : Stp) (keep : Int) : Calm (B.cutB s keep) R := by
  unfold Dk.cutB
  by_cases e : s.kind = 1
  · rw [if_pos e]
    refine ⟨(h.ok.putp _).fail keep, ?_, ?_, fun _ => fail_synced (h.ok.putp _).synced _⟩
    · show (B.putp _).arms = []
      rw [putp_arms]; exact h.arms
    · show (B.putp _).room = R
      unfold Dk.putp; split <;> exact h.room
  · rw [if_neg e]
    exact ⟨h.ok.fail keep, h.arms, h.room, fun _ => fail_synced h.ok.synced _⟩
end Dk
end Go.Proofs.YtjhlelcopofkkaaDoor
