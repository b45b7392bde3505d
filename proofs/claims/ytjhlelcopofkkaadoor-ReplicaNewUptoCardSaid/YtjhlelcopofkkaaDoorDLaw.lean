/- What the laws of layer 12 say of a disk, in plain Lean. · What one step does to a disk, whatever waits: in plain Lean. · 'append' of a text to bytes that are held. -/
import Derived.Test.YtjhlelcopofkkaaDoorAct
import Derived.Test.YtjhlelcopofkkaaDoorBase
import Derived.Lib.AppendStr

/-! DkLaws -/
namespace Go.Proofs.YtjhlelcopofkkaaDoor

namespace Dk
theorem act1 (D : Dk) {s : Stp} (h : s.kind = 1) : D.act s = (⟨[], 0, (D.append s.data.data.toList).2⟩, (D.append s.data.data.toList).1) := by unfold Dk.act; rw [if_pos h]
theorem act2 (D : Dk) {s : Stp} (h : s.kind = 2) : D.act s = (⟨[], 0, D.sync.2⟩, D.sync.1) := by unfold Dk.act; rw [if_neg (by omega), if_pos h]
theorem act3 (D : Dk) {s : Stp} (h : s.kind = 3) : D.act s = (⟨if (D.gate id).2 = 0 then (D.gate id).1.bytes else [], 0, (D.gate id).2⟩, (D.gate id).1) := by unfold Dk.act; rw [if_neg (by omega), if_neg (by omega), if_pos h]
theorem act4 (D : Dk) {s : Stp} (h : s.kind = 4) : D.act s = (⟨[], 0, (D.trunc s.n).2⟩, (D.trunc s.n).1) := by unfold Dk.act; rw [if_neg (by omega), if_neg (by omega), if_neg (by omega), if_pos h]
theorem act5 (D : Dk) {s : Stp} (h : s.kind = 5) : D.act s = (⟨[], 0, 0⟩, D.arm s.n s.m) := by unfold Dk.act; rw [if_neg (by omega), if_neg (by omega), if_neg (by omega), if_neg (by omega), if_pos h]
theorem act6 (D : Dk) {s : Stp} (h : s.kind = 6) : D.act s = (⟨[], 0, 0⟩, D.crash s.n) := by unfold Dk.act; rw [if_neg (by omega), if_neg (by omega), if_neg (by omega), if_neg (by omega), if_neg (by omega), if_pos h]
theorem act7 (D : Dk) {s : Stp} (h : s.kind = 7) : D.act s = (⟨[], if D.dead = true then 1 else 0, 0⟩, D) := by unfold Dk.act; rw [if_neg (by omega), if_neg (by omega), if_neg (by omega), if_neg (by omega), if_neg (by omega), if_neg (by omega), if_pos h]
theorem act8 (D : Dk) {s : Stp} (h : s.kind = 8) : D.act s = (⟨[], 0, 0⟩, D.revive) := by unfold Dk.act; rw [if_neg (by omega), if_neg (by omega), if_neg (by omega), if_neg (by omega), if_neg (by omega), if_neg (by omega), if_neg (by omega), if_pos h]
theorem act9 (D : Dk) {s : Stp} (h : s.kind = 9) : D.act s = (⟨D.bytes, D.synced, 0⟩, D) := by unfold Dk.act; rw [if_neg (by omega), if_neg (by omega), if_neg (by omega), if_neg (by omega), if_neg (by omega), if_neg (by omega), if_neg (by omega), if_neg (by omega), if_pos h]
theorem act0 (D : Dk) {s : Stp} (h : s.kind < 1 ∨ 9 < s.kind) : D.act s = (⟨[], 0, 0⟩, D) := by unfold Dk.act; rw [if_neg (by omega), if_neg (by omega), if_neg (by omega), if_neg (by omega), if_neg (by omega), if_neg (by omega), if_neg (by omega), if_neg (by omega), if_neg (by omega)]
theorem kinds (s : Stp) : s.kind = 1 ∨ s.kind = 2 ∨ s.kind = 3 ∨ s.kind = 4 ∨ s.kind = 5 ∨ s.kind = 6 ∨ s.kind = 7 ∨ s.kind = 8 ∨ s.kind = 9 ∨ (s.kind < 1 ∨ 9 < s.kind) := by omega

theorem gate_none {D : Dk} (ha : D.arms = []) (L : Dk → Dk) : D.gate L = (D, if D.dead = true then 10 else 0) := by
  unfold gate
  by_cases hd : D.dead = true
  · rw [if_pos hd, if_pos hd]
  · rw [if_neg hd, if_neg hd, ha]

/-- Without arms: what is dead is synced. -/
structure Calm (D : Dk) (R : Nat) : Prop where
  ok : D.Ok
  arms : D.arms = []
  room : D.room = R
  dead : D.dead = true → D.synced = D.bytes.length
theorem Calm.new (bytes : List UInt8) (h : bytes.length ≤ 140737488351232) (room : Int) : Calm (Dk.new bytes room) (Dk.new bytes room).room := ⟨Ok.new h room, rfl, rfl, fun h => by cases h⟩
theorem fail_synced {D : Dk} (h : D.synced ≤ D.bytes.length) (keep : Int) : (D.fail keep).synced = (D.fail keep).bytes.length := by
  have := kept_le h keep
  show D.kept keep = (D.bytes.take (D.kept keep)).length
  rw [List.length_take]; omega
theorem append_none {D : Dk} (ha : D.arms = []) (p : List UInt8) : D.append p = if D.dead = true then (D, 10) else if D.fits p.length then (D.putp p, 0) else (D, 9) := by
  unfold Dk.append
  rw [gate_none ha]
  by_cases hd : D.dead = true
  · rw [if_pos hd, if_pos hd, if_neg (show ¬ (10 : Nat) = 0 by decide)]
  · rw [if_neg hd, if_neg hd, if_pos rfl]
theorem sync_none {D : Dk} (ha : D.arms = []) : D.sync = if D.dead = true then (D, 10) else ({ D with synced := D.bytes.length }, 0) := by
  unfold Dk.sync
  rw [gate_none ha]
  by_cases hd : D.dead = true
  · rw [if_pos hd, if_pos hd, if_neg (show ¬ (10 : Nat) = 0 by decide)]
  · rw [if_neg hd, if_neg hd, if_pos rfl]
theorem trunc_none {D : Dk} (ha : D.arms = []) (n : Int) : D.trunc n = if D.dead = true then (D, 10) else if n < 0 ∨ (D.bytes.length : Int) < n then (D, 1) else ({ D with bytes := D.bytes.take n.toNat, synced := min D.synced n.toNat }, 0) := by
  unfold Dk.trunc
  rw [gate_none ha]
  by_cases hd : D.dead = true
  · rw [if_neg (by rw [hd]; simp), if_pos hd, if_pos hd, if_neg (show ¬ (10 : Nat) = 0 by decide)]
  · have hd' : D.dead = false := by simpa using hd
    rw [if_neg hd, if_neg hd]
    by_cases hn : n < 0 ∨ (D.bytes.length : Int) < n
    · rw [if_pos ⟨hd', hn⟩, if_pos hn]
    · rw [if_neg (fun h => hn h.2), if_neg hn, if_pos rfl]
theorem Calm.act {D : Dk} {R : Nat} (h : D.Calm R) {s : Stp} (hs : s.Ok) (h5 : s.kind ≠ 5) : Calm (D.act s).2 R := by
  have hok := h.ok.act hs
  rcases kinds s with e | e | e | e | e | e | e | e | e | e
  · rw [act1 D e, append_none h.arms] at hok ⊢
    by_cases hd : D.dead = true
    · rw [if_pos hd]; exact h
    · rw [if_neg hd] at hok ⊢
      by_cases hf : D.fits s.data.data.toList.length
      · rw [if_pos hf] at hok ⊢
        refine ⟨hok, ?_, ?_, ?_⟩
        · show (D.putp _).arms = []
          rw [putp_arms]; exact h.arms
        · show (D.putp _).room = R
          unfold Dk.putp; rw [if_pos hf]; exact h.room
        · intro hd2
          have : (D.putp s.data.data.toList).dead = D.dead := by unfold Dk.putp; rw [if_pos hf]
          exact absurd (this.symm.trans hd2) hd
      · rw [if_neg hf]; exact h
  · rw [act2 D e, sync_none h.arms] at hok ⊢
    by_cases hd : D.dead = true
    · rw [if_pos hd]; exact h
    · rw [if_neg hd] at hok ⊢
      exact ⟨hok, h.arms, h.room, fun _ => rfl⟩
  · rw [act3 D e, gate_none h.arms]; exact h
  · rw [act4 D e, trunc_none h.arms] at hok ⊢
    by_cases hd : D.dead = true
    · rw [if_pos hd]; exact h
    · rw [if_neg hd] at hok ⊢
      by_cases hn : s.n < 0 ∨ (D.bytes.length : Int) < s.n
      · rw [if_pos hn]; exact h
      · rw [if_neg hn] at hok ⊢
        exact ⟨hok, h.arms, h.room, fun hd2 => absurd hd2 hd⟩
  · exact absurd e h5
  · rw [act6 D e] at hok ⊢
    unfold Dk.crash at hok ⊢
    by_cases hd : D.dead = true
    · rw [if_pos hd]; exact h
    · rw [if_neg hd] at hok ⊢
      exact ⟨hok, h.arms, h.room, fun _ => fail_synced h.ok.synced _⟩
  · rw [act7 D e]; exact h
  · rw [act8 D e] at hok ⊢
    exact ⟨hok, h.arms, h.room, fun hd => by cases hd⟩
  · rw [act9 D e]; exact h
  · rw [act0 D e]; exact h
theorem Calm.crash {D : Dk} {R : Nat} (h : D.Calm R) (keep : Int) : Calm (D.crash keep) R ∧ (D.crash keep).dead = true := by
  unfold Dk.crash
  by_cases hd : D.dead = true
  · rw [if_pos hd]; exact ⟨h, hd⟩
  · rw [if_neg hd]; exact ⟨⟨h.ok.fail keep, h.arms, h.room, fun _ => fail_synced h.ok.synced _⟩, rfl⟩
/-- Behind a power failure it is as a new one. -/
theorem Calm.forgets {D : Dk} {room : Int} (h : D.Calm (Dk.new [] room).room) (hd : D.dead = true) : D.revive = Dk.new D.bytes room := by
  obtain ⟨b, s, r, d, a⟩ := D
  have h1 : a = [] := h.arms
  have h2 : r = (min (max room 0) 1073741824).toNat := h.room
  have h3 : s = b.length := h.dead hd
  subst h1; subst h2; subst h3
  rfl

/-! An arm is a crash at its place. -/
def withArms (B : Dk) (l : List (Nat × Int)) : Dk := { B with arms := l }
/-- Is the step an operation of this disk, as it is now? -/
def counts (B : Dk) (s : Stp) : Bool := !B.dead && (decide (1 ≤ s.kind ∧ s.kind ≤ 4) && (decide (s.kind ≠ 4) || decide (0 ≤ s.n ∧ s.n ≤ B.bytes.length)))
theorem withArms_self {B : Dk} (h : B.arms = []) : B = B.withArms [] := by
  obtain ⟨b, s, r, d, a⟩ := B
  simp only at h
  subst h
  rfl
theorem gate_with_dead {B : Dk} (hd : B.dead = true) (l : List (Nat × Int)) (L : Dk → Dk) : (B.withArms l).gate L = (B.withArms l, 10) := gate_dead (D := B.withArms l) hd L
theorem gate_with_more {B : Dk} (hd : B.dead = false) (k : Nat) (keep : Int) (r : List (Nat × Int)) (L : Dk → Dk) : (B.withArms ((k + 1, keep) :: r)).gate L = (B.withArms ((k, keep) :: r), 0) := by
  obtain ⟨b, s, ro, d, a⟩ := B
  simp only at hd
  subst hd
  rfl
theorem gate_with_now {B : Dk} (hd : B.dead = false) (keep : Int) (r : List (Nat × Int)) (L : Dk → Dk) : (B.withArms ((0, keep) :: r)).gate L = ((L (B.withArms r)).fail keep, 10) := by
  obtain ⟨b, s, ro, d, a⟩ := B
  simp only at hd
  subst hd
  rfl
/-- A step that is no operation (or a dead disk's): the arms stay. -/
theorem act_uncounted {B : Dk} (ha : B.arms = []) {s : Stp} (h5 : s.kind ≠ 5) (hc : B.counts s = false) (l : List (Nat × Int)) : (B.withArms l).act s = ((B.act s).1, (B.act s).2.withArms l) := by
  have hB := withArms_self ha
  unfold counts at hc
  rcases kinds s with e | e | e | e | e | e | e | e | e | e
  · have hd : B.dead = true := by
      have h1 : decide (1 ≤ s.kind ∧ s.kind ≤ 4) = true := decide_eq_true (by omega)
      have h2 : decide (s.kind ≠ 4) = true := decide_eq_true (by omega)
      rw [h1, h2] at hc; simpa using hc
    rw [act1 _ e, act1 _ e, append_none ha, if_pos hd]
    unfold Dk.append
    rw [gate_with_dead hd]
    rfl
  · have hd : B.dead = true := by
      have h1 : decide (1 ≤ s.kind ∧ s.kind ≤ 4) = true := decide_eq_true (by omega)
      have h2 : decide (s.kind ≠ 4) = true := decide_eq_true (by omega)
      rw [h1, h2] at hc; simpa using hc
    rw [act2 _ e, act2 _ e, sync_none ha, if_pos hd]
    unfold Dk.sync
    rw [gate_with_dead hd]
    rfl
  · have hd : B.dead = true := by
      have h1 : decide (1 ≤ s.kind ∧ s.kind ≤ 4) = true := decide_eq_true (by omega)
      have h2 : decide (s.kind ≠ 4) = true := decide_eq_true (by omega)
      rw [h1, h2] at hc; simpa using hc
    rw [act3 _ e, act3 _ e, gate_none ha, if_pos hd, gate_with_dead hd]
    rfl
  · rw [act4 _ e, act4 _ e, trunc_none ha]
    by_cases hd : B.dead = true
    · rw [if_pos hd]
      unfold Dk.trunc
      rw [if_neg (by show ¬ (B.dead = false ∧ _); rw [hd]; simp), gate_with_dead hd]
      rfl
    · have hd' : B.dead = false := by simpa using hd
      have hn : s.n < 0 ∨ (B.bytes.length : Int) < s.n := by
        have h1 : decide (1 ≤ s.kind ∧ s.kind ≤ 4) = true := decide_eq_true (by omega)
        have h2 : decide (s.kind ≠ 4) = false := decide_eq_false (by omega)
        rw [h1, h2, hd'] at hc
        have h3 : ¬ (0 ≤ s.n ∧ s.n ≤ B.bytes.length) := by simpa using hc
        omega
      rw [if_neg hd, if_pos hn]
      unfold Dk.trunc
      rw [if_pos ⟨hd', hn⟩]
  · exact absurd e h5
  · rw [act6 _ e, act6 _ e]
    unfold Dk.crash
    by_cases hd : B.dead = true
    · rw [if_pos hd, if_pos (show (B.withArms l).dead = true from hd)]
    · rw [if_neg hd, if_neg (show ¬ (B.withArms l).dead = true from hd)]
      rfl
  · rw [act7 _ e, act7 _ e]; rfl
  · rw [act8 _ e, act8 _ e]; rfl
  · rw [act9 _ e, act9 _ e]; rfl
  · rw [act0 _ e, act0 _ e]
theorem counts_live {B : Dk} {s : Stp} (h : B.counts s = true) : B.dead = false ∧ 1 ≤ s.kind ∧ s.kind ≤ 4 ∧ (s.kind = 4 → 0 ≤ s.n ∧ s.n ≤ B.bytes.length) := by
  unfold counts at h
  simp only [Bool.and_eq_true, Bool.or_eq_true, decide_eq_true_eq, Bool.not_eq_true'] at h
  exact ⟨h.1, h.2.1.1, h.2.1.2, fun e => h.2.2.resolve_left (fun h' => h' e)⟩
/-- An operation while the arm still waits. -/
theorem act_waits {B : Dk} (ha : B.arms = []) {s : Stp} (hc : B.counts s = true) (k : Nat) (keep : Int) : (B.withArms [(k + 1, keep)]).act s = ((B.act s).1, (B.act s).2.withArms [(k, keep)]) := by
  obtain ⟨hd, h1, h4, hn⟩ := counts_live hc
  have hd' : ¬ B.dead = true := by rw [hd]; simp
  obtain e | e | e | e : s.kind = 1 ∨ s.kind = 2 ∨ s.kind = 3 ∨ s.kind = 4 := by omega
  · rw [act1 _ e, act1 _ e, append_none ha, if_neg hd']
    unfold Dk.append
    rw [gate_with_more hd]
    show (_, _) = _
    rw [if_pos rfl]
    by_cases hf : B.fits s.data.data.toList.length
    · rw [if_pos hf, if_pos (show (B.withArms [(k, keep)]).fits _ from hf)]
      unfold Dk.putp
      rw [if_pos hf, if_pos (show (B.withArms [(k, keep)]).fits _ from hf)]
      rfl
    · rw [if_neg hf, if_neg (show ¬ (B.withArms [(k, keep)]).fits _ from hf)]
  · rw [act2 _ e, act2 _ e, sync_none ha, if_neg hd']
    unfold Dk.sync
    rw [gate_with_more hd]
    rfl
  · rw [act3 _ e, act3 _ e, gate_none ha, if_neg hd', gate_with_more hd]
    rfl
  · rw [act4 _ e, act4 _ e, trunc_none ha, if_neg hd', if_neg (by have := hn e; omega)]
    unfold Dk.trunc
    rw [if_neg (by have := hn e; show ¬ (_ ∧ (_ ∨ (B.bytes.length : Int) < s.n)); omega), gate_with_more hd]
    rfl
/-- What lies there when the arm's operation has died. -/
def cutB (B : Dk) (s : Stp) (keep : Int) : Dk := (if s.kind = 1 then B.putp s.data.data.toList else B).fail keep
theorem act_dies {B : Dk} (ha : B.arms = []) {s : Stp} (hc : B.counts s = true) (keep : Int) : (B.withArms [(0, keep)]).act s = (⟨[], 0, 10⟩, B.cutB s keep) := by
  obtain ⟨hd, h1, h4, hn⟩ := counts_live hc
  have hB := withArms_self ha
  obtain e | e | e | e : s.kind = 1 ∨ s.kind = 2 ∨ s.kind = 3 ∨ s.kind = 4 := by omega
  · rw [act1 _ e]
    unfold Dk.append
    rw [gate_with_now hd, if_neg (show ¬ (10 : Nat) = 0 by decide), ← hB]
    unfold cutB
    rw [if_pos e]
  · rw [act2 _ e]
    unfold Dk.sync
    rw [gate_with_now hd, if_neg (show ¬ (10 : Nat) = 0 by decide), ← hB]
    unfold cutB
    rw [if_neg (by omega)]
    rfl
  · rw [act3 _ e, gate_with_now hd, ← hB, if_neg (show ¬ (10 : Nat) = 0 by decide)]
    unfold cutB
    rw [if_neg (by omega)]
    rfl
  · rw [act4 _ e]
    unfold Dk.trunc
    rw [if_neg (by have := hn e; show ¬ (_ ∧ (_ ∨ (B.bytes.length : Int) < s.n)); omega), gate_with_now hd, if_neg (show ¬ (10 : Nat) = 0 by decide), ← hB]
    unfold cutB
    rw [if_neg (by omega)]
    rfl
theorem cutB_arms {B : Dk} (ha : B.arms = []) (s : Stp) (keep : Int) : (B.cutB s keep).arms = [] := by
  unfold cutB
  show (if s.kind = 1 then B.putp s.data.data.toList else B).arms = []
  split
  · rw [putp_arms]; exact ha
  · exact ha
theorem Calm.cutB {B : Dk} {R : Nat} (h : B.Calm R) (s : Stp) (keep : Int) : Calm (B.cutB s keep) R := by
  unfold Dk.cutB
  by_cases e : s.kind = 1
  · rw [if_pos e]
    refine ⟨(h.ok.putp _).fail keep, ?_, ?_, fun _ => fail_synced (h.ok.putp _).synced _⟩
    · show (B.putp _).arms = []
      rw [putp_arms]; exact h.arms
    · show (B.putp _).room = R
      unfold Dk.putp; split <;> exact h.room
  · rw [if_neg e]
    exact ⟨h.ok.fail keep, h.arms, h.room, fun _ => fail_synced h.ok.synced _⟩
end Dk
end Go.Proofs.YtjhlelcopofkkaaDoor

/-! Acts -/
namespace Go.Proofs.YtjhlelcopofkkaaDoor

namespace Dk
/-- As it is once what waits has counted. -/
def ticked (D : Dk) : Dk := { D with arms := D.rest }
theorem dies_len {D : Dk} (h : D.diesB = true) : D.rest.length + 1 = D.arms.length := by
  unfold diesB at h
  unfold rest
  match ha : D.arms with
  | [] => rw [ha] at h; cases h
  | (0, k) :: r => rfl
  | (n + 1, k) :: r => rw [ha] at h; cases h
theorem lives_len {D : Dk} (h : D.diesB = false) : D.rest.length = D.arms.length := by
  unfold diesB at h
  unfold rest
  match ha : D.arms with
  | [] => rfl
  | (0, k) :: r => rw [ha] at h; cases h
  | (n + 1, k) :: r => rfl
/-- What lies there in the moment of a death. -/
def laid (D : Dk) (s : Stp) : Dk := if s.kind = 1 then D.ticked.putp s.data.data.toList else D.ticked
theorem gate_dies {D : Dk} (hd : D.dead = false) (hk : D.diesB = true) (L : Dk → Dk) : D.gate L = ((L D.ticked).fail D.diesK, 10) := by rw [gate_eq hd, if_pos hk]; rfl
theorem gate_lives {D : Dk} (hd : D.dead = false) (hk : D.diesB = false) (L : Dk → Dk) : D.gate L = (D.ticked, 0) := by rw [gate_eq hd, if_neg (by rw [hk]; simp)]; rfl
theorem act_dead {D : Dk} (hd : D.dead = true) {s : Stp} (h : 1 ≤ s.kind ∧ s.kind ≤ 4) : D.act s = (⟨[], 0, 10⟩, D) := by
  obtain e | e | e | e : s.kind = 1 ∨ s.kind = 2 ∨ s.kind = 3 ∨ s.kind = 4 := by omega
  · rw [act1 _ e]; unfold Dk.append; rw [gate_dead hd]; rfl
  · rw [act2 _ e]; unfold Dk.sync; rw [gate_dead hd]; rfl
  · rw [act3 _ e, gate_dead hd]; rfl
  · rw [act4 _ e]; unfold Dk.trunc; rw [if_neg (by rw [hd]; simp), gate_dead hd]; rfl
theorem act_dying {D : Dk} (hd : D.dead = false) (hk : D.diesB = true) {s : Stp} (h : 1 ≤ s.kind ∧ s.kind ≤ 4) (h4 : s.kind = 4 → 0 ≤ s.n ∧ s.n ≤ D.bytes.length) : D.act s = (⟨[], 0, 10⟩, (D.laid s).fail D.diesK) := by
  obtain e | e | e | e : s.kind = 1 ∨ s.kind = 2 ∨ s.kind = 3 ∨ s.kind = 4 := by omega
  · rw [act1 _ e]; unfold Dk.append laid; rw [gate_dies hd hk, if_pos e]; rfl
  · rw [act2 _ e]; unfold Dk.sync laid; rw [gate_dies hd hk, if_neg (show ¬ s.kind = 1 by omega)]; rfl
  · rw [act3 _ e, gate_dies hd hk]; unfold laid; rw [if_neg (show ¬ s.kind = 1 by omega)]; rfl
  · rw [act4 _ e]; unfold Dk.trunc laid; rw [if_neg (by have := h4 e; omega), gate_dies hd hk, if_neg (show ¬ s.kind = 1 by omega)]; rfl
theorem act1_lives {D : Dk} (hd : D.dead = false) (hk : D.diesB = false) {s : Stp} (e : s.kind = 1) :
    D.act s = if D.fits s.data.data.toList.length then (⟨[], 0, 0⟩, { D.ticked with bytes := D.bytes ++ s.data.data.toList }) else (⟨[], 0, 9⟩, D.ticked) := by
  rw [act1 _ e]; unfold Dk.append; rw [gate_lives hd hk]
  show (_, _) = _
  rw [if_pos rfl]
  by_cases hf : D.fits s.data.data.toList.length
  · rw [if_pos hf, if_pos (show D.ticked.fits _ from hf)]
    unfold putp
    rw [if_pos (show D.ticked.fits _ from hf)]
    rfl
  · rw [if_neg hf, if_neg (show ¬ D.ticked.fits _ from hf)]
theorem act2_lives {D : Dk} (hd : D.dead = false) (hk : D.diesB = false) {s : Stp} (e : s.kind = 2) : D.act s = (⟨[], 0, 0⟩, { D.ticked with synced := D.bytes.length }) := by
  rw [act2 _ e]; unfold Dk.sync; rw [gate_lives hd hk]; rfl
theorem act3_lives {D : Dk} (hd : D.dead = false) (hk : D.diesB = false) {s : Stp} (e : s.kind = 3) : D.act s = (⟨D.bytes, 0, 0⟩, D.ticked) := by
  rw [act3 _ e, gate_lives hd hk]; rfl
theorem act4_lives {D : Dk} (hd : D.dead = false) (hk : D.diesB = false) {s : Stp} (e : s.kind = 4) (h4 : 0 ≤ s.n ∧ s.n ≤ D.bytes.length) : D.act s = (⟨[], 0, 0⟩, { D.ticked with bytes := D.bytes.take s.n.toNat, synced := min D.synced s.n.toNat }) := by
  rw [act4 _ e]; unfold Dk.trunc; rw [if_neg (by omega), gate_lives hd hk]; rfl
theorem act4_bad {D : Dk} (hd : D.dead = false) {s : Stp} (e : s.kind = 4) (h4 : s.n < 0 ∨ (D.bytes.length : Int) < s.n) : D.act s = (⟨[], 0, 1⟩, D) := by
  rw [act4 _ e]; unfold Dk.trunc; rw [if_pos ⟨hd, h4⟩]

/-! What is left when it has died. -/
theorem laid_bytes (D : Dk) (s : Stp) : (D.laid s).bytes = if s.kind = 1 ∧ D.fits s.data.data.toList.length then D.bytes ++ s.data.data.toList else D.bytes := by
  unfold laid putp
  by_cases e : s.kind = 1
  · by_cases hf : D.fits s.data.data.toList.length
    · rw [if_pos e, if_pos (show D.ticked.fits _ from hf), if_pos ⟨e, hf⟩]; rfl
    · rw [if_pos e, if_neg (show ¬ D.ticked.fits _ from hf), if_neg (fun h => hf h.2)]; rfl
  · rw [if_neg e, if_neg (fun h => e h.1)]; rfl
theorem laid_synced (D : Dk) (s : Stp) : (D.laid s).synced = D.synced := by
  unfold laid putp
  repeat' split
  all_goals rfl
theorem laid_arms (D : Dk) (s : Stp) : (D.laid s).arms = D.rest := by
  unfold laid putp
  repeat' split
  all_goals rfl
theorem laid_room (D : Dk) (s : Stp) : (D.laid s).room = D.room := by
  unfold laid putp
  repeat' split
  all_goals rfl
theorem laid_ok {D : Dk} (h : D.Ok) (s : Stp) : (D.laid s).Ok := by
  unfold laid
  split
  · exact Dk.Ok.putp h.rest _
  · exact h.rest
theorem laid_pre (D : Dk) (s : Stp) : D.bytes <+: (D.laid s).bytes := by
  rw [laid_bytes]
  split
  · exact List.prefix_append _ _
  · exact List.prefix_refl _
/-- A power failure leaves the synced head, and a head of what there was. -/
theorem fail_good {D : Dk} (h : D.synced ≤ D.bytes.length) (keep : Int) : D.bytes.take D.synced <+: (D.fail keep).bytes ∧ (D.fail keep).bytes <+: D.bytes ∧ (D.fail keep).synced = (D.fail keep).bytes.length ∧ D.synced ≤ (D.fail keep).bytes.length := by
  have h1 := kept_le h keep
  have h2 : D.synced ≤ D.kept keep := by unfold kept; omega
  have h3 := fail_synced h keep
  refine ⟨?_, List.take_prefix _ _, h3, by rw [← h3]; exact h2⟩
  show D.bytes.take D.synced <+: D.bytes.take (D.kept keep)
  rw [show D.bytes.take D.synced = (D.bytes.take (D.kept keep)).take D.synced by rw [List.take_take, Nat.min_eq_left h2]]
  exact List.take_prefix _ _
theorem take_pre {l m : List UInt8} (h : l <+: m) {n : Nat} (hn : n ≤ l.length) : l.take n = m.take n := by
  obtain ⟨r, rfl⟩ := h
  rw [List.take_append_of_le_length hn]
/-- What the death of an operation leaves. -/
theorem dying_good {D : Dk} (h : D.Ok) (s : Stp) (keep : Int) : D.bytes.take D.synced <+: ((D.laid s).fail keep).bytes ∧ ((D.laid s).fail keep).bytes <+: (D.laid s).bytes ∧ ((D.laid s).fail keep).synced = ((D.laid s).fail keep).bytes.length ∧ D.synced ≤ ((D.laid s).fail keep).bytes.length := by
  have hl := laid_ok h s
  have hs := laid_synced D s
  have := fail_good hl.synced keep
  rw [hs] at this
  rwa [← take_pre (laid_pre D s) h.synced] at this
end Dk
end Go.Proofs.YtjhlelcopofkkaaDoor

/-! Str -/
namespace Go.Proofs.YtjhlelcopofkkaaDoor
open Go.RowKit

theorem strCells_bvs (s : ByteArray) : Lib.strCells s = bvs s.data.toList := rfl
theorem Sat.vec_of_new {w0 w : World} {F : HP} {e : TypeId} {n cap : Nat} {cs : List Value} (hF : Sat w0 w F) (arr : Array Value) (harr : ∃ sp, arr.toList = cs ++ sp) (hl : cs.length = n) (h1 : n ≤ cap) (h2 : cap ≤ maxLen) (h3 : arr.size = cap) :
    Sat w0 (w.drew.alloc (.cells arr e)) (F * vec e 1 (.slice (some ⟨w.heap.size, 0, none⟩) n cap) n cs) := by
  obtain ⟨sp, hsp⟩ := harr
  have h := hF.drew.new arr e
  rw [hsp] at h
  exact Sat.vec_mk (b := w.drew.heap.size) h (by omega) h1 h2 (by rw [← hsp, Nat.mul_one, Array.length_toList]; exact h3)
theorem nextslicecap_fine {need old : Nat} (h : old < need) : Builtin.nextslicecap need old ≤ need + need / 4 + 1024 := by
  unfold Builtin.nextslicecap
  split
  · omega
  · split
    · omega
    · rw [growBy_four]
      repeat' split
      all_goals omega
theorem run_append_vec_string {P : Program} {w0 w : World} {F : HP} (t u ty e : TypeId) (ht : P.underlying t = some (.slice e)) (hu : P.underlying u = some .string) (hinfo : (P.info? e).map (fun i => (i.zero, i.size, i.bytes)) = some (some (.int .u8 0), 1, 1))
    (v : Value) (n : Nat) (cs : List Value) (hsat : Sat w0 w (F * vec e 1 v n cs)) (s : ByteArray) (h63 : n + s.size ≤ maxLen) (hbytes : n + s.size ≤ 142936511610880) :
    ∃ v' w', (Builtin.append_ #[t, u] ty #[v, .string s]).run P w = .ok v' w' ∧ Sat w0 w' (F * vec e 1 v' (n + s.size) (cs ++ bvs s.data.toList)) := by
  obtain ⟨i, hi, hz, hsize, hby⟩ := info_parts hinfo
  have hsl : (bvs s.data.toList).length = s.size := by rw [← strCells_bvs, Lib.strCells_length]
  have hsmall : n + s.size ≤ 9223372036854775807 := by simp only [maxLen] at h63; omega
  have hge := fun old => grownCap_ge w (n + s.size) old e
  have hcm := fun old => grownCap_le_maxLen w (n + s.size) old e h63
  obtain ⟨hcl, ⟨rfl, rfl, rfl, hF⟩ | ⟨b, cap, sp, rfl, q1, q2, q3, hb⟩⟩ := hsat.vec_cases
  · by_cases hm : s.size = 0
    · have hn : bvs s.data.toList = [] := List.eq_nil_of_length_eq_zero (by rw [hsl]; exact hm)
      refine ⟨.slice none 0 0, w, ?_, by rw [hm, hn]; exact hF.vec_nil _ _⟩
      have hf := Lib.run_firstCells_string (P := P) w 1 s
      rw [hm] at hf
      simp [Builtin.append_, run_underlying ht, run_underlying hu, sizeOf, typeInfo, hi, hsize, Builtin.lenOf, hm, hf]
    · have hr := run_append_nil_string (P := P) w t u ty e i (.int .u8 0) ht hu hi hz s (by omega) (by omega) (by rw [hby]; omega)
      refine ⟨_, _, hr, ?_⟩
      have h1 := hge 0
      have h2 := hcm 0
      rw [Nat.zero_add] at h1 h2 ⊢
      refine Sat.vec_of_new hF _ ⟨(Builtin.zeroCells (Value.int .u8 0).cells (grownCap w s.size 0 e - s.size)).toList, ?_⟩ hsl h1 h2 ?_
      · simp only [Array.toList_append, Array.toList_map, List.nil_append]
        rfl
      · have hz1 : (Value.int IntKind.u8 0).cells.size = 1 := rfl
        simp only [Array.size_append, Array.size_map, size_zeroCells, hz1]
        have : s.data.size = s.size := rfl
        omega
  · have hcn : cs.length = n := by simpa using hcl
    by_cases hroom : n + s.size ≤ cap
    · have hcs : (cs ++ sp).length = cap := by simpa using q3
      have hr := Lib.run_append_room_string (P := P) (w := w) t u ty e i ht hu hi hsize b n cap (cs ++ sp).toArray hb.heap s hroom (by simp only [List.size_toArray]; omega)
      refine ⟨_, _, hr, ?_⟩
      have e1 : ((cs ++ sp).toArray.toList.take n ++ Lib.strCells s ++ (cs ++ sp).toArray.toList.drop (n + s.size)) = cs ++ bvs s.data.toList ++ sp.drop s.size := by
        rw [strCells_bvs, ← hcn, List.take_left' rfl, List.drop_append, List.drop_eq_nil_of_le (by omega), Nat.add_sub_cancel_left, List.nil_append]
      rw [e1]
      have hset : Sat w0 (w.setRow b (cs ++ bvs s.data.toList ++ sp.drop s.size).toArray) (F * blk b (cs ++ bvs s.data.toList ++ sp.drop s.size) e) := by
        refine Sat.obj_put hb ?_ (setRow_heap w b _ _ e _ hb.heap) (fun k _ hk => setRow_other w b k _ hk)
        exact hb.below.trans ⟨rfl, rfl, rfl, by simp [World.setRow], fun k hk => setRow_other w b k _ (by have := hb.base; omega)⟩
      rw [List.length_append] at hcs
      exact Sat.vec_mk hset (by rw [List.length_append, hsl, hcn, Nat.mul_one]) hroom q2 (by rw [List.length_append, List.length_append, List.length_drop, hsl, hcn, Nat.mul_one]; omega)
    · have holds : ∀ j u, cs[j]? = some u → w.cell? ((⟨b, 0, none⟩ : Addr).add j) = some u := fun j u hu => by
        rw [Addr.add_lit]
        refine hb.cell ?_
        rw [Nat.zero_add, List.getElem?_append_left (List.getElem?_eq_some_iff.1 hu).1]
        exact hu
      have hr := Lib.run_append_grow_string (P := P) (w := w) t u ty e i (.int .u8 0) ht hu hi hz ⟨b, 0, none⟩ n cap cs (by rw [hsize]; omega) holds s (by omega) (by omega) (by rw [hby, Nat.mul_one]; have := nextslicecap_fine (need := n + s.size) (old := cap) (by omega); omega)
      refine ⟨_, _, hr, ?_⟩
      refine Sat.vec_of_new hb.drop _ ⟨(Builtin.zeroCells (Value.int .u8 0).cells (grownCap w (n + s.size) cap e - (n + s.size))).toList, ?_⟩ (by rw [List.length_append, hsl, hcn]) (hge cap) (hcm cap) ?_
      · simp only [Array.toList_append, strCells_bvs]
      · have hz1 : (Value.int IntKind.u8 0).cells.size = 1 := rfl
        simp only [Array.size_append, List.size_toArray, size_zeroCells, hz1, strCells_bvs, hsl, hcn]
        have := hge cap
        omega

theorem wp_append_run2 {P : Program} {o : Oper} {a : Act} {w w' : World} {K : Act → World → Prop} {Q : Exit → Act → World → Prop} {v x v' : Value} {s y : Operand} {t u : TypeId} (ho : o.op = .call { callee := .builtin .append, args := #[s, y], argTypes := #[t, u] })
    (hs : a.eval s = v) (hx : a.eval y = x) (hr : (Builtin.append_ #[t, u] o.type #[v, x]).run P w = .ok v' w') (h : K (a.put o.dst v') w') : o.wp P a w K Q := by
  unfold Oper.wp execOp
  simp only [ho, resolve, invoke, builtin, Sem.run_bind, Sem.run_pure, Result.andThen_ok, List.map_toArray, List.map_cons, List.map_nil, hs, hx, hr]
  exact h
theorem sl_append_string {P : Program} {w0 w : World} {F : HP} {ops : Array Oper} {rest : List Oper} {o : Oper} {a : Act} {Q : Exit → Act → World → Prop}
    (hgd : o.guard = none) (sl x : Operand) (t u : TypeId) (ho : o.op = .call { callee := .builtin .append, args := #[sl, x], argTypes := #[t, u] })
    (e : TypeId) (ht : P.underlying t = some (.slice e)) (hu : P.underlying u = some .string) (hinfo : (P.info? e).map (fun i => (i.zero, i.size, i.bytes)) = some (some (.int .u8 0), 1, 1))
    (v : Value) (n : Nat) (cs : List Value) (hs : a.eval sl = v) (hsat : Sat w0 w (F * vec e 1 v n cs)) (s : ByteArray) (hx : a.eval x = .string s) (h63 : n + s.size ≤ maxLen) (hbytes : n + s.size ≤ 142936511610880)
    (h : ∀ v' w', Sat w0 w' (F * vec e 1 v' (n + s.size) (cs ++ bvs s.data.toList)) → wpList P ops Q rest (a.put o.dst v') w') : wpList P ops Q (o :: rest) a w := by
  refine wpList_plain hgd fun K hK => ?_
  obtain ⟨v', w', hr, hS⟩ := run_append_vec_string t u o.type e ht hu hinfo v n cs hsat s h63 hbytes
  exact wp_append_run2 ho hs hx hr (hK _ _ (h v' w' hS))
theorem step_append_string {P : Program} {w0 w : World} {F : HP} {ops : Array Oper} {o : Oper} {a : Act} {K : Act → World → Prop} {Q : Exit → Act → World → Prop} {E : Prop}
    (hgd : o.guard = none) (sl x : Operand) (t u : TypeId) (ho : o.op = .call { callee := .builtin .append, args := #[sl, x], argTypes := #[t, u] })
    (e : TypeId) (ht : P.underlying t = some (.slice e)) (hu : P.underlying u = some .string) (hinfo : (P.info? e).map (fun i => (i.zero, i.size, i.bytes)) = some (some (.int .u8 0), 1, 1))
    (v : Value) (n : Nat) (cs : List Value) (hs : a.eval sl = v) (hsat : Sat w0 w (F * vec e 1 v n cs)) (s : ByteArray) (hx : a.eval x = .string s) (h63 : n + s.size ≤ maxLen) (hbytes : n + s.size ≤ 142936511610880)
    (h : ∀ v' w', Sat w0 w' (F * vec e 1 v' (n + s.size) (cs ++ bvs s.data.toList)) → K (a.put o.dst v') w') : if Region.wanted o (yielded ops a.tmps) = true then Oper.wp P o a w K Q else E := by
  have hw : Region.wanted o (yielded ops a.tmps) = true := by simp [Region.wanted, hgd]
  rw [if_pos hw]
  obtain ⟨v', w', hr, hS⟩ := run_append_vec_string t u o.type e ht hu hinfo v n cs hsat s h63 hbytes
  exact wp_append_run2 ho hs hx hr (h v' w' hS)
end Go.Proofs.YtjhlelcopofkkaaDoor
