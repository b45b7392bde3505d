/- The good head of a log's bytes: its frames, in plain Lean. -/
import Derived.Test.YtjhlelcopofkkaaDoorRef13
namespace Go.Proofs.YtjhlelcopofkkaaDoor
open Go.RowKit

/-- The number in the first four bytes. -/
def be4n : List UInt8 → Nat
  | a :: b :: c :: d :: _ => a.toNat * 16777216 + b.toNat * 65536 + c.toNat * 256 + d.toNat
  | _ => 0
/-- A sound frame stands at the head. -/
def Good (d : List UInt8) : Prop :=
  1 ≤ be4n d ∧ be4n d ≤ 8192 ∧ 8 + be4n d ≤ d.length ∧ (crc (d.take 4 ++ (d.drop 8).take (be4n d))).toNat = be4n (d.drop 4)
instance (d : List UInt8) : Decidable (Good d) := by unfold Good; infer_instance
/-- How long its payload is; 0: none stands there. -/
def snd (d : List UInt8) : Nat := if Good d then be4n d else 0
theorem snd_good {d : List UInt8} (h : Good d) : snd d = be4n d := if_pos h
theorem snd_bad {d : List UInt8} (h : ¬ Good d) : snd d = 0 := if_neg h
theorem snd_ne {d : List UInt8} (h : snd d ≠ 0) : Good d := by
  by_cases g : Good d
  · exact g
  · exact absurd (snd_bad g) h
theorem snd_le {d : List UInt8} (h : snd d ≠ 0) : 1 ≤ snd d ∧ snd d ≤ 8192 ∧ 8 + snd d ≤ d.length := by
  have g := snd_ne h
  rw [snd_good g]
  exact ⟨g.1, g.2.1, g.2.2.1⟩
def frs : Nat → List UInt8 → List (List UInt8)
  | 0, _ => []
  | k + 1, d => if snd d = 0 then [] else (d.drop 8).take (snd d) :: frs k (d.drop (8 + snd d))
theorem frs_enough : ∀ (k j : Nat) (d : List UInt8), d.length ≤ k → d.length ≤ j → frs k d = frs j d := by
  intro k
  induction k with
  | zero =>
    intro j d hk hj
    cases j with
    | zero => rfl
    | succ j =>
      have : snd d = 0 := by
        by_cases e : snd d = 0
        · exact e
        · have := snd_le e
          omega
      simp [frs, this]
  | succ k ih =>
    intro j d hk hj
    cases j with
    | zero =>
      have : snd d = 0 := by
        by_cases e : snd d = 0
        · exact e
        · have := snd_le e
          omega
      simp [frs, this]
    | succ j =>
      simp only [frs]
      by_cases e : snd d = 0
      · rw [if_pos e, if_pos e]
      · rw [if_neg e, if_neg e]
        have := snd_le e
        rw [ih j (d.drop (8 + snd d)) (by rw [List.length_drop]; omega) (by rw [List.length_drop]; omega)]
/-- The payloads of the good head. -/
def frames (d : List UInt8) : List (List UInt8) := frs d.length d
theorem frames_nil {d : List UInt8} (h : snd d = 0) : frames d = [] := by
  unfold frames
  cases d.length with
  | zero => rfl
  | succ k => simp [frs, h]
theorem frames_cons {d : List UInt8} (h : snd d ≠ 0) : frames d = (d.drop 8).take (snd d) :: frames (d.drop (8 + snd d)) := by
  have := snd_le h
  unfold frames
  obtain ⟨k, hk⟩ : ∃ k, d.length = k + 1 := ⟨d.length - 1, by omega⟩
  rw [hk, frs, if_neg h, frs_enough k (d.drop (8 + snd d)).length _ (by rw [List.length_drop]; omega) (Nat.le_refl _)]
theorem snd_short {d : List UInt8} (h : d.length < 8) : snd d = 0 := by
  by_cases e : snd d = 0
  · exact e
  · have := snd_le e
    omega
/-- How many bytes the frames of these payloads take. -/
def size : List (List UInt8) → Nat
  | [] => 0
  | p :: ps => 8 + p.length + size ps
theorem size_append (a b : List (List UInt8)) : size (a ++ b) = size a + size b := by
  induction a with
  | nil => simp [size]
  | cons p a ih => simp only [List.cons_append, size, ih]; omega
theorem size_snoc (a : List (List UInt8)) (p : List UInt8) : size (a ++ [p]) = size a + (8 + p.length) := by
  rw [size_append]
  simp [size]
/-- Where the frames of these payloads end, the first of them beginning at a place. -/
def ends : Nat → List (List UInt8) → List Nat
  | _, [] => []
  | a, p :: ps => (a + 8 + p.length) :: ends (a + 8 + p.length) ps
theorem ends_length (a : Nat) (ps : List (List UInt8)) : (ends a ps).length = ps.length := by
  induction ps generalizing a with
  | nil => rfl
  | cons p ps ih => simp [ends, ih]
theorem ends_get : ∀ (a : Nat) (ps : List (List UInt8)) (k : Nat), k < ps.length → (ends a ps)[k]? = some (a + size (ps.take (k + 1)))
  | a, [], k, h => by simp at h
  | a, p :: ps, 0, h => by simp [ends, size]; omega
  | a, p :: ps, k + 1, h => by
    have := ends_get (a + 8 + p.length) ps k (by simpa using h)
    simp only [ends, List.getElem?_cons_succ, this, List.take_succ_cons, size]
    congr 1
    omega
theorem ends_snoc (a : Nat) (ps : List (List UInt8)) (p : List UInt8) : ends a (ps ++ [p]) = ends a ps ++ [a + size ps + 8 + p.length] := by
  induction ps generalizing a with
  | nil => simp [ends, size]
  | cons q ps ih =>
    simp only [List.cons_append, ends, ih, size]
    congr 3
    omega
theorem size_frs : ∀ (k : Nat) (d : List UInt8), size (frs k d) ≤ d.length := by
  intro k
  induction k with
  | zero => intro d; simp [frs, size]
  | succ k ih =>
    intro d
    simp only [frs]
    by_cases e : snd d = 0
    · simp [e, size]
    · have := snd_le e
      rw [if_neg e]
      have h2 := ih (d.drop (8 + snd d))
      rw [List.length_drop] at h2
      simp only [size, List.length_take, List.length_drop]
      omega
theorem size_frames (d : List UInt8) : size (frames d) ≤ d.length := size_frs _ _
theorem len_le_size (ps : List (List UInt8)) : 8 * ps.length ≤ size ps := by
  induction ps with
  | nil => simp [size]
  | cons p ps ih => simp only [size, List.length_cons]; omega
theorem frames_mem {d : List UInt8} : ∀ p ∈ frames d, 1 ≤ p.length ∧ p.length ≤ 8192 := by
  unfold frames
  generalize d.length = k
  induction k generalizing d with
  | zero => intro p hp; simp [frs] at hp
  | succ k ih =>
    intro p hp
    simp only [frs] at hp
    by_cases e : snd d = 0
    · simp [e] at hp
    · have := snd_le e
      rw [if_neg e] at hp
      rcases List.mem_cons.1 hp with rfl | hp
      · rw [List.length_take, List.length_drop]; omega
      · exact ih p hp
/-- How far a walk over the frames has come. -/
structure Walked (d : List UInt8) (pre : List (List UInt8)) (a : Nat) : Prop where
  at_ : a = size pre
  le : a ≤ d.length
  eq : frames d = pre ++ frames (d.drop a)
theorem Walked.start (d : List UInt8) : Walked d [] 0 := ⟨rfl, Nat.zero_le _, rfl⟩
theorem Walked.next {d : List UInt8} {pre : List (List UInt8)} {a : Nat} (h : Walked d pre a) (hn : snd (d.drop a) ≠ 0) :
    Walked d (pre ++ [(d.drop (a + 8)).take (snd (d.drop a))]) (a + (8 + snd (d.drop a))) := by
  have hl := snd_le hn
  rw [List.length_drop] at hl
  have e1 : (d.drop (a + 8)).take (snd (d.drop a)) = ((d.drop a).drop 8).take (snd (d.drop a)) := by rw [List.drop_drop]
  refine ⟨?_, by omega, ?_⟩
  · rw [size_snoc, ← h.at_, List.length_take, List.length_drop]
    omega
  · rw [h.eq, frames_cons hn, e1, List.drop_drop]
    simp
theorem Walked.done {d : List UInt8} {pre : List (List UInt8)} {a : Nat} (h : Walked d pre a) (hn : snd (d.drop a) = 0) : frames d = pre := by
  rw [h.eq, frames_nil hn, List.append_nil]
theorem Walked.end_ {d : List UInt8} {pre : List (List UInt8)} {a : Nat} (h : Walked d pre a) (hn : d.length ≤ a) : frames d = pre :=
  h.done (snd_short (by rw [List.length_drop]; omega))

/-! Frames that were written are read. -/
theorem num4_take {p : List UInt8} (rest : List UInt8) : be4n (num4 p.length ++ rest) = p.length % 4294967296 := by
  simp only [num4, List.cons_append, List.nil_append, be4n, UInt8.toNat_ofNat']
  omega
theorem be4n_num4 (n : Nat) (h : n < 4294967296) (rest : List UInt8) : be4n (num4 n ++ rest) = n := by
  simp only [num4, List.cons_append, List.nil_append, be4n, UInt8.toNat_ofNat']
  omega
theorem good_wframe {p : List UInt8} (rest : List UInt8) (h1 : 1 ≤ p.length) (h2 : p.length ≤ 8192) : Good (wframe p ++ rest) ∧ be4n (wframe p ++ rest) = p.length := by
  have e1 : be4n (wframe p ++ rest) = p.length := by
    unfold wframe
    rw [List.append_assoc, List.append_assoc, be4n_num4 _ (by omega)]
  have e2 : (wframe p ++ rest).take 4 = num4 p.length := by
    unfold wframe
    rw [List.append_assoc, List.append_assoc]
    exact List.take_left' rfl
  have e3 : (wframe p ++ rest).drop 4 = num4 (crc (num4 p.length ++ p)).toNat ++ (p ++ rest) := by
    unfold wframe
    rw [List.append_assoc, List.append_assoc]
    exact List.drop_left' rfl
  have e4 : (wframe p ++ rest).drop 8 = p ++ rest := by
    unfold wframe
    rw [List.append_assoc]
    exact List.drop_left' rfl
  refine ⟨⟨by omega, by omega, by rw [e1, List.length_append, wframe_length]; omega, ?_⟩, e1⟩
  rw [e1, e2, e3, e4, List.take_left' rfl, be4n_num4 _ (crc (num4 p.length ++ p)).isLt]
theorem frames_wframe {p : List UInt8} (rest : List UInt8) (h1 : 1 ≤ p.length) (h2 : p.length ≤ 8192) : frames (wframe p ++ rest) = p :: frames rest := by
  obtain ⟨hg, he⟩ := good_wframe rest h1 h2
  have hs : snd (wframe p ++ rest) = p.length := (snd_good hg).trans he
  have e4 : (wframe p ++ rest).drop 8 = p ++ rest := by
    unfold wframe
    rw [List.append_assoc]
    exact List.drop_left' rfl
  rw [frames_cons (by omega), hs, e4, List.take_left' rfl]
  congr 2
  exact List.drop_left' (wframe_length p)
/-- What the frames of the good head are made of. -/
theorem good_is_wframe {d : List UInt8} (h : Good d) : d = wframe ((d.drop 8).take (be4n d)) ++ d.drop (8 + be4n d) := by
  obtain ⟨h1, h2, h3, h4⟩ := h
  obtain ⟨a, b, c, e, f, g, i, j, r, rfl⟩ : ∃ a b c e f g i j r, d = a :: b :: c :: e :: f :: g :: i :: j :: r := by
    match d, h3 with
    | a :: b :: c :: e :: f :: g :: i :: j :: r, _ => exact ⟨_, _, _, _, _, _, _, _, _, rfl⟩
    | [], h => simp at h
    | [_], h => simp at h; omega
    | [_, _], h => simp at h; omega
    | [_, _, _], h => simp at h; omega
    | [_, _, _, _], h => simp at h; omega
    | [_, _, _, _, _], h => simp at h; omega
    | [_, _, _, _, _, _], h => simp at h; omega
    | [_, _, _, _, _, _, _], h => simp at h; omega
  have num4_of : ∀ a b c e : UInt8, num4 (a.toNat * 16777216 + b.toNat * 65536 + c.toNat * 256 + e.toNat) = [a, b, c, e] := by
    intro a b c e
    have := a.toNat_lt
    have := b.toNat_lt
    have := c.toNat_lt
    have := e.toNat_lt
    simp only [num4, List.cons.injEq, and_true]
    refine ⟨?_, ?_, ?_, ?_⟩ <;> (apply UInt8.toNat_inj.1; rw [UInt8.toNat_ofNat']; omega)
  have hlen : ((a :: b :: c :: e :: f :: g :: i :: j :: r).drop 8).take (be4n (a :: b :: c :: e :: f :: g :: i :: j :: r)) = r.take (be4n (a :: b :: c :: e :: f :: g :: i :: j :: r)) := rfl
  rw [hlen] at h4 ⊢
  have hl2 : (r.take (be4n (a :: b :: c :: e :: f :: g :: i :: j :: r))).length = be4n (a :: b :: c :: e :: f :: g :: i :: j :: r) := by
    rw [List.length_take]
    simp only [List.length_cons] at h3
    omega
  have hn : num4 (be4n (a :: b :: c :: e :: f :: g :: i :: j :: r)) = [a, b, c, e] := num4_of a b c e
  have h5 : (crc ([a, b, c, e] ++ r.take (be4n (a :: b :: c :: e :: f :: g :: i :: j :: r)))).toNat = be4n (f :: g :: i :: j :: r) := h4
  unfold wframe
  rw [hl2, hn, h5]
  have hm : num4 (be4n (f :: g :: i :: j :: r)) = [f, g, i, j] := num4_of f g i j
  rw [hm, List.append_assoc]
  simp only [List.cons_append, List.nil_append, List.drop_succ_cons, List.cons.injEq, true_and, Nat.add_comm 8]
  exact (List.take_append_drop _ _).symm
theorem frames_short {d : List UInt8} (h : d.length < 8) : frames d = [] := frames_nil (snd_short h)
end Go.Proofs.YtjhlelcopofkkaaDoor
