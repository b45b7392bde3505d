/- The law WalTorn: the chapter's own example; the frames of payloads, one behind the other. -/
import Derived.Test.YtjhlelcopofkkaaDoorScanF
namespace Go.Proofs.YtjhlelcopofkkaaDoor
open Go.RowKit

/-! The frames of payloads, one behind the other. -/
def goodOnes (ps : List (List UInt8)) : List (List UInt8) := ps.filter fun p => decide (1 ≤ p.length ∧ p.length ≤ 8192)
def enc (ps : List (List UInt8)) : List UInt8 := (ps.map wframe).flatten
theorem enc_nil : enc [] = [] := rfl
theorem enc_cons (p : List UInt8) (ps : List (List UInt8)) : enc (p :: ps) = wframe p ++ enc ps := by simp [enc]
theorem enc_append (ps qs : List (List UInt8)) : enc (ps ++ qs) = enc ps ++ enc qs := by simp [enc]
theorem enc_length (ps : List (List UInt8)) : (enc ps).length = size ps := by
  induction ps with
  | nil => rfl
  | cons p ps ih => rw [enc_cons, List.length_append, wframe_length, ih, size]
theorem goodOnes_mem {ps : List (List UInt8)} : ∀ p ∈ goodOnes ps, 1 ≤ p.length ∧ p.length ≤ 8192 := by
  intro p hp
  have := (List.mem_filter.1 hp).2
  simpa using this
theorem goodOnes_snoc_ok {ps : List (List UInt8)} {p : List UInt8} (h : 1 ≤ p.length ∧ p.length ≤ 8192) : goodOnes (ps ++ [p]) = goodOnes ps ++ [p] := by simp [goodOnes, h]
theorem goodOnes_snoc_no {ps : List (List UInt8)} {p : List UInt8} (h : ¬ (1 ≤ p.length ∧ p.length ≤ 8192)) : goodOnes (ps ++ [p]) = goodOnes ps := by
  have : decide (1 ≤ p.length ∧ p.length ≤ 8192) = false := decide_eq_false h
  simp only [goodOnes, List.filter_append, List.filter_cons, this, List.filter_nil]
  simp
theorem frames_enc {ps : List (List UInt8)} (h : ∀ p ∈ ps, 1 ≤ p.length ∧ p.length ≤ 8192) : frames (enc ps) = ps := by
  induction ps with
  | nil => exact frames_short (by simp [enc])
  | cons p ps ih =>
    have hp := h p (List.mem_cons_self ..)
    rw [enc_cons, frames_wframe _ hp.1 hp.2, ih (fun q hq => h q (List.mem_cons_of_mem _ hq))]
/-- A frame that is cut off is none. -/
theorem cut_bad {p rest : List UInt8} {m : Nat} (h2 : p.length ≤ 8192) (hm : m < 8 + p.length) : ¬ Good ((wframe p ++ rest).take m) := by
  intro g
  have hl := g.2.2.1
  have hle : ((wframe p ++ rest).take m).length ≤ m := by rw [List.length_take]; omega
  have e : be4n ((wframe p ++ rest).take m) = p.length := by
    have h8 : 8 ≤ m := by omega
    obtain ⟨k, rfl⟩ : ∃ k, m = k + 4 := ⟨m - 4, by omega⟩
    unfold wframe
    rw [List.append_assoc, List.append_assoc]
    have : ∀ r : List UInt8, (num4 p.length ++ r).take (k + 4) = num4 p.length ++ r.take k := by intro r; simp [num4]
    rw [this, be4n_num4 _ (by omega)]
  omega
/-- How many frames stand whole ahead of a place. -/
def whole (cut : Nat) : List (List UInt8) → Nat
  | [] => 0
  | p :: ps => if 8 + p.length ≤ cut then whole (cut - (8 + p.length)) ps + 1 else 0
theorem whole_le (cut : Nat) (ps : List (List UInt8)) : whole cut ps ≤ ps.length := by
  induction ps generalizing cut with
  | nil => simp [whole]
  | cons p ps ih =>
    simp only [whole, List.length_cons]
    split
    · have := ih (cut - (8 + p.length)); omega
    · omega
theorem frames_cut {ps : List (List UInt8)} (h : ∀ p ∈ ps, 1 ≤ p.length ∧ p.length ≤ 8192) (cut : Nat) : frames ((enc ps).take cut) = ps.take (whole cut ps) := by
  induction ps generalizing cut with
  | nil => exact frames_short (by simp [enc])
  | cons p ps ih =>
    have hp := h p (List.mem_cons_self ..)
    simp only [whole]
    rw [enc_cons]
    by_cases hc : 8 + p.length ≤ cut
    · rw [if_pos hc, List.take_append, wframe_length, List.take_of_length_le (by rw [wframe_length]; exact hc), frames_wframe _ hp.1 hp.2, ih (fun q hq => h q (List.mem_cons_of_mem _ hq)), List.take_succ_cons]
    · rw [if_neg hc, List.take_zero]
      exact frames_nil (snd_bad (cut_bad hp.2 (by omega)))
/-- The ends that lie at or ahead of a place are the first ones. -/
theorem whole_iff (cut : Nat) (ps : List (List UInt8)) (k : Nat) (hk : k < ps.length) : size (ps.take (k + 1)) ≤ cut ↔ k < whole cut ps := by
  induction ps generalizing cut k with
  | nil => simp at hk
  | cons p ps ih =>
    simp only [List.take_succ_cons, size, whole]
    by_cases hc : 8 + p.length ≤ cut
    · rw [if_pos hc]
      cases k with
      | zero => simp [size]; omega
      | succ k =>
        have := ih (cut - (8 + p.length)) k (by simpa using hk)
        omega
    · rw [if_neg hc]
      omega
end Go.Proofs.YtjhlelcopofkkaaDoor
