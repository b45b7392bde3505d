/- A frame whose payload was turned is none: the good head ends ahead of it. -/
import Derived.Test.YtjhlelcopofkkaaDoorBurst
import Derived.Test.YtjhlelcopofkkaaDoorTorn
namespace Go.Proofs.YtjhlelcopofkkaaDoor

theorem frames_enc_then {ps : List (List UInt8)} (h : ∀ p ∈ ps, 1 ≤ p.length ∧ p.length ≤ 8192) (rest : List UInt8) : frames (enc ps ++ rest) = ps ++ frames rest := by
  induction ps with
  | nil => rfl
  | cons p ps ih =>
    have hp := h p (List.mem_cons_self ..)
    rw [enc_cons, List.append_assoc, frames_wframe _ hp.1 hp.2, ih (fun q hq => h q (List.mem_cons_of_mem _ hq)), List.cons_append]
/-- The head of a frame. -/
def head8 (p : List UInt8) : List UInt8 := num4 p.length ++ num4 (crc (num4 p.length ++ p)).toNat
theorem head8_length (p : List UInt8) : (head8 p).length = 8 := rfl
theorem wframe_head (p : List UInt8) : wframe p = head8 p ++ p := rfl
theorem turned_bad {p y rest : List UInt8} (hl : y.length = p.length) (h1 : 1 ≤ p.length) (h2 : p.length ≤ 8192) (hc : crc (num4 p.length ++ p) ≠ crc (num4 p.length ++ y)) : frames (head8 p ++ y ++ rest) = [] := by
  refine frames_nil (snd_bad fun g => hc ?_)
  have e1 : be4n (head8 p ++ y ++ rest) = p.length := by
    unfold head8
    rw [List.append_assoc, List.append_assoc, be4n_num4 _ (by omega)]
  have e2 : (head8 p ++ y ++ rest).take 4 = num4 p.length := by
    unfold head8
    rw [List.append_assoc, List.append_assoc]
    exact List.take_left' rfl
  have e3 : (head8 p ++ y ++ rest).drop 4 = num4 (crc (num4 p.length ++ p)).toNat ++ (y ++ rest) := by
    unfold head8
    rw [List.append_assoc, List.append_assoc]
    exact List.drop_left' rfl
  have e4 : (head8 p ++ y ++ rest).drop 8 = y ++ rest := by
    rw [List.append_assoc]
    exact List.drop_left' (head8_length p)
  have h := g.2.2.2
  rw [e1, e2, e3, e4, List.take_left' hl, be4n_num4 _ (crc (num4 p.length ++ p)).isLt] at h
  exact (BitVec.eq_of_toNat_eq h).symm
/-- THE LAW IN PLAIN LEAN. -/
theorem frames_burst {gs : List (List UInt8)} (hg : ∀ p ∈ gs, 1 ≤ p.length ∧ p.length ≤ 8192) (k : Nat) (hk : k < gs.length) (a : Nat) (m : BitVec 32) (h : ∃ j, j < 32 ∧ a + j < 8 * gs[k].length ∧ m.getLsbD j = true) (rest : List UInt8) :
    frames (enc (gs.take k) ++ (head8 gs[k] ++ burst gs[k] a m 32 ++ rest)) = gs.take k := by
  have hp := hg _ (List.getElem_mem hk)
  rw [frames_enc_then (fun p hp => hg p (List.mem_of_mem_take hp)), turned_bad (burst_length _ _ _ _) hp.1 hp.2 (burst_sum _ _ _ _ h), List.append_nil]
theorem enc_at (gs : List (List UInt8)) (k : Nat) (hk : k < gs.length) : enc gs = enc (gs.take k) ++ (head8 gs[k] ++ gs[k] ++ enc (gs.drop (k + 1))) := by
  have e : gs = gs.take k ++ (gs[k] :: gs.drop (k + 1)) := by rw [List.getElem_cons_drop, List.take_append_drop]
  conv => lhs; rw [e]
  rw [enc_append, enc_cons, wframe_head]
end Go.Proofs.YtjhlelcopofkkaaDoor
