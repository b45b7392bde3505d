/- The law WalNew: lists written full, one by one; lists that grew. In plain Lean. -/
import Derived.Test.YtjhlelcopofkkaaDoorNewA
namespace Go.Proofs.YtjhlelcopofkkaaDoor
open Go.RowKit

theorem marked_snoc : ∀ (i : Nat) (ps : List (List UInt8)) (p : List UInt8), marked i (ps ++ [p]) = marked i ps ++ [List.replicate p.length (mk1 (i + ps.length))]
  | i, [], p => rfl
  | i, q :: ps, p => by
    simp only [List.cons_append, marked]
    rw [marked_snoc (i + 1) ps p]
    simp [Nat.add_assoc, Nat.add_comm 1 ps.length]
/-- The first k written full. -/
def filled (ps : List (List UInt8)) (k : Nat) : List (List UInt8) := marked 0 (ps.take k) ++ ps.drop k
theorem filled_zero (ps : List (List UInt8)) : filled ps 0 = ps := rfl
theorem filled_all (ps : List (List UInt8)) : filled ps ps.length = marked 0 ps := by unfold filled; rw [List.take_length, List.drop_length, List.append_nil]
theorem filled_length (ps : List (List UInt8)) (k : Nat) (h : k ≤ ps.length) : (filled ps k).length = ps.length := by
  unfold filled; rw [List.length_append, marked_length, List.length_take, List.length_drop]; omega
theorem filled_step (ps : List (List UInt8)) (k : Nat) (h : k < ps.length) : ∃ A p B, p ∈ ps ∧ A.length = k ∧ B.length = ps.length - (k + 1) ∧ filled ps k = A ++ p :: B ∧ filled ps (k + 1) = A ++ List.replicate p.length (mk1 k) :: B := by
  refine ⟨marked 0 (ps.take k), ps[k], ps.drop (k + 1), List.getElem_mem h, by rw [marked_length, List.length_take]; omega, by rw [List.length_drop], ?_, ?_⟩
  · unfold filled; rw [List.drop_eq_getElem_cons h]
  · unfold filled
    rw [take_snoc ps k h, marked_snoc, List.length_take, Nat.min_eq_left (by omega), Nat.zero_add, List.append_assoc]
    rfl
theorem bvl_split {V : List Value} {A B : List (List UInt8)} (h : V.length = A.length + 1 + B.length) : ∃ v, V[A.length]? = some v ∧ ∀ q, bvl V (A ++ q :: B) = bvl (V.take A.length) A * bvl (V.drop (A.length + 1)) B * vec 5 1 v q.length (bvs q) := by
  have hk : A.length < V.length := by omega
  refine ⟨V[A.length], List.getElem?_eq_getElem hk, fun q => ?_⟩
  have e : V = V.take A.length ++ (V[A.length] :: V.drop (A.length + 1)) := by rw [List.getElem_cons_drop, List.take_append_drop]
  have h2 : bvl V (A ++ q :: B) = bvl (V.take A.length ++ (V[A.length] :: V.drop (A.length + 1))) (A ++ q :: B) := by rw [← e]
  rw [h2, bvl_append (by rw [List.length_take]; omega), bvl_cons]
  ac_rfl
/-- Lists that grew by 64 marks. -/
def grown : Nat → List (List UInt8) → List (List UInt8)
  | _, [] => []
  | i, p :: ps => (p ++ List.replicate 64 (mk2 i)) :: grown (i + 1) ps
theorem grown_length : ∀ (i : Nat) (ps : List (List UInt8)), (grown i ps).length = ps.length
  | _, [] => rfl
  | i, p :: ps => by simp [grown, grown_length]
theorem grown_snoc : ∀ (i : Nat) (ps : List (List UInt8)) (p : List UInt8), grown i (ps ++ [p]) = grown i ps ++ [p ++ List.replicate 64 (mk2 (i + ps.length))]
  | i, [], p => rfl
  | i, q :: ps, p => by
    simp only [List.cons_append, grown]
    rw [grown_snoc (i + 1) ps p]
    simp [Nat.add_assoc, Nat.add_comm 1 ps.length]
theorem grown_get : ∀ (i : Nat) (ps : List (List UInt8)) (k : Nat) (h : k < ps.length), (grown i ps)[k]? = some (ps[k] ++ List.replicate 64 (mk2 (i + k)))
  | _, [], k, h => absurd h (Nat.not_lt_zero k)
  | i, p :: ps, 0, _ => rfl
  | i, p :: ps, k + 1, h => by
    simp only [grown, List.getElem?_cons_succ]
    rw [grown_get (i + 1) ps k (by simpa using h)]
    simp [Nat.add_assoc, Nat.add_comm 1 k]
theorem bvs_replicate (n : Nat) (b : UInt8) : bvs (List.replicate n b) = List.replicate n (bv b) := by simp [bvs]
/-- One more of the marks. -/
theorem fill_set (p : List UInt8) (m : Nat) (b : UInt8) (h : m < p.length) : (bvs (List.replicate m b ++ p.drop m)).set m (bv b) = bvs (List.replicate (m + 1) b ++ p.drop (m + 1)) := by
  have hd : p.drop m = p[m] :: p.drop (m + 1) := List.drop_eq_getElem_cons h
  rw [hd]
  have e : List.replicate (m + 1) b ++ p.drop (m + 1) = List.replicate m b ++ (b :: p.drop (m + 1)) := by
    rw [List.replicate_succ', List.append_assoc]; rfl
  rw [e]
  simp only [bvs, List.map_append, List.map_cons]
  rw [List.set_append_right _ _ (by simp)]
  simp
theorem fill_len (p : List UInt8) (m : Nat) (b : UInt8) (h : m ≤ p.length) : (List.replicate m b ++ p.drop m).length = p.length := by
  rw [List.length_append, List.length_replicate, List.length_drop]; omega
theorem fill_get (p : List UInt8) (m : Nat) (b : UInt8) (h : m < p.length) : (bvs (List.replicate m b ++ p.drop m))[m]? = some (bv p[m]) := by
  rw [List.drop_eq_getElem_cons h]
  simp only [bvs, List.map_append, List.map_cons]
  rw [List.getElem?_append_right (by simp)]
  simp only [List.length_map, List.length_replicate, Nat.sub_self, List.getElem?_cons_zero]
theorem bvl_drop {V : List Value} {Q : List (List UInt8)} {k : Nat} (hV : k < V.length) (hQ : k < Q.length) : ∃ v q, V[k]? = some v ∧ Q[k]? = some q ∧ q ∈ Q ∧ V.take (k + 1) = V.take k ++ [v] ∧ Q.take (k + 1) = Q.take k ++ [q] ∧
    bvl (V.drop k) (Q.drop k) = vec 5 1 v q.length (bvs q) * bvl (V.drop (k + 1)) (Q.drop (k + 1)) :=
  ⟨V[k], Q[k], List.getElem?_eq_getElem hV, List.getElem?_eq_getElem hQ, List.getElem_mem hQ, take_snoc V k hV, take_snoc Q k hQ, by rw [List.drop_eq_getElem_cons hV, List.drop_eq_getElem_cons hQ, bvl_cons]⟩
theorem marked_mem {i : Nat} {ps : List (List UInt8)} (h : ∀ p ∈ ps, 1 ≤ p.length ∧ p.length ≤ 8192) : ∀ q ∈ marked i ps, 1 ≤ q.length ∧ q.length ≤ 8192 := by
  intro q hq
  obtain ⟨k, hk, rfl⟩ := List.getElem_of_mem hq
  rw [marked_length] at hk
  have e := marked_get i ps k hk
  have e2 : (marked i ps)[k]? = some ((marked i ps)[k]'(by rw [marked_length]; exact hk)) := List.getElem?_eq_getElem _
  rw [e] at e2
  have e3 := Option.some.inj e2
  rw [← e3, List.length_replicate]
  exact h _ (List.getElem_mem hk)
end Go.Proofs.YtjhlelcopofkkaaDoor
