/- The laws of layer 12: when two answers are the same; the step that looks; lists of steps that are read. -/
import Derived.Test.YtjhlelcopofkkaaDoorToldW
namespace Go.Proofs.YtjhlelcopofkkaaDoor
open Go.RowKit

theorem act_len {D : Dk} (h : D.Ok) (s : Stp) : (D.act s).1.list.length ≤ 140737488351232 := by
  have hb := h.bytes
  have hg := (h.gate (L := id) (fun _ h => h)).bytes
  unfold Dk.act
  split
  · simp
  split
  · simp
  split
  · show (if (D.gate id).2 = 0 then (D.gate id).1.bytes else []).length ≤ _
    split
    · exact hg
    · simp
  split
  · simp
  split
  · simp
  split
  · simp
  split
  · simp
  split
  · simp
  split
  · exact hb
  · simp
theorem rest_len (D : Dk) : D.rest.length ≤ D.arms.length := by
  unfold Dk.rest
  split
  · simp
  · rename_i r he
    rw [he]; simp
  · rename_i k keep r he
    rw [he]; simp
theorem gate_arms (D : Dk) (L : Dk → Dk) (hL : ∀ D, (L D).arms = D.arms) : (D.gate L).1.arms.length ≤ D.arms.length := by
  cases hd : D.dead with
  | true => rw [Dk.gate_dead hd]; exact Nat.le_refl _
  | false =>
    have hr := rest_len D
    rw [Dk.gate_eq hd]
    split
    · show (L { D with arms := D.rest }).arms.length ≤ _
      rw [hL]
      exact hr
    · exact hr
theorem putp_arms (D : Dk) (p : List UInt8) : (D.putp p).arms = D.arms := by
  unfold Dk.putp
  split <;> rfl
theorem append_arms (D : Dk) (p : List UInt8) : (D.append p).1.arms.length ≤ D.arms.length := by
  have h := gate_arms D (·.putp p) (fun D => putp_arms D p)
  unfold Dk.append
  split
  · split
    · show ((D.gate (·.putp p)).1.putp p).arms.length ≤ _
      rw [putp_arms]; exact h
    · exact h
  · exact h
theorem sync_arms (D : Dk) : D.sync.1.arms.length ≤ D.arms.length := by
  have h := gate_arms D id (fun _ => rfl)
  unfold Dk.sync
  split
  · exact h
  · exact h
theorem trunc_arms (D : Dk) (n : Int) : (D.trunc n).1.arms.length ≤ D.arms.length := by
  have h := gate_arms D id (fun _ => rfl)
  unfold Dk.trunc
  split
  · exact Nat.le_refl _
  · split
    · exact h
    · exact h
theorem crash_arms (D : Dk) (n : Int) : (D.crash n).arms = D.arms := by
  unfold Dk.crash
  split <;> rfl
/-- How many arms wait grows by one at most. -/
theorem act_arms (D : Dk) (s : Stp) : (D.act s).2.arms.length ≤ D.arms.length + 1 := by
  unfold Dk.act
  split
  · have := append_arms D s.data.data.toList; simp only; omega
  split
  · have := sync_arms D; simp only; omega
  split
  · have := gate_arms D id (fun _ => rfl); simp only; omega
  split
  · have := trunc_arms D s.n; simp only; omega
  split
  · show (D.arms ++ [_]).length ≤ _
    simp
  split
  · show (D.crash s.n).arms.length ≤ _
    rw [crash_arms]; omega
  split
  · simp
  split
  · show D.arms.length ≤ _
    omega
  split
  · simp
  · simp

def Stp.looks : Stp := ⟨9, 0, 0, 0, ⟨#[]⟩⟩
theorem Stp.looks_ok : Stp.looks.Ok := ⟨by decide, by decide, by decide, by decide, by decide⟩
set_option maxHeartbeats 1600000 in
theorem law12_look {w : World} : Calls Tryd.prog 50 #[] w (Ret fun v w' => v = Stp.looks.val ∧ Sat w w' 1) := by
  have hs6 := ((Sat.refl w).new #[.int .i64 9, .int .i64 0, .int .i64 0, .int .i64 0, .string ⟨#[]⟩] 83)
  have HS := Hid.mk' hs6
  clear hs6
  go_enter Tryd.func50, Tryd.ntmps50
  go_wp2_with fail
  refine bodyPost_ret (v := Stp.looks.val) (by simp [results, Tryd.results50, go_sem, Stp.looks, Stp.val]) rfl (Ret.mk ⟨rfl, ?_⟩)
  exact HS.out.drop

set_option maxHeartbeats 3200000 in
theorem law12_same_true {w : World} (S : Said) (a1 a2 : Option Addr) (c1 c2 : Nat) (h1 : Rd w a1 (bvs S.list)) (h2 : Rd w a2 (bvs S.list)) (hl : S.list.length ≤ 140737488351232) :
    Calls Tryd.prog 48 #[said (.slice a1 S.list.length c1) S, said (.slice a2 S.list.length c2) S] w (Ret fun v w' => v = .bool true ∧ Sat w w' 1) := by
  obtain ⟨l, N, e⟩ := S
  show Calls Tryd.prog 48 #[.agg #[.slice a1 l.length c1, .int .i64 N, .int .i64 (e : Int)], .agg #[.slice a2 l.length c2, .int .i64 N, .int .i64 (e : Int)]] w _
  have hs := ((Sat.refl w).new #[.slice a1 l.length c1, .int .i64 N, .int .i64 (e : Int)] 87).new #[.slice a2 l.length c2, .int .i64 N, .int .i64 (e : Int)] 87
  have HC := Hid.mk' (ref0_sameBytes l l a1 a2 c1 c2 (h1.mono hs.below) (h2.mono hs.below) hl)
  rw [decide_eq_true rfl] at HC
  have HS := Hid.mk' hs
  have e1 : (N == N) = true := beq_self_eq_true _
  have e2 : ((e : Int) == (e : Int)) = true := beq_self_eq_true _
  clear hs h1 h2
  go_enter Tryd.func48, Tryd.ntmps48
  go_wp2_with (go_at_call 25; refine HC.out.mono ?_; rintro e' w' ⟨rfl, m, rfl⟩)
  go_ret
  exact Ret.mk ⟨rfl, ((HS.out.drewN m).drop.drop)⟩

/-- The cells of steps. -/
def stpCells (s : Stp) : List Value := [.int .i64 s.kind, .int .i64 s.on, .int .i64 s.n, .int .i64 s.m, .string s.data]
def stps (l : List Stp) : List Value := l.flatMap stpCells
theorem stps_get {l : List Stp} {k : Nat} (h : k < l.length) : ∀ j, j < 5 → (stps l)[5 * k + j]? = (stpCells l[k])[j]? := by
  induction l generalizing k with
  | nil => simp at h
  | cons x l ih =>
    intro j hj
    have e : stps (x :: l) = stpCells x ++ stps l := rfl
    rw [e]
    cases k with
    | zero =>
      rw [List.getElem?_append_left (by simp [stpCells]; omega)]
      simp
    | succ k =>
      rw [List.getElem?_append_right (by simp [stpCells]; omega)]
      have := ih (k := k) (by simpa using h) j hj
      simp only [stpCells, List.length_cons, List.length_nil, List.getElem_cons_succ] at this ⊢
      rw [show 5 * (k + 1) + j - (0 + 1 + 1 + 1 + 1 + 1) = 5 * k + j by omega]
      exact this
theorem stps_length (l : List Stp) : (stps l).length = 5 * l.length := by
  induction l with
  | nil => rfl
  | cons x l ih =>
    have e : stps (x :: l) = stpCells x ++ stps l := rfl
    rw [e, List.length_append, ih]
    simp [stpCells]; omega
/-- One step, read. -/
theorem stps_rd {w : World} {ao : Option Addr} {l : List Stp} (h : Rd w ao (stps l)) {k : Nat} (hk : k < l.length) : ∃ b o, ao = some ⟨b, o, none⟩ ∧ w.cell? ⟨b, o + k * 5, none⟩ = some (.int .i64 l[k].kind) ∧ w.cell? ⟨b, o + k * 5 + 1, none⟩ = some (.int .i64 l[k].on) ∧
    w.cell? ⟨b, o + k * 5 + 2, none⟩ = some (.int .i64 l[k].n) ∧ w.cell? ⟨b, o + k * 5 + 3, none⟩ = some (.int .i64 l[k].m) ∧ w.cell? ⟨b, o + k * 5 + 4, none⟩ = some (.string l[k].data) := by
  obtain ⟨b, o, e, hc⟩ := h.addr (by intro e; have := stps_length l; rw [e] at this; simp at this; omega)
  have hg : ∀ j (hj : j < 5), w.cell? ⟨b, o + k * 5 + j, none⟩ = (stpCells l[k])[j]? := fun j hj => by
    have h1 := stps_get hk j hj
    have h2 : (stpCells l[k])[j]? = some ((stpCells l[k])[j]'(by simp [stpCells]; omega)) := List.getElem?_eq_getElem _
    rw [h2] at h1 ⊢
    have := hc _ _ h1
    rwa [show o + (5 * k + j) = o + k * 5 + j by omega] at this
  exact ⟨b, o, e, hg 0 (by omega), hg 1 (by omega), hg 2 (by omega), hg 3 (by omega), hg 4 (by omega)⟩
end Go.Proofs.YtjhlelcopofkkaaDoor
