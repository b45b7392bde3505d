/- The law of crashes: what must be found again, kept in memory. -/
import Derived.Test.YtjhlelcopofkkaaDoorCrashP
import Derived.Test.YtjhlelcopofkkaaDoorOpens13
namespace Go.Proofs.YtjhlelcopofkkaaDoor
open Go.RowKit

/-- Each of them is a slice. -/
def Slices (vs : List Value) : Prop := ∀ v ∈ vs, ∃ (a : Option Addr) (n c : Nat), v = Value.slice a n c
theorem Sat.bvl_slices {w0 w : World} {F : HP} {vs : List Value} {ps : List (List UInt8)} (hs : Sat w0 w (F * bvl vs ps)) : Slices vs := by
  intro v hv
  obtain ⟨k, hk, rfl⟩ := List.getElem_of_mem hv
  have hl := hs.bvl_len
  obtain ⟨bo, c, h1, _⟩ := hs.bvl_rd (k := k) (List.getElem?_eq_getElem (by omega))
  rw [List.getElem?_eq_getElem hk] at h1
  exact ⟨_, _, _, Option.some.inj h1⟩
theorem Slices.nil : Slices [] := fun v hv => by cases hv
theorem Slices.append {vs us : List Value} (h : Slices vs) (g : Slices us) : Slices (vs ++ us) := fun v hv => by
  rcases List.mem_append.1 hv with hv | hv
  · exact h v hv
  · exact g v hv
theorem info_lists : (Tryd.prog.info? 22).map (fun i => (i.zero, i.size, i.bytes)) = some (some (.slice none 0 0), 1, 24) := info_bytes

set_option maxHeartbeats 3200000 in
/-- A list behind another one: their parts are handed on. -/
theorem law13_behind {w : World} (va vb : List Value) (ao bo : Option Addr) (c d : Nat) (hr : Rd w ao va) (hq : Rd w bo vb) (ha : Slices va) (hb : Slices vb) (hn : va.length + vb.length ≤ 16777216) :
    Calls Tryd.prog 73 #[.slice ao va.length c, .slice bo vb.length d] w (Ret fun v w' => Sat w w' (vec 22 1 v (va.length + vb.length) (va ++ vb))) := by
  have HR := Hid.mk' hr
  have HQ := Hid.mk' hq
  have HA := Hid.mk' ha
  have HB := Hid.mk' hb
  clear hr hq ha hb
  go_enter Tryd.func73, Tryd.ntmps73
  go_wp2_with fail
  go_loopw [5, 6] (fun l i wr => ∃ k : Nat, k ≤ va.length ∧ i = .int .i64 k ∧ Sat w wr (1 * vec 22 1 l k (va.take k))) (fun _ i _ => va.length - (intOf i).toNat)
  case atStart => exact ⟨0, by omega, rfl, (Sat.refl w).vec_nil _ _⟩
  case round =>
    obtain ⟨k, hk, rfl, hS⟩ := hrel
    by_cases hlt : k < va.length
    · obtain ⟨b, of, rfl, hcells⟩ := (HR.out.of0 hS).addr (by intro e; rw [e] at hlt; simp at hlt)
      obtain ⟨ea, en, ec, he⟩ := HA.out va[k] (List.getElem_mem hlt)
      have hcell : wr.cell? ⟨b, of + k, none⟩ = some (.slice ea en ec) := by rw [← he]; exact hcells k _ (List.getElem?_eq_getElem hlt)
      have h1 := Hid.mk' he
      clear he hcells
      go_wp2_with (at_builtin; go_loud (refine sl_append rfl _ _ 37 rfl 22 (.slice none 0 0) 1 24 Tryd.underlying37 info_lists rfl (by decide) _ k _ rfl (by exact hS.skip) _ 1 _ [.slice ea en ec] rfl rfl (by exact Rd.made _ _ _ _) (by intro u hu; rw [List.mem_singleton] at hu; subst hu; rfl) (by simp only [maxLen]; omega) (by omega) ?_); intro v' w' hS')
      refine ⟨⟨k + 1, by omega, rfl, ?_⟩, by simp [intOf]; omega⟩
      rw [take_snoc va k hlt, h1.out]
      exact hS'
    · obtain rfl : k = va.length := by omega
      rw [List.take_length] at hS
      go_wp2_with fail
      go_loopw [5, 7] (fun l i wr => ∃ k : Nat, k ≤ vb.length ∧ i = .int .i64 k ∧ Sat w wr (1 * vec 22 1 l (va.length + k) (va ++ vb.take k))) (fun _ i _ => vb.length - (intOf i).toNat)
      case atStart => exact ⟨0, by omega, rfl, by rw [List.take_zero, List.append_nil]; exact hS⟩
      case round =>
        clear hS
        obtain ⟨k, hk, rfl, hS⟩ := hrel
        by_cases hlt : k < vb.length
        · obtain ⟨b, of, rfl, hcells⟩ := (HQ.out.of0 hS).addr (by intro e; rw [e] at hlt; simp at hlt)
          obtain ⟨ea, en, ec, he⟩ := HB.out vb[k] (List.getElem_mem hlt)
          have hcell : wr.cell? ⟨b, of + k, none⟩ = some (.slice ea en ec) := by rw [← he]; exact hcells k _ (List.getElem?_eq_getElem hlt)
          have h1 := Hid.mk' he
          clear he hcells
          go_wp2_with (at_builtin; go_loud (refine sl_append rfl _ _ 37 rfl 22 (.slice none 0 0) 1 24 Tryd.underlying37 info_lists rfl (by decide) _ (va.length + k) _ rfl (by exact hS.skip) _ 1 _ [.slice ea en ec] rfl rfl (by exact Rd.made _ _ _ _) (by intro u hu; rw [List.mem_singleton] at hu; subst hu; rfl) (by simp only [maxLen]; omega) (by omega) ?_); intro v' w' hS')
          refine ⟨⟨k + 1, by omega, rfl, ?_⟩, by simp [intOf]; omega⟩
          rw [take_snoc vb k hlt, h1.out, ← List.append_assoc]
          exact hS'
        · obtain rfl : k = vb.length := by omega
          rw [List.take_length, HP.one_mul] at hS
          go_wp2_with fail
          go_ret
          exact Ret.mk hS

theorem size_take_at (ps : List (List UInt8)) (k : Nat) (h : k < ps.length) : size (ps.take (k + 1)) = size (ps.take k) + (8 + ps[k].length) := by
  rw [take_snoc ps k h, size_snoc]
set_option maxHeartbeats 3200000 in
theorem law13_takes {w : World} (ps : List (List UInt8)) (ao : Option Addr) (c : Nat) (hr : RdL w ao ps) (hz : size ps ≤ 16777216) :
    Calls Tryd.prog 129 #[.slice ao ps.length c] w (Drew (.int .i64 (size ps)) w) := by
  have HR := Hid.mk' hr
  have hpl := len_le_size ps
  clear hr
  go_enter Tryd.func129, Tryd.ntmps129
  go_wp2_with fail
  go_loopw [3, 4] (fun n i wr => ∃ k : Nat, k ≤ ps.length ∧ i = .int .i64 k ∧ n = .int .i64 (size (ps.take k)) ∧ ∃ m, wr = w.drewN m) (fun _ i _ => ps.length - (intOf i).toNat)
  case atStart => exact ⟨0, by omega, rfl, rfl, 0, rfl⟩
  case round =>
    obtain ⟨k, hk, rfl, rfl, m, rfl⟩ := hrel
    by_cases hlt : k < ps.length
    · obtain ⟨b, of, bo, bc, rfl, hcell, _⟩ := (HR.out.drewN (n := m)).cell hlt
      have hst := size_take_at ps k hlt
      have hle := size_take_le ps (k + 1)
      have HS := Hid.mk' hst
      have hb1 : size (ps.take k) + (8 + ps[k].length) ≤ 16777216 := by omega
      clear hst hle
      go_wp2_with fail
      refine ⟨⟨k + 1, by omega, rfl, congrArg (Value.int .i64) (by rw [HS.out]; omega), _, rfl⟩, by simp [intOf]; omega⟩
    · obtain rfl : k = ps.length := by omega
      rw [List.take_length]
      go_wp2_with fail
      go_ret
      exact ⟨rfl, m, rfl⟩

/-- What must be found again, in memory. -/
def fate (bf : Nat) (T S W : List (List UInt8)) (A : Bool) (sz : Int) (X : Bool) : HP := fun h => ∃ tv sv wv, (vecs tv T * vecs sv S * vecs wv W * blk bf [tv, sv, wv, .bool A, .int .i64 sz, .bool X] 137) h
section
variable {w0 w : World} {F : HP} {bf : Nat} {T S W : List (List UInt8)} {A X : Bool} {sz : Int}
theorem Sat.fate_open (hs : Sat w0 w (F * fate bf T S W A sz X)) : ∃ tv sv wv, Sat w0 w (F * vecs tv T * vecs sv S * vecs wv W * blk bf [tv, sv, wv, .bool A, .int .i64 sz, .bool X] 137) := by
  obtain ⟨x, ⟨h1, h2, ha, ⟨tv, sv, wv, hb⟩, hd, hu⟩, hx⟩ := hs.held
  refine ⟨tv, sv, wv, ?_⟩
  rw [HP.assoc, HP.assoc, HP.assoc]
  rw [HP.assoc, HP.assoc] at hb
  exact ⟨hs.below, x, ⟨h1, h2, ha, hb, hd, hu⟩, hx⟩
theorem Sat.fate_shut {tv sv wv : Value} (hs : Sat w0 w (F * vecs tv T * vecs sv S * vecs wv W * blk bf [tv, sv, wv, .bool A, .int .i64 sz, .bool X] 137)) : Sat w0 w (F * fate bf T S W A sz X) := by
  rw [HP.assoc, HP.assoc, HP.assoc] at hs
  exact hs.imp_last fun x hx => ⟨tv, sv, wv, by rw [HP.assoc, HP.assoc]; exact hx⟩
end
end Go.Proofs.YtjhlelcopofkkaaDoor
