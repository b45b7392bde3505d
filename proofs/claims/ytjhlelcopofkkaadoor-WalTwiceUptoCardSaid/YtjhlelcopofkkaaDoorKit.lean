/- The plain functions of usherkit and usherref0: copies of bytes, comparing bytes. -/
import Derived.Test.YtjhlelcopofkkaaDoorProg
import Derived.Test.YtjhlelcopofkkaaDoorSl
import Derived.BigQuiet
import Derived.Deep.QuietTactic
import Derived.KernelRfl
import Derived.LaidEql
namespace Go.Proofs.YtjhlelcopofkkaaDoor
open Go.RowKit

/-- A byte as a value. -/
def bv (b : UInt8) : Value := .int .u8 (b.toNat : Int)
def bvs (xs : List UInt8) : List Value := xs.map bv
theorem bvs_length (xs : List UInt8) : (bvs xs).length = xs.length := by simp [bvs]
theorem bvs_append (xs ys : List UInt8) : bvs (xs ++ ys) = bvs xs ++ bvs ys := by simp [bvs]
theorem bvs_get {xs : List UInt8} {k : Nat} (h : k < xs.length) : (bvs xs)[k]? = some (bv xs[k]) := by simp [bvs, h]
theorem info_u8 : (Tryd.prog.info? 5).map (fun i => (i.zero, i.size, i.bytes)) = some (some (.int .u8 0), 1, 1) := by kernel_rfl
theorem size_u8 : (Tryd.prog.info? 5).map (·.size) = some 1 := by kernel_rfl
theorem bvs_one (xs : List UInt8) : ∀ v ∈ bvs xs, v.oneCell' = true := by
  intro v hv
  obtain ⟨b, _, rfl⟩ := List.mem_map.1 hv
  rfl
theorem take_snoc {α : Type} (l : List α) (k : Nat) (h : k < l.length) : l.take (k + 1) = l.take k ++ [l[k]] := List.take_succ_eq_append_getElem h

set_option maxHeartbeats 1600000 in
theorem kit_copy {w : World} (xs : List UInt8) (ao : Option Addr) (c : Nat) (hr : Rd w ao (bvs xs)) (hn : xs.length ≤ 140737488351232) :
    Calls Tryd.prog 22 #[.slice ao xs.length c] w (Ret fun v w' => Sat w w' (vec 5 1 v xs.length (bvs xs))) := by
  go_enter Tryd.func22, Tryd.ntmps22
  go_wp2
  go_loopw [3, 4] (fun l i wr => ∃ k : Nat, k ≤ xs.length ∧ i = .int .i64 k ∧ Sat w wr (1 * vec 5 1 l k (bvs (xs.take k)))) (fun _ i _ => xs.length - (intOf i).toNat)
  case atStart => exact ⟨0, by omega, rfl, (Sat.refl w).vec_nil _ _⟩
  case round =>
    obtain ⟨k, hk, rfl, hS⟩ := hrel
    by_cases hlt : k < xs.length
    · obtain ⟨b, of, rfl, hcells⟩ := (hr.mono hS.below).addr (by intro e; have := bvs_length xs; rw [e] at this; simp at this; omega)
      have hcell : wr.cell? ⟨b, of + k, none⟩ = some (.int .u8 (xs[k].toNat : Int)) := hcells k _ (bvs_get hlt)
      go_wp2_with (at_builtin; refine sl_append rfl _ _ 22 rfl 5 (.int .u8 0) 1 1 Tryd.underlying22 info_u8 rfl (by decide) _ k _ rfl (by exact hS.skip) _ 1 _ [bv xs[k]] rfl rfl (by exact Rd.made _ _ _ _) (by intro u hu; simp at hu; subst hu; rfl) (by simp only [maxLen]; omega) (by omega) ?_; intro v' w' hS')
      refine ⟨⟨k + 1, by omega, rfl, ?_⟩, by simp [intOf]; omega⟩
      rw [take_snoc xs k hlt, bvs_append]
      exact hS'
    · obtain rfl : k = xs.length := by omega
      go_wp2
      go_ret
      rw [HP.one_mul, List.take_length] at hS
      exact Ret.mk hS

set_option maxHeartbeats 1600000 in
theorem kit_bytes {w : World} (s : ByteArray) (hn : s.size ≤ 140737488351232) :
    Calls Tryd.prog 41 #[.string s] w (Ret fun v w' => Sat w w' (vec 5 1 v s.size (bvs s.data.toList))) := by
  go_enter Tryd.func41, Tryd.ntmps41
  have hsz : s.data.toList.length = s.size := rfl
  go_wp2
  go_loopw [3, 4] (fun l i wr => ∃ k : Nat, k ≤ s.size ∧ i = .int .i64 k ∧ Sat w wr (1 * vec 5 1 l k (bvs (s.data.toList.take k)))) (fun _ i _ => s.size - (intOf i).toNat)
  case atStart => exact ⟨0, by omega, rfl, (Sat.refl w).vec_nil _ _⟩
  case round =>
    obtain ⟨k, hk, rfl, hS⟩ := hrel
    by_cases hlt : k < s.size
    · go_wp2_with (at_builtin; refine sl_append rfl _ _ 22 rfl 5 (.int .u8 0) 1 1 Tryd.underlying22 info_u8 rfl (by decide) _ k _ rfl (by exact hS.skip) _ 1 _ [bv s.data.toList[k]] rfl rfl (by exact Rd.made _ _ _ _) (by intro u hu; simp at hu; subst hu; rfl) (by simp only [maxLen]; omega) (by omega) ?_; intro v' w' hS')
      refine ⟨⟨k + 1, by omega, rfl, ?_⟩, by simp [intOf]; omega⟩
      rw [take_snoc s.data.toList k hlt, bvs_append]
      exact hS'
    · obtain rfl : k = s.size := by omega
      go_wp2
      go_ret
      rw [HP.one_mul, ← hsz, List.take_length] at hS
      exact Ret.mk hS

theorem take_ne {α : Type} [DecidableEq α] {xs ys : List α} {k : Nat} (hk : k < xs.length) (hk' : k < ys.length) (h : xs[k] ≠ ys[k]) : xs ≠ ys := by
  intro e; subst e; exact h rfl
theorem ret_bool {b c : Bool} (h : b = c) : Value.bool b = Value.bool c := by rw [h]
theorem ret_int {k : IntKind} {b c : Int} (h : b = c) : Value.int k b = Value.int k c := by rw [h]
theorem u8_ne {a b : UInt8} (h : ¬ (a.toNat : Int) = (b.toNat : Int)) : a ≠ b := by
  intro e; subst e; exact h rfl
theorem u8_eq {a b : UInt8} (h : (a.toNat : Int) = (b.toNat : Int)) : a = b := UInt8.toNat_inj.1 (by omega)
set_option maxHeartbeats 1600000 in
/-- SameBytes tells whether the bytes are the same. -/
theorem ref0_sameBytes {w : World} (xs ys : List UInt8) (ao bo : Option Addr) (c d : Nat) (hr : Rd w ao (bvs xs)) (hq : Rd w bo (bvs ys)) (hn : xs.length ≤ 140737488351232) :
    Calls Tryd.prog 25 #[.slice ao xs.length c, .slice bo ys.length d] w (Drew (.bool (decide (xs = ys))) w) := by
  go_enter Tryd.func25, Tryd.ntmps25
  by_cases hlen : xs.length = ys.length
  · have hl2 : ((xs.length : Int) != (ys.length : Int)) = false := by simp [hlen]
    have HL := Hid.mk' hlen
    clear hlen
    go_wp2
    go_loopw [5] (fun i wr => ∃ k : Nat, k ≤ xs.length ∧ i = .int .i64 k ∧ xs.take k = ys.take k ∧ ∃ m, wr = w.drewN m) (fun i _ => xs.length - (intOf i).toNat)
    case atStart => exact ⟨0, by omega, rfl, rfl, 0, rfl⟩
    case round =>
      obtain ⟨k, hk, rfl, heq, m, rfl⟩ := hrel
      have HE := Hid.mk' heq
      clear heq
      by_cases hlt : k < xs.length
      · have hlt' : k < ys.length := by have := HL.out; omega
        obtain ⟨b, of, rfl, hcells⟩ := hr.addr (by intro e; have := bvs_length xs; rw [e] at this; simp at this; omega)
        obtain ⟨b2, of2, rfl, hcells2⟩ := hq.addr (by intro e; have := bvs_length ys; rw [e] at this; simp at this; omega)
        have hcell : w.cell? ⟨b, of + k, none⟩ = some (.int .u8 (xs[k].toNat : Int)) := hcells k _ (bvs_get hlt)
        have hcell2 : w.cell? ⟨b2, of2 + k, none⟩ = some (.int .u8 (ys[k].toNat : Int)) := hcells2 k _ (bvs_get hlt')
        by_cases hx : xs[k] = ys[k]
        · have hb : ((xs[k].toNat : Int) != (ys[k].toNat : Int)) = false := by rw [hx]; simp
          have HX := Hid.mk' hx
          clear hx
          go_wp2
          go_quiet (fail)
          go_wp2
          refine ⟨⟨k + 1, by omega, rfl, ?_, _, rfl⟩, by simp [intOf]; omega⟩
          rw [take_snoc xs k hlt, take_snoc ys k hlt', HE.out, HX.out]
        · have hb : ((xs[k].toNat : Int) != (ys[k].toNat : Int)) = true := by
            rw [bne_iff_ne]; intro e; exact hx (u8_eq e)
          have HX := Hid.mk' hx
          clear hx
          go_wp2
          go_quiet (fail)
          go_wp2
          go_ret
          exact ⟨congrArg _ (ret_bool (decide_eq_false (take_ne hlt hlt' HX.out)).symm), _, World.drewN_drewN _ _ _⟩
      · obtain rfl : k = xs.length := by omega
        go_wp2
        go_ret
        refine ⟨?_, _, rfl⟩
        have h := HE.out
        rw [List.take_length, HL.out, List.take_length] at h
        exact congrArg _ (ret_bool (decide_eq_true h).symm)
  · have hl2 : ((xs.length : Int) != (ys.length : Int)) = true := by rw [bne_iff_ne]; omega
    go_wp2
    go_ret
    exact ⟨congrArg _ (ret_bool (decide_eq_false (fun e => hlen (congrArg _ e))).symm), 0, rfl⟩

/-! Refusals: a package-level variable each, each its own pointer. -/
/-- The number of the variable of a refusal. -/
def gErr : Nat → Nat
  | 1 => 2 | 2 => 3 | 3 => 4 | 4 => 0 | 5 => 5
  | 6 => 6 | 7 => 7 | 8 => 10 | 9 => 1 | 10 => 9
  | 11 => 11 | 12 => 8 | _ => 12
/-- The refusal of a number, as a value. -/
def errv (E : Nat → Addr) : Nat → Value
  | 0 => .nilIface
  | k + 1 => .iface 203 (.pointer (some (E (k + 1))))
structure Errs (w : World) (E : Nat → Addr) : Prop where
  cell : ∀ k, 1 ≤ k → k ≤ 13 → w.cell? ⟨gErr k, 0, none⟩ = some (.iface 203 (.pointer (some (E k))))
  row : ∀ k, 1 ≤ k → k ≤ 13 → ∃ ca ta, w.heap[(E k).block]? = some (.cells ca ta (0, 0))
  inj : ∀ j k, 1 ≤ j → j ≤ 13 → 1 ≤ k → k ≤ 13 → E j = E k → j = k
theorem Errs.mono {w w' : World} {E : Nat → Addr} (h : Errs w E) (hb : Below w.heap.size w w') : Errs w' E :=
  ⟨fun k h1 h2 => (hb.cell (World.block_lt_of_cell? w _ (h.cell k h1 h2))).trans (h.cell k h1 h2),
   fun k h1 h2 => let ⟨ca, ta, e⟩ := h.row k h1 h2; ⟨ca, ta, (hb.block _ (Array.getElem?_eq_some_iff.1 e).1).trans e⟩, h.inj⟩
theorem Errs.of0 {w0 w : World} {E : Nat → Addr} {A : HP} (h : Errs w0 E) (hs : Sat w0 w A) : Errs w E := by
  exact h.mono hs.below
theorem info_es : (Tryd.prog.info? 219).map (fun i => i.size) = some 1 := by kernel_rfl
theorem comp_es : (Tryd.prog.info? 203).map (fun i => i.comparable) = some true := by kernel_rfl
theorem Errs.eql {w : World} {E : Nat → Addr} (h : Errs w E) (j k : Nat) (hj : 1 ≤ j) (hj' : j ≤ 13) (hk : 1 ≤ k) (hk' : k ≤ 13) :
    (binOp .eql 25 (.iface 203 (.pointer (some (E j)))) (.iface 203 (.pointer (some (E k))))).run Tryd.prog w = .ok (.bool (decide (j = k))) w := by
  obtain ⟨i, hi, hcmp⟩ := Option.map_eq_some_iff.1 comp_es
  obtain ⟨i2, hi2, hsz⟩ := Option.map_eq_some_iff.1 info_es
  by_cases e : j = k
  · subst e
    rw [run_eql_iface_ptr_same w (E j) Tryd.underlying25 Tryd.underlying203 hi hcmp hi2, decide_eq_true rfl]
  · obtain ⟨ca, ta, r1⟩ := h.row j hj hj'
    obtain ⟨cb, tb, r2⟩ := h.row k hk hk'
    rw [run_eql_iface_ptr_other w Tryd.underlying25 Tryd.underlying203 hi hcmp hi2 (by omega) (fun e' => e (h.inj j k hj hj' hk hk' e')) r1 r2, decide_eq_false e]


set_option maxHeartbeats 3200000 in
/-- The numbers of the refusals from 8 on. -/
theorem kit_more {w : World} {E : Nat → Addr} (hE : Errs w E) (k : Nat) (hk : 8 ≤ k) (hk' : k ≤ 13) :
    Calls Tryd.prog 92 #[.iface 203 (.pointer (some (E k)))] w (Same (.int .i64 k) w) := by
  have c8 := hE.cell 8 (by omega) (by omega)
  have c9 := hE.cell 9 (by omega) (by omega)
  have c10 := hE.cell 10 (by omega) (by omega)
  have c11 := hE.cell 11 (by omega) (by omega)
  have c12 := hE.cell 12 (by omega) (by omega)
  have c13 := hE.cell 13 (by omega) (by omega)
  have e8 := hE.eql k 8 (by omega) (by omega) (by omega) (by omega)
  have e9 := hE.eql k 9 (by omega) (by omega) (by omega) (by omega)
  have e10 := hE.eql k 10 (by omega) (by omega) (by omega) (by omega)
  have e11 := hE.eql k 11 (by omega) (by omega) (by omega) (by omega)
  have e12 := hE.eql k 12 (by omega) (by omega) (by omega) (by omega)
  have e13 := hE.eql k 13 (by omega) (by omega) (by omega) (by omega)
  simp only [gErr] at c8 c9 c10 c11 c12 c13
  obtain rfl | rfl | rfl | rfl | rfl | rfl : k = 8 ∨ k = 9 ∨ k = 10 ∨ k = 11 ∨ k = 12 ∨ k = 13 := by omega
  all_goals
    simp only [Nat.reduceEqDiff, decide_true, decide_false] at e8 e9 e10 e11 e12 e13
    go_enter Tryd.func92, Tryd.ntmps92
    go_wp2
    go_ret
    exact ⟨rfl, rfl⟩

set_option maxHeartbeats 6400000 in
theorem kit_num_low {w : World} {E : Nat → Addr} (hE : Errs w E) (k : Nat) (hk1 : 1 ≤ k) (hk : k ≤ 13) :
    Calls Tryd.prog 26 #[.iface 203 (.pointer (some (E k)))] w (Same (.int .i64 k) w) := by
  have c1 := hE.cell 1 (by omega) (by omega)
  have c2 := hE.cell 2 (by omega) (by omega)
  have c3 := hE.cell 3 (by omega) (by omega)
  have c4 := hE.cell 4 (by omega) (by omega)
  have c5 := hE.cell 5 (by omega) (by omega)
  have c6 := hE.cell 6 (by omega) (by omega)
  have c7 := hE.cell 7 (by omega) (by omega)
  have e1 := hE.eql k 1 (by omega) (by omega) (by omega) (by omega)
  have e2 := hE.eql k 2 (by omega) (by omega) (by omega) (by omega)
  have e3 := hE.eql k 3 (by omega) (by omega) (by omega) (by omega)
  have e4 := hE.eql k 4 (by omega) (by omega) (by omega) (by omega)
  have e5 := hE.eql k 5 (by omega) (by omega) (by omega) (by omega)
  have e6 := hE.eql k 6 (by omega) (by omega) (by omega) (by omega)
  have e7 := hE.eql k 7 (by omega) (by omega) (by omega) (by omega)
  simp only [gErr] at c1 c2 c3 c4 c5 c6 c7
  by_cases h8 : 8 ≤ k
  · rw [decide_eq_false (by omega)] at e1 e2 e3 e4 e5 e6 e7
    go_enter Tryd.func26, Tryd.ntmps26
    go_wp2_with (go_at_call 92; refine (kit_more hE k h8 hk).mono ?_; rintro e w' ⟨rfl, rfl⟩)
    go_ret
    exact ⟨rfl, rfl⟩
  · obtain rfl | rfl | rfl | rfl | rfl | rfl | rfl : k = 1 ∨ k = 2 ∨ k = 3 ∨ k = 4 ∨ k = 5 ∨ k = 6 ∨ k = 7 := by omega
    all_goals
      simp only [Nat.reduceEqDiff, decide_true, decide_false] at e1 e2 e3 e4 e5 e6 e7
      go_enter Tryd.func26, Tryd.ntmps26
      go_wp2_with fail
      go_ret
      exact ⟨rfl, rfl⟩
theorem kit_num {w : World} {E : Nat → Addr} (hE : Errs w E) (k : Nat) (hk : k ≤ 13) :
    Calls Tryd.prog 26 #[errv E k] w (Same (.int .i64 k) w) := by
  cases k with
  | zero =>
    show Calls Tryd.prog 26 #[.nilIface] w _
    go_enter Tryd.func26, Tryd.ntmps26
    go_wp2_with fail
    go_ret
    exact ⟨rfl, rfl⟩
  | succ k => exact kit_num_low hE (k + 1) (by omega) hk

/-- A number from 0 to n - 1 out of any. -/
def pick (k n : Int) : Int := if n < 1 then 0 else k % n
theorem tmod_emod (k n : Int) (hn : 1 ≤ n) : (if k.tmod n < 0 then k.tmod n + n else k.tmod n) = k % n := by
  have h1 := Int.emod_nonneg k (show n ≠ 0 by omega)
  have h2 := Int.emod_lt_of_pos k (show 0 < n by omega)
  have h3 := Int.tmod_eq_emod (a := k) (b := n)
  have h4 : n.natAbs = n := by omega
  by_cases c : 0 ≤ k ∨ n ∣ k
  · rw [h3, if_pos c]
    split <;> omega
  · rw [h3, if_neg c, h4]
    have : k % n ≠ 0 := fun e => c (Or.inr (Int.dvd_of_emod_eq_zero e))
    split <;> omega
theorem tmod_bounds (k n : Int) (hn : 1 ≤ n) : -n < k.tmod n ∧ k.tmod n < n := by
  have h1 := Int.emod_nonneg k (show n ≠ 0 by omega)
  have h2 := Int.emod_lt_of_pos k (show 0 < n by omega)
  have h := tmod_emod k n hn
  have h3 := Int.tmod_lt_of_pos k (show 0 < n by omega)
  have h5 : k % n = 0 → k.tmod n = 0 := fun e => Int.tmod_eq_zero_of_dvd (Int.dvd_of_emod_eq_zero e)
  split at h <;> omega
theorem pick_nonneg (k n : Int) : 0 ≤ pick k n := by
  unfold pick; split
  · omega
  · exact Int.emod_nonneg _ (by omega)
theorem pick_lt (k n : Int) (h : 1 ≤ n) : pick k n < n := by
  unfold pick; rw [if_neg (by omega)]
  exact Int.emod_lt_of_pos _ (by omega)
set_option maxHeartbeats 1600000 in
theorem kit_pick {w : World} (k n : Int) (hn : -9223372036854775808 ≤ n) (hn' : n ≤ 9223372036854775807) :
    Calls Tryd.prog 29 #[.int .i64 k, .int .i64 n] w (Same (.int .i64 (pick k n)) w) := by
  by_cases h1 : n < 1
  · go_enter Tryd.func29, Tryd.ntmps29
    go_wp2
    go_ret
    exact ⟨congrArg _ (ret_int (by simp [pick, h1])), rfl⟩
  · have hf : pick k n = if k.tmod n < 0 then k.tmod n + n else k.tmod n := by unfold pick; rw [if_neg h1, tmod_emod k n (by omega)]
    have hm := tmod_bounds k n (by omega)
    obtain ⟨hm1, hm2⟩ := hm
    by_cases hneg : k.tmod n < 0
    · rw [if_pos hneg] at hf
      have HF := Hid.mk' hf
      clear hf
      go_enter Tryd.func29, Tryd.ntmps29
      go_wp2
      go_ret
      exact ⟨congrArg _ (ret_int HF.out.symm), rfl⟩
    · rw [if_neg hneg] at hf
      have HF := Hid.mk' hf
      clear hf
      go_enter Tryd.func29, Tryd.ntmps29
      go_wp2
      go_ret
      exact ⟨congrArg _ (ret_int HF.out.symm), rfl⟩
end Go.Proofs.YtjhlelcopofkkaaDoor
