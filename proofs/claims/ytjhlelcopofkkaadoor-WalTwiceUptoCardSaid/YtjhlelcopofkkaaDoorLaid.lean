/- What the listed variables give a walk: the table of the sums, and the refusals, each its own pointer. -/
import Derived.Test.YtjhlelcopofkkaaDoorLaw
import Derived.Test.YtjhlelcopofkkaaDoorCrcWalk
namespace Go.Proofs.YtjhlelcopofkkaaDoor
open Go.RowKit Go.ChangeShapes Go.WideShapes Go.ChangeAt

theorem laidMet_head {P : Program} {x : String × DataW Unit} {r : List (String × DataW Unit)} {w : World} (h : laidMet P (x :: r) w) : laidMet P [x] w := by
  obtain ⟨ps, hv, hnd, hrows⟩ := h
  obtain ⟨n, d⟩ := x
  obtain ⟨g, t, cs, fuel, p, q, h1, h2, h3, h4, hq, rfl⟩ := hv
  refine ⟨MemPlace.row ⟨g, 0, none⟩ cs.size ++ p ++ [], ⟨g, t, cs, fuel, p, [], h1, h2, h3, h4, rfl, rfl⟩, ?_, fun b off hm => hrows b off ?_⟩
  · rw [List.append_nil]
    exact List.Nodup.sublist (List.sublist_append_left _ _) hnd
  · rw [List.append_nil] at hm
    exact List.mem_append_left _ hm
theorem laidMet_one {P : Program} {w : World} : ∀ {l : List (String × DataW Unit)} {x : String × DataW Unit}, laidMet P l w → x ∈ l → laidMet P [x] w
  | y :: l, x, h, hx => by
    rcases List.mem_cons.1 hx with rfl | hx
    · exact laidMet_head h
    · exact laidMet_one h.tail hx

/-! The table. -/
theorem crc_type : (Tryd.prog.globals[13]?).map (·.type) = some 202 := by kernel_rfl
theorem crc_cells : Tryd.prog.cellsOf 202 = 16 := by kernel_rfl
theorem u32_cells : Tryd.prog.cellsOf 55 = 1 := by kernel_rfl
theorem crc_global : Tryd.prog.globalNamed "usher/sums.crcRows" = some 13 := by kernel_rfl
def crcZs : List Int := [0, 498536548, 997073096, 651767980, 1994146192, 1802195444, 1303535960, 1342533948, 3988292384, 4027552580, 3604390888, 3412177804, 2607071920, 2262029012, 2685067896, 3183342108]
theorem crcZs_ok : ∀ i : Fin 16, crcZs.getD i.val 0 = ru32 (crcTab i.val) := by decide +kernel
theorem crcTab_of {W : World} {l : List (String × DataW Unit)} (h : laidMet Tryd.prog l W) (hx : ("usher/sums.crcRows", Lib.tabData .u32 crcZs) ∈ l) : CrcTab W := by
  have h1 := Lib.tabIs_of_head (rest := []) crc_global crc_type Tryd.underlying202 Tryd.underlying55 u32_cells crc_cells (laidMet_one h hx)
  intro i hi
  rw [h1.cell crc_global i (by exact hi)]
  exact congrArg (fun z => some (Value.int .u32 z)) (crcZs_ok ⟨i, hi⟩)

/-! The refusals. -/
def errName : Nat → String
  | 1 => "usher/api.ErrArg" | 2 => "usher/api.ErrText" | 3 => "usher/api.ErrMany" | 4 => "usher/api.ErrTwice" | 5 => "usher/api.ErrScheme" | 6 => "usher/api.ErrShort" | 7 => "usher/api.ErrDry"
  | 8 => "usher/api.ErrTaken" | 9 => "usher/api.ErrFull" | 10 => "usher/api.ErrDead" | 11 => "usher/api.ErrLog" | 12 => "usher/api.ErrLost" | _ => "usher/api.ErrDenied"
def errText : Nat → List UInt8
  | 1 => [97, 114, 103, 117, 109, 101, 110, 116] | 2 => [116, 101, 120, 116] | 3 => [109, 97, 110, 121] | 4 => [116, 119, 105, 99, 101] | 5 => [115, 99, 104, 101, 109, 101] | 6 => [115, 104, 111, 114, 116] | 7 => [100, 114, 121]
  | 8 => [116, 97, 107, 101, 110] | 9 => [102, 117, 108, 108] | 10 => [100, 101, 97, 100] | 11 => [108, 111, 103] | 12 => [108, 111, 115, 116] | _ => [100, 101, 110, 105, 101, 100]
theorem errText_inj : ∀ j k : Fin 14, 1 ≤ j.val → 1 ≤ k.val → errText j.val = errText k.val → j = k := by decide +kernel
theorem err_global : ∀ k : Fin 14, 1 ≤ k.val → Tryd.prog.globalNamed (errName k.val) = some (gErr k.val) ∧ (Tryd.prog.globals[gErr k.val]?).map (·.type) = some 25 := by
  intro k hk
  obtain ⟨k, hlt⟩ := k
  obtain rfl | rfl | rfl | rfl | rfl | rfl | rfl | rfl | rfl | rfl | rfl | rfl | rfl : k = 1 ∨ k = 2 ∨ k = 3 ∨ k = 4 ∨ k = 5 ∨ k = 6 ∨ k = 7 ∨ k = 8 ∨ k = 9 ∨ k = 10 ∨ k = 11 ∨ k = 12 ∨ k = 13 := by
    simp only at hk
    omega
  all_goals exact ⟨by kernel_rfl, by kernel_rfl⟩
def errData (k : Nat) : DataW Unit := .iface "*errors.errorString" (.ptr (.agg [.lit (.string (errText k))]))
theorem es_cells : Tryd.prog.cellsOf 219 = 1 := by kernel_rfl
theorem str_cells : Tryd.prog.cellsOf 9 = 1 := by kernel_rfl
theorem es_star : "*" ++ "errors.errorString" = "*errors.errorString" := by decide
theorem es_row : ∀ u, Tryd.prog.typeName? 3 u = some "*errors.errorString" → u = 203 := fun u h =>
  typeName_ptr_named (nm := "errors.errorString") (by rw [es_star]; kernel_rfl) (by kernel_rfl) (by decide) u (by rw [es_star]; exact h)
/-- One refusal: where it lies, what it reads. -/
structure ErrSeen (W : World) (k : Nat) (a : Addr) : Prop where
  cell : W.cell? ⟨gErr k, 0, none⟩ = some (.iface 203 (.pointer (some a)))
  row : ∃ ca ta, W.heap[a.block]? = some (.cells ca ta (0, 0))
  text : ∃ s : ByteArray, W.cell? a = some (.string s) ∧ s.data.toList = errText k
set_option maxRecDepth 100000 in
theorem err_seen {W : World} {l : List (String × DataW Unit)} (h : laidMet Tryd.prog l W) (k : Nat) (hk1 : 1 ≤ k) (hk2 : k ≤ 13) (hx : (errName k, errData k) ∈ l) : ∃ a, ErrSeen W k a := by
  obtain ⟨hg, ht⟩ := err_global ⟨k, by omega⟩ hk1
  obtain ⟨ps, ⟨g0, t0, cs0, f0, p0, q0, hg0, ht0, hv0, hd0, hq, e0⟩, _, hrows⟩ := laidMet_one h hx
  obtain rfl := Option.some.inj (hg.symm.trans hg0)
  obtain rfl := Option.some.inj (ht.symm.trans ht0)
  subst e0
  have hcell : ∀ j, W.cell? ⟨gErr k, j, none⟩ = cs0[j]? := fun j => World.var?_cell hg0 hv0 j
  obtain ⟨l0⟩ := cs0
  have ok0 : ∀ u v, l0 = [.iface u v] → Value.okWide Tryd.prog W .any 0 u v := fun u v e => by
    subst e
    exact (hrows (gErr k) 0 (by simp [MemPlace.row])).2 u v (by rw [hcell]; rfl)
  obtain ⟨a0, s0, rfl, hc0, hs0, _, rfl⟩ := errorString_of_trod Tryd.underlying25 es_row Tryd.underlying203 Tryd.underlying219 rfl rfl Tryd.underlying9 es_cells str_cells hd0 ok0
  refine ⟨a0, ⟨by rw [hcell]; rfl, ?_, s0, hc0, hs0⟩⟩
  exact (hrows a0.block a0.off (by simp [MemPlace.row])).1
theorem errs_of {W : World} {l : List (String × DataW Unit)} (h : laidMet Tryd.prog l W) (hx : ∀ k, 1 ≤ k → k ≤ 13 → (errName k, errData k) ∈ l) : ∃ E, Errs W E := by
  have : Inhabited Addr := ⟨⟨0, 0, none⟩⟩
  obtain ⟨E, hE⟩ := Deep.choose_lt (n := 14) (p := fun k a => 1 ≤ k → ErrSeen W k a) (fun k hk => by
    by_cases h1 : 1 ≤ k
    · obtain ⟨a, ha⟩ := err_seen h k h1 (by omega) (hx k h1 (by omega))
      exact ⟨a, fun _ => ha⟩
    · exact ⟨default, fun e => absurd e h1⟩)
  refine ⟨E, ⟨fun k h1 h2 => (hE k (by omega) h1).cell, fun k h1 h2 => (hE k (by omega) h1).row, fun j k h1 h2 h3 h4 e => ?_⟩⟩
  obtain ⟨s, hs, ht⟩ := (hE j (by omega) h1).text
  obtain ⟨s', hs', ht'⟩ := (hE k (by omega) h3).text
  rw [e, hs'] at hs
  cases hs
  have := errText_inj ⟨j, by omega⟩ ⟨k, by omega⟩ h1 h3 (ht.symm.trans ht')
  exact congrArg Fin.val this
end Go.Proofs.YtjhlelcopofkkaaDoor
