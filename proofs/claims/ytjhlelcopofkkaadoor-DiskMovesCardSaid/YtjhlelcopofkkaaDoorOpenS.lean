/- What a reading tells of steps and texts. -/
import Derived.Test.YtjhlelcopofkkaaDoorLawC
import Derived.Test.YtjhlelcopofkkaaDoorSame
namespace Go.Proofs.YtjhlelcopofkkaaDoor
open Go.RowKit Go.ChangeShapes Go.WideShapes Go.ChangeAt Go.Deep

section
variable {H : Type} {enc : TypeId × Value → H} {P : Program} {w : World} {base : Nat} {spare : Nat → Bool} {held : Bool}
theorem trod_struct5 {t : TypeId} {f0 f1 f2 f3 f4 : Field} {fuel : Nat} {r : List Value} {x : DataW H × List MemPlace} (ht : P.underlying t = some (.struct #[f0, f1, f2, f3, f4])) (hone : oneCellFields P #[f0, f1, f2, f3, f4] = true) (hl : r.length = 5)
    (h : DataW.trod enc P w base spare held fuel t r = some x) :
    ∃ (v0 v1 v2 v3 v4 : Value) (y0 y1 y2 y3 y4 : DataW H × List MemPlace) (n : Nat), r = [v0, v1, v2, v3, v4] ∧ x.1 = .agg [y0.1, y1.1, y2.1, y3.1, y4.1] ∧
      DataW.trod enc P w base spare held n f0.type [v0] = some y0 ∧ DataW.trod enc P w base spare held n f1.type [v1] = some y1 ∧ DataW.trod enc P w base spare held n f2.type [v2] = some y2 ∧ DataW.trod enc P w base spare held n f3.type [v3] = some y3 ∧ DataW.trod enc P w base spare held n f4.type [v4] = some y4 := by
  obtain ⟨xs, n, _, rfl, _, hlen, hf⟩ := DataW.trod_struct ht h
  obtain ⟨o0, k0⟩ := hone_of hone 0 f0 rfl
  obtain ⟨o1, k1⟩ := hone_of hone 1 f1 rfl
  obtain ⟨o2, k2⟩ := hone_of hone 2 f2 rfl
  obtain ⟨o3, k3⟩ := hone_of hone 3 f3 rfl
  obtain ⟨o4, k4⟩ := hone_of hone 4 f4 rfl
  match r, hl with
  | [v0, v1, v2, v3, v4], _ =>
    match xs, hlen with
    | [y0, y1, y2, y3, y4], _ =>
      exact ⟨v0, v1, v2, v3, v4, y0, y1, y2, y3, y4, n, rfl, rfl, by simpa [o0, k0] using hf 0 f0 rfl, by simpa [o1, k1] using hf 1 f1 rfl, by simpa [o2, k2] using hf 2 f2 rfl, by simpa [o3, k3] using hf 3 f3 rfl, by simpa [o4, k4] using hf 4 f4 rfl⟩
theorem int_i64 (z : Int) (h : (Lit.int .i64 z).wf = true) : -9223372036854775808 ≤ z ∧ z ≤ 9223372036854775807 := by
  simpa [Lit.wf, IntKind.min, IntKind.max, IntKind.bits, IntKind.signed] using h
end

theorem step_cells : Tryd.prog.cellsOf 83 = 5 := by kernel_rfl
theorem step_bytes : Tryd.prog.bytesOf 83 = 48 := by kernel_rfl
theorem open_stps {H : Type} {enc : TypeId × Value → H} {w : World} {base : Nat} {spare : Nat → Bool} {held : Bool} {fuel : Nat} {cs : List Value} {d : DataW H} {p : List MemPlace}
    (h : DataW.trod enc Tryd.prog w base spare held fuel 70 cs = some (d, p)) (hw : ∀ x ∈ DataW.weights Tryd.prog 70 d, x ≤ 140737488351232) :
    ∃ (ao : Option Addr) (ss : List Stp) (c : Nat), cs = [.slice ao ss.length c] ∧ ss.length ≤ c ∧ Rd w ao (stps ss) ∧ ss.length ≤ 2932031007402 ∧ ∀ s ∈ ss, s.Ok := by
  obtain ⟨ao, rows, ds, sp, c, rfl, hlc, hno, hd, hdl, hrd, hbd, hrow⟩ := open_rows Tryd.underlying70 step_cells (by decide) h hw
  rw [step_bytes] at hbd
  have hone : ∀ i, i < rows.length → ∃ s : Stp, rows[i]? = some (stpCells s) ∧ s.Ok := by
    intro i hi
    obtain ⟨hl, di, p', f, hdi, h1, hw1⟩ := hrow i _ (List.getElem?_eq_getElem hi)
    obtain ⟨v0, v1, v2, v3, v4, y0, y1, y2, y3, y4, n, hr, hx, t0, t1, t2, t3, t4⟩ := trod_struct5 Tryd.underlying83 (by kernel_rfl) hl h1
    obtain ⟨z0, e0, _, _⟩ := DataW.trod_int Tryd.underlying3 t0
    obtain ⟨z1, e1, _, _⟩ := DataW.trod_int Tryd.underlying3 t1
    obtain ⟨z2, e2, _, w2⟩ := DataW.trod_int Tryd.underlying3 t2
    obtain ⟨z3, e3, _, w3⟩ := DataW.trod_int Tryd.underlying3 t3
    obtain ⟨s4, e4, hy4, _⟩ := DataW.trod_string Tryd.underlying9 t4
    obtain rfl := (List.cons.inj e0).1
    obtain rfl := (List.cons.inj e1).1
    obtain rfl := (List.cons.inj e2).1
    obtain rfl := (List.cons.inj e3).1
    obtain rfl := (List.cons.inj e4).1
    have hs : s4.size ≤ 140737488351232 := by
      refine hw1 _ ?_
      simp only at hx
      rw [hx, hy4]
      simp [DataW.weights, Tryd.underlying83, DataW.weightsEach]
    obtain ⟨a1, a2⟩ := int_i64 z2 w2
    obtain ⟨b1, b2⟩ := int_i64 z3 w3
    exact ⟨⟨z0, z1, z2, z3, s4⟩, by rw [List.getElem?_eq_getElem hi, hr]; rfl, ⟨a1, a2, b1, b2, hs⟩⟩
  have : Inhabited Stp := ⟨Stp.looks⟩
  obtain ⟨X, hX⟩ := Deep.choose_lt hone
  have hrows : rows = ((List.range rows.length).map X).map stpCells := by
    apply List.ext_getElem?
    intro i
    by_cases hi : i < rows.length
    · rw [(hX i hi).1]
      simp [hi]
    · rw [List.getElem?_eq_none (by omega), List.getElem?_eq_none (by simp; omega)]
  have hflat : ∀ l : List Stp, (l.map stpCells).flatten = stps l := by
    intro l
    induction l with
    | nil => rfl
    | cons b l ih =>
      simp only [List.map_cons, List.flatten_cons, ih]
      rfl
  refine ⟨ao, (List.range rows.length).map X, c, by simp, by simpa using hlc, ?_, by simp; omega, ?_⟩
  · rw [← hflat, ← hrows]
    exact hrd
  · intro s hs
    obtain ⟨i, hi, rfl⟩ := List.mem_map.1 hs
    exact (hX i (List.mem_range.1 hi)).2
end Go.Proofs.YtjhlelcopofkkaaDoor
