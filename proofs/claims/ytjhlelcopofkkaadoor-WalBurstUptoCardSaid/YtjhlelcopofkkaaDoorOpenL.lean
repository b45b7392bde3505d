/- What a reading tells of a list of lists of bytes. -/
import Derived.Test.YtjhlelcopofkkaaDoorLawC
import Derived.Test.YtjhlelcopofkkaaDoorLst
namespace Go.Proofs.YtjhlelcopofkkaaDoor
open Go.RowKit Go.ChangeShapes Go.WideShapes Go.ChangeAt

theorem flatten_one : ∀ {rows : List (List Value)}, (∀ r ∈ rows, r.length = 1) → rows.flatten.length = rows.length ∧ ∀ (k : Nat) (v : Value), rows[k]? = some [v] → rows.flatten[k]? = some v
  | [], _ => ⟨rfl, fun k v h => by simp at h⟩
  | r :: rows, hr => by
    obtain ⟨h1, h2⟩ := flatten_one (rows := rows) (fun x hx => hr x (List.mem_cons_of_mem _ hx))
    have hl := hr r (List.mem_cons_self ..)
    rw [List.flatten_cons]
    refine ⟨by rw [List.length_append, hl, h1, List.length_cons]; omega, fun k v h => ?_⟩
    cases k with
    | zero =>
      simp only [List.getElem?_cons_zero, Option.some.injEq] at h
      subst h
      rfl
    | succ k =>
      rw [List.getElem?_append_right (by omega), hl]
      exact h2 k v (by simpa using h)
theorem bulk_size {H : Type} : ∀ {ps : List (List UInt8)} {ds : List (DataW H)}, ds.length = ps.length → (∀ (i : Nat) (p : List UInt8) (d : DataW H), ps[i]? = some p → ds[i]? = some d → p.length + 1 ≤ Rows.uptoBulk d) → size ps ≤ 8 * Rows.uptoBulkAll ds
  | [], _, _, _ => by simp [size]
  | p :: ps, [], h, _ => by simp at h
  | p :: ps, d :: ds, h, hb => by
    have h0 := hb 0 p d rfl rfl
    have h1 := bulk_size (ps := ps) (ds := ds) (by simpa using h) (fun i q e h1 h2 => hb (i + 1) q e (by simpa using h1) (by simpa using h2))
    simp only [size, Rows.uptoBulkAll]
    omega
theorem bulk_bytes {H : Type} {d : DataW H} {ds sp : List (DataW H)} {n : Nat} (hd : d = .nil ∧ ds = [] ∨ d = .slice ds sp) (hl : ds.length = n) : n + 1 ≤ Rows.uptoBulk d := by
  rcases hd with ⟨e1, e2⟩ | e
  · subst e1; subst e2
    simp at hl
    subst hl
    exact bulk_pos _
  · have := bulk_slice ds sp
    rw [← e] at this
    omega
theorem open_lists {H : Type} {enc : TypeId × Value → H} {P : Program} {w : World} {base : Nat} {spare : Nat → Bool} {held : Bool} {t e u : TypeId} {fuel : Nat} {cs : List Value} {d : DataW H} {p : List MemPlace}
    (ht : P.underlying t = some (.slice e)) (he : P.underlying e = some (.slice u)) (hu : P.underlying u = some (.int .u8)) (hce : P.cellsOf e = 1) (hcu : P.cellsOf u = 1) (hbu : P.bytesOf u = 1)
    (h : DataW.trod enc P w base spare held fuel t cs = some (d, p)) (hw : ∀ x ∈ DataW.weights P t d, x ≤ 140737488351232) :
    ∃ (ao : Option Addr) (ps : List (List UInt8)) (c : Nat), cs = [.slice ao ps.length c] ∧ ps.length ≤ c ∧ (ao = none → ps.length = 0 ∧ c = 0) ∧ RdL w ao ps ∧ size ps + 1 ≤ 8 * Rows.uptoBulk d := by
  obtain ⟨ao, rows, ds, sp, c, rfl, hlc, hno, hd, hdl, hrd, _, hrow⟩ := open_rows ht hce (by omega) h hw
  have hone : ∀ i, i < rows.length → ∃ xs : List UInt8, (∃ (bo : Option Addr) (c' : Nat), rows[i]? = some [Value.slice bo xs.length c'] ∧ xs.length ≤ c' ∧ Rd w bo (bvs xs) ∧ (bo = none → xs.length = 0 ∧ c' = 0)) ∧ ∃ di, ds[i]? = some di ∧ xs.length + 1 ≤ Rows.uptoBulk di := by
    intro i hi
    obtain ⟨hl, di, p', f, hdi, h1, hw1⟩ := hrow i _ (List.getElem?_eq_getElem hi)
    obtain ⟨bo, xs, ds', sp', c', hcs, hrd', _, hlc', hno', hd', hdl'⟩ := open_bytes he hu hcu hbu h1 hw1
    exact ⟨xs, ⟨bo, c', by rw [List.getElem?_eq_getElem hi, hcs], hlc', hrd', fun e => by obtain ⟨e1, e2⟩ := hno' e; exact ⟨by rw [e1]; rfl, e2⟩⟩, di, hdi, bulk_bytes hd' hdl'⟩
  obtain ⟨X, hX⟩ := Deep.choose_lt hone
  have hf := flatten_one (rows := rows) (fun r hr => by
    obtain ⟨i, hi, rfl⟩ := List.getElem_of_mem hr
    exact (hrow i _ (List.getElem?_eq_getElem hi)).1)
  refine ⟨ao, (List.range rows.length).map X, c, by simp, by simpa using hlc, fun h => by obtain ⟨e1, e2⟩ := hno h; exact ⟨by rw [e1]; rfl, e2⟩, ⟨rows.flatten, hrd, by rw [hf.1]; simp, ?_⟩, ?_⟩
  · intro k q hq
    simp only [List.getElem?_map, Option.map_eq_some_iff] at hq
    obtain ⟨j, hj, rfl⟩ := hq
    have hjl := (List.getElem?_eq_some_iff.1 hj).1
    simp at hjl
    rw [List.getElem?_range hjl] at hj
    cases hj
    obtain ⟨⟨bo, c', h1, h2, h3, h4⟩, _⟩ := hX k hjl
    exact ⟨bo, c', hf.2 k _ h1, h2, h3, h4⟩
  · have hs : size ((List.range rows.length).map X) ≤ 8 * Rows.uptoBulkAll ds := bulk_size (by simpa using hdl) (fun i q e h1 h2 => by
      simp only [List.getElem?_map, Option.map_eq_some_iff] at h1
      obtain ⟨j, hj, rfl⟩ := h1
      have hjl := (List.getElem?_eq_some_iff.1 hj).1
      simp at hjl
      rw [List.getElem?_range hjl] at hj
      cases hj
      obtain ⟨_, di, h3, h4⟩ := hX i hjl
      rw [h3] at h2
      cases h2
      exact h4)
    rcases hd with ⟨e1, e2⟩ | e
    · subst e2
      have := bulk_pos d
      simp only [Rows.uptoBulkAll] at hs
      omega
    · have := (bulk_slice ds sp).2
      rw [← e] at this
      omega
end Go.Proofs.YtjhlelcopofkkaaDoor
