/- What every law of one parameter shares: its row's post, its witness, and what a reading tells of slices. -/
import Derived.Test.YtjhlelcopofkkaaDoorKit
import Derived.Deep.DeepHandedRow
import Derived.Deep.Slices
import Derived.Stop.LaidErr
import Derived.Lib.LaidTab
import Derived.LaidMore
import Derived.Carry
import Derived.OpenShut
namespace Go.Proofs.YtjhlelcopofkkaaDoor
open Go.RowKit Go.ChangeShapes Go.WideShapes Go.ChangeAt

/-- THE POST OF A LAW: old blocks are as they were, the answer is 'true'. -/
theorem law_post {H : Type} {enc : TypeId × Value → H} {P : Program} {f : Func} {s : ChangeSpec} {W W' : World} {v0 : Value} {t tb : TypeId} {d : DataW H} {p : List MemPlace}
    (hl : laidOutB P = true) (hr : P.readableRec t = true) (hrow : t < P.types.size) (hp : f.params = #[t]) (hq : f.resultTypes = #[tb]) (hb : P.underlying tb = some .bool)
    (hv : s.vars = []) (hs : s.fn H ([d] ++ []) = { results := [.lit (.bool true)], args := [d] })
    (hW : DataW.Whole enc P f.params.toList s.vars false W #[v0].toList [d] [] p) (h0 : DataW.Trod enc P W 0 (fun _ => true) true t v0 d p) (hB : Below W.heap.size W W') :
    s.post enc P f false true false false W #[v0] (.bool true) W' := by
  have hlt := hW.lt
  refine ⟨[d], [], p, [], p, [], hW, ?_, ?_, ?_, hB.frame _, fun e => by cases e⟩
  · rw [hs, hq]
    exact trodAll_cons_mk (shut_bool hb true) rfl
  · rw [hs, hp]
    have := trodAll_cons_mk (ts := []) (vs := []) (ds := []) (p' := []) (Below.trod hl hr hrow h0 hB hlt) rfl
    simpa using this
  · rw [hs, hv]
    exact rfl

/-- THE STEP OF A LAW: from its walk to what its row asks. -/
theorem law_lift {C : Checked} {os : Os} {f : FuncId} {fn : Func} {s : OpenSpec} {F : Stop.Interp} {laid : List (String × DataW Unit)} {t tb : TypeId} {v1 : Value} (H : Type) (enc : TypeId × Value → H)
    (own : ownKnob C.prog.godebug = none) (started : os.Started) (noInit : C.prog.inits.idxOf? f = none) (hfn : C.prog.funcs[f]? = some fn)
    (hl : laidOutB C.prog = true) (hr : C.prog.readableRec t = true) (hrow : t < C.prog.types.size) (hp : fn.params = #[t]) (hq : fn.resultTypes = #[tb]) (hb : C.prog.underlying tb = some .bool)
    (hv : s.vars = []) (hs : ∀ d : DataW H, s.fn F H ([d] ++ []) = { results := [.lit (.bool true)], args := [d] })
    (w0 : World) (hos : w0.os = os)
    (wv : (w0.forCall (fun _ _ => 0) ⟨#[], #[v1], []⟩).variablesB C.prog = true)
    (wr : ((w0.forCall (fun _ _ => 0) ⟨#[], #[v1], []⟩).heap.toList.drop C.prog.globals.size).take ((begin C.prog (fun _ _ => 0) default).world.heap.size - C.prog.globals.size) =
      (begin C.prog (fun _ _ => 0) default).world.heap.toList.drop C.prog.globals.size)
    (wok : Input.okWideB C.prog (w0.forCall (fun _ _ => 0) ⟨#[], #[v1], []⟩) f ⟨#[], #[v1], []⟩ = true)
    (wrow : s.preRow enc C.prog fn [] false laid (w0.forCall (fun _ _ => 0) ⟨#[], #[v1], []⟩).memory #[v1])
    (contract : ∀ (W : World) (base : Nat) (v0 : Value) (d : DataW H) (p : List MemPlace), Value.okWide C.prog W .any base t v0 → DataW.Trod enc C.prog W 0 (fun _ => true) true t v0 d p →
      (∀ k, s.cond = some k → k H [d] = true) → (∀ x ∈ DataW.weights C.prog t d, x ≤ 140737488351232) → laidMetH C.prog laid W →
      Calls C.prog f #[v0] W (Ret fun r w' => r = .bool true ∧ Sat W w' 1)) :
    ReturnsInHanded {} C os f .any (s.preRow enc C.prog fn [] false laid) ((s.at F).post enc C.prog fn false true false false) := by
  refine returnsInHanded_of_row (C := C) (s := s) own started noInit hfn (witness_row_at (enc := enc) (C := C) false w0 #[v1] hos wv wr wok wrow) ?_
  intro W base args ds gs before hval hW _ hcond hwt hL _ _
  have hW' := hW
  obtain ⟨p, q, hA, hV, rfl, hfz, hnd⟩ := hW
  rw [hp] at hA hval
  obtain ⟨v0, vs0, d0, ds0, p0, q0, hargs, rfl, rfl, h0, r0⟩ := trodAll_cons hA
  obtain ⟨rfl, rfl, rfl⟩ := trodAll_nil r0
  obtain rfl : args = #[v0] := by cases args; simp_all
  rw [hv] at hV
  obtain ⟨rfl, rfl⟩ := trodVars_none hV
  simp only [List.append_nil] at hW' hcond hwt
  have hwt' : ∀ x ∈ DataW.weights C.prog t d0, x ≤ 140737488351232 := by
    intro x hx
    have hwt2 := hwt
    rw [hp] at hwt2
    simp only [OpenSpec.bare, ChangeSpec.plain, hv, DataSpec.varTypes, List.filterMap_nil, List.append_nil, DataW.weightsEach, List.all_eq_true, decide_eq_true_eq] at hwt2
    exact hwt2 x hx
  refine (contract W base v0 d0 p0 (hval 0 t v0 rfl rfl) h0 hcond hwt' hL).mono fun e W' ⟨v, he, hv', hsat⟩ => ?_
  subst he
  subst hv'
  exact ⟨_, rfl, law_post hl hr hrow hp hq hb hv (hs d0) hW' h0 hsat.below⟩

/-! What a reading tells of a slice: its cells, row by row. -/
section
variable {H : Type} {enc : TypeId × Value → H} {P : Program} {w : World} {base : Nat} {spare : Nat → Bool} {held : Bool}
theorem cells?_get {n : Nat} {a : Addr} {cs : List Value} (h : w.cells? base a n = some cs) : cs.length = n ∧ ∀ k u, cs[k]? = some u → w.cell? (a.add k) = some u := by
  unfold World.cells? at h
  split at h
  · have hl := Lib.mapM_length h
    refine ⟨by simpa using hl, fun k u hk => ?_⟩
    have hk' : k < n := by
      have := (List.getElem?_eq_some_iff.1 hk).1
      simp at hl
      omega
    obtain ⟨b, hb, hc⟩ := Lib.mapM_at h k k (by simp [hk'])
    rw [hk] at hb
    cases hb
    exact hc
  · cases h
theorem flatten_get {n : Nat} (hn : 0 < n) : ∀ {rows : List (List Value)}, (∀ r ∈ rows, r.length = n) → ∀ (j : Nat) (u : Value), rows.flatten[j]? = some u → ∃ r, rows[j / n]? = some r ∧ r[j % n]? = some u
  | [], _, j, u, h => by simp at h
  | r :: rows, hr, j, u, h => by
    have hl := hr r (List.mem_cons_self ..)
    rw [List.flatten_cons] at h
    by_cases hj : j < n
    · rw [List.getElem?_append_left (by omega)] at h
      exact ⟨r, by rw [Nat.div_eq_of_lt hj]; rfl, by rw [Nat.mod_eq_of_lt hj]; exact h⟩
    · rw [List.getElem?_append_right (by omega), hl] at h
      obtain ⟨r', h1, h2⟩ := flatten_get hn (fun x hx => hr x (List.mem_cons_of_mem _ hx)) (j - n) u h
      have e : j = (j - n) + n := by omega
      refine ⟨r', ?_, ?_⟩
      · rw [e, Nat.add_div_right _ hn]
        exact h1
      · rw [e, Nat.add_mod_right]
        exact h2

/-- A SLICE OPENED: its rows of cells lie one behind the other, each read as its part. -/
theorem open_rows {t e : TypeId} {n fuel : Nat} {cs : List Value} {d : DataW H} {p : List MemPlace} (ht : P.underlying t = some (.slice e)) (hc : P.cellsOf e = n) (hn : 0 < n)
    (h : DataW.trod enc P w base spare held fuel t cs = some (d, p)) (hw : ∀ x ∈ DataW.weights P t d, x ≤ 140737488351232) :
    ∃ (ao : Option Addr) (rows : List (List Value)) (ds sp : List (DataW H)) (c : Nat), cs = [.slice ao rows.length c] ∧ rows.length ≤ c ∧ (ao = none → rows = [] ∧ c = 0) ∧ (d = .nil ∧ ds = [] ∨ d = .slice ds sp) ∧ ds.length = rows.length ∧
      Rd w ao rows.flatten ∧ rows.length * P.bytesOf e ≤ 140737488351232 ∧
      ∀ (i : Nat) (r : List Value), rows[i]? = some r → r.length = n ∧ ∃ (di : DataW H) (p : List MemPlace) (f : Nat), ds[i]? = some di ∧ DataW.trod enc P w base spare held f e r = some (di, p) ∧ ∀ x ∈ DataW.weights P e di, x ≤ 140737488351232 := by
  rcases DataW.trod_slice ht h with ⟨rfl, hx⟩ | ⟨a, len, cap, elems, rest, m, _, rfl, hx, hb, hl, hm, hlen, hel, _, _⟩
  · simp only [Prod.mk.injEq] at hx
    obtain ⟨rfl, _⟩ := hx
    exact ⟨none, [], [], [], 0, rfl, Nat.le_refl _, fun _ => ⟨rfl, rfl⟩, Or.inl ⟨rfl, rfl⟩, rfl, Rd.nil _ _, by simp, fun i r hi => by simp at hi⟩
  · simp only [Prod.mk.injEq] at hx
    obtain ⟨rfl, _⟩ := hx
    rw [hc] at hel
    have hch : ∀ i, i < len → ∃ cs', ∃ y, elems[i]? = some y ∧ w.cells? base (a.add (i * n)) n = some cs' ∧ DataW.trod enc P w base spare held m e cs' = some y := by
      intro i hi
      have h1 := hel i hi
      rw [List.getElem?_eq_getElem (by omega)] at h1
      obtain ⟨cs', h2, h3⟩ := Option.bind_eq_some_iff.1 h1
      exact ⟨cs', _, List.getElem?_eq_getElem (by omega), h2, h3⟩
    obtain ⟨R, hR⟩ := Deep.choose_lt hch
    have hrow : ∀ i r, ((List.range len).map R)[i]? = some r → i < len ∧ r = R i := by
      intro i r hi
      simp only [List.getElem?_map, Option.map_eq_some_iff] at hi
      obtain ⟨j, hj, rfl⟩ := hi
      have hjl := (List.getElem?_eq_some_iff.1 hj).1
      simp at hjl
      rw [List.getElem?_range hjl] at hj
      cases hj
      exact ⟨hjl, rfl⟩
    have hlenrow : ∀ r ∈ (List.range len).map R, r.length = n := by
      intro r hr
      obtain ⟨i, hi, rfl⟩ := List.mem_map.1 hr
      obtain ⟨y, _, h2, _⟩ := hR i (List.mem_range.1 hi)
      exact (cells?_get h2).1
    have hw1 : (elems.length + rest.length) * P.bytesOf e ≤ 140737488351232 := by
      refine hw _ ?_
      simp [DataW.weights, ht]
    have hall : ∀ (l : List (DataW H)) (y : DataW H), y ∈ l → ∀ x ∈ DataW.weights P e y, x ∈ DataW.weightsAll P e l := by
      intro l
      induction l with
      | nil => intro y hy; cases hy
      | cons z l ih =>
        intro y hy x hx
        simp only [DataW.weightsAll, List.mem_append]
        rcases List.mem_cons.1 hy with rfl | hy
        · exact Or.inl hx
        · exact Or.inr (ih y hy x hx)
    refine ⟨some a, (List.range len).map R, elems.map (·.1), rest.map (·.1), cap, by simp, by simpa using hl, fun h => (by cases h), Or.inr rfl, by simp [hlen], ?_, ?_, ?_⟩
    · by_cases h0 : len = 0
      · subst h0
        exact Rd.nil _ _
      · have hc0 : ∀ j u, ((List.range len).map R).flatten[j]? = some u → w.cell? (a.add j) = some u := by
          intro j u hj
          obtain ⟨r, h1, h2⟩ := flatten_get hn hlenrow j u hj
          obtain ⟨hi, rfl⟩ := hrow _ _ h1
          obtain ⟨y, _, h3, _⟩ := hR _ hi
          have := (cells?_get h3).2 _ _ h2
          rw [Deep.add_add] at this
          rwa [show j / n * n + j % n = j from by rw [Nat.mul_comm]; exact Nat.div_add_mod j n] at this
        obtain ⟨y, _, h3, _⟩ := hR 0 (by omega)
        obtain ⟨hl0, hg0⟩ := cells?_get h3
        have hq := hg0 0 _ (List.getElem?_eq_getElem (by omega))
        have hsp := World.cell?_spot hq
        rw [Deep.add_add] at hsp
        obtain ⟨b, o, s⟩ := a
        have hs : s = none := by simpa [Addr.add] using hsp
        subst hs
        refine Or.inr ⟨b, o, rfl, fun i u hu => ?_⟩
        have := hc0 i u hu
        by_cases hi : i = 0
        · subst hi
          simpa [Addr.add] using this
        · simpa [Addr.add, hi] using this
    · simp only [List.length_map, List.length_range]
      exact Nat.le_trans (Nat.mul_le_mul_right _ (by omega)) hw1
    · intro i r hi
      obtain ⟨hil, rfl⟩ := hrow i r hi
      obtain ⟨y, hy, h3, h4⟩ := hR i hil
      refine ⟨(cells?_get h3).1, y.1, y.2, m, by simp [hy], h4, fun x hx => hw x ?_⟩
      simp only [DataW.weights, ht, List.mem_cons, List.mem_append]
      exact Or.inr (Or.inl (hall _ y.1 (List.mem_map.2 ⟨y, List.mem_of_getElem? hy, rfl⟩) x hx))

theorem int_u8 (z : Int) (h : (Lit.int .u8 z).wf = true) : ∃ b : UInt8, z = (b.toNat : Int) := by
  have h' : 0 ≤ z ∧ z ≤ 255 := by
    simpa [Lit.wf, IntKind.min, IntKind.max, IntKind.bits, IntKind.signed] using h
  exact ⟨UInt8.ofNat z.toNat, by simp [UInt8.toNat_ofNat']; omega⟩
/-- BYTES OPENED. -/
theorem open_bytes {t e : TypeId} {fuel : Nat} {cs : List Value} {d : DataW H} {p : List MemPlace} (ht : P.underlying t = some (.slice e)) (he : P.underlying e = some (.int .u8)) (hc : P.cellsOf e = 1) (hb : P.bytesOf e = 1)
    (h : DataW.trod enc P w base spare held fuel t cs = some (d, p)) (hw : ∀ x ∈ DataW.weights P t d, x ≤ 140737488351232) :
    ∃ (ao : Option Addr) (xs : List UInt8) (ds sp : List (DataW H)) (c : Nat), cs = [.slice ao xs.length c] ∧ Rd w ao (bvs xs) ∧ xs.length ≤ 140737488351232 ∧ xs.length ≤ c ∧ (ao = none → xs = [] ∧ c = 0) ∧ (d = .nil ∧ ds = [] ∨ d = .slice ds sp) ∧ ds.length = xs.length := by
  obtain ⟨ao, rows, ds, sp, c, rfl, hlc, hno, hd, hdl, hrd, hbd, hrow⟩ := open_rows ht hc (by omega) h hw
  have hbyte : ∀ i, i < rows.length → ∃ b : UInt8, rows[i]? = some [bv b] := by
    intro i hi
    obtain ⟨hl, di, p, f, _, h1, _⟩ := hrow i _ (List.getElem?_eq_getElem hi)
    obtain ⟨z, hz, _, hwf⟩ := DataW.trod_int he h1
    obtain ⟨b, rfl⟩ := int_u8 z hwf
    exact ⟨b, by rw [List.getElem?_eq_getElem hi, hz]; rfl⟩
  obtain ⟨B, hB⟩ := Deep.choose_lt hbyte
  have hrows : rows = ((List.range rows.length).map B).map fun b => [bv b] := by
    apply List.ext_getElem?
    intro i
    by_cases hi : i < rows.length
    · rw [hB i hi]
      simp [hi]
    · rw [List.getElem?_eq_none (by omega), List.getElem?_eq_none (by simp; omega)]
  have hflat : ∀ l : List UInt8, (l.map fun b => [bv b]).flatten = bvs l := by
    intro l
    induction l with
    | nil => rfl
    | cons b l ih =>
      simp only [List.map_cons, List.flatten_cons, ih]
      rfl
  refine ⟨ao, (List.range rows.length).map B, ds, sp, c, by simp, ?_, by simpa [hb] using hbd, by simpa using hlc, fun h => ?_, hd, by simpa using hdl⟩
  · rw [← hflat, ← hrows]
    exact hrd
  · obtain ⟨e1, e2⟩ := hno h
    exact ⟨by rw [e1]; rfl, e2⟩
end
end Go.Proofs.YtjhlelcopofkkaaDoor
