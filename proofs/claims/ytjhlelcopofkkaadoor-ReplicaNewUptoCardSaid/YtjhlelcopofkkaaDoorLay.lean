/- What every law of one parameter shares: its row's post, its witness, and what a reading tells of slices. · What the listed variables give a walk: the table of the sums, and the refusals, each its own pointer. · The closed facts that every law of the seat shares. · A slice of structs opened row by row, whatever is in a row. -/
import Derived.Test.YtjhlelcopofkkaaDoorBase
import Derived.Test.YtjhlelcopofkkaaDoorCards
import Derived.Deep.DeepHandedRow
import Derived.Deep.Slices
import Derived.Stop.LaidErr
import Derived.Lib.LaidTab
import Derived.LaidMore
import Derived.Carry
import Derived.OpenShut
import Derived.Lib.SmallJoins

/-! Law -/
namespace Go.Proofs.YtjhlelcopofkkaaDoor
open Go.RowKit Go.ChangeShapes Go.WideShapes Go.ChangeAt

/-- THE POST OF A LAW: old blocks are as they were, the answer is 'true'. -/
theorem law_post {H : Type} {enc : TypeId × Value → H} {P : Program} {f : Func} {s : ChangeSpec} {W W' : World} {v0 : Value} {t tb : TypeId} {d : DataW H} {p : List MemPlace}
    (hl : laidOutB P = true) (hr : P.readableRec t = true) (hrow : t < P.types.size) (hp : f.params = #[t]) (hq : f.resultTypes = #[tb]) (hb : P.underlying tb = some .bool)
    (hv : s.vars = []) (hs : s.fn H ([d] ++ []) = { results := [.lit (.bool true)], args := [d] })
    (hW : DataW.Whole enc P f.params.toList s.vars false W #[v0].toList [d] [] p) (h0 : DataW.Trod enc P W 0 (fun _ => true) true t v0 d p) (hB : Below W.heap.size W W') :
    s.post enc P f false true false false W #[v0] (.bool true) W' := by
  have hlt := hW.lt
  refine ⟨[d], [], p, [], p, [], hW, ?_, ?_, ?_, hB.frame _, fun e => by cases e⟩
  · rw [hs, hq]
    exact trodAll_cons_mk (shut_bool hb true) rfl
  · rw [hs, hp]
    have := trodAll_cons_mk (ts := []) (vs := []) (ds := []) (p' := []) (Below.trod hl hr hrow h0 hB hlt) rfl
    simpa using this
  · rw [hs, hv]
    exact rfl

/-- THE STEP OF A LAW: from its walk to what its row asks. -/
theorem law_lift {C : Checked} {os : Os} {f : FuncId} {fn : Func} {s : OpenSpec} {F : Stop.Interp} {laid : List (String × DataW Unit)} {t tb : TypeId} {v1 : Value} (H : Type) (enc : TypeId × Value → H)
    (own : ownKnob C.prog.godebug = none) (started : os.Started) (noInit : C.prog.inits.idxOf? f = none) (hfn : C.prog.funcs[f]? = some fn)
    (hl : laidOutB C.prog = true) (hr : C.prog.readableRec t = true) (hrow : t < C.prog.types.size) (hp : fn.params = #[t]) (hq : fn.resultTypes = #[tb]) (hb : C.prog.underlying tb = some .bool)
    (hv : s.vars = []) (hs : ∀ d : DataW H, s.fn F H ([d] ++ []) = { results := [.lit (.bool true)], args := [d] })
    (w0 : World) (hos : w0.os = os)
    (wv : (w0.forCall (fun _ _ => 0) ⟨#[], #[v1], []⟩).variablesB C.prog = true)
    (wr : ((w0.forCall (fun _ _ => 0) ⟨#[], #[v1], []⟩).heap.toList.drop C.prog.globals.size).take ((begin C.prog (fun _ _ => 0) default).world.heap.size - C.prog.globals.size) =
      (begin C.prog (fun _ _ => 0) default).world.heap.toList.drop C.prog.globals.size)
    (wok : Input.okWideB C.prog (w0.forCall (fun _ _ => 0) ⟨#[], #[v1], []⟩) f ⟨#[], #[v1], []⟩ = true)
    (wrow : s.preRow enc C.prog fn [] false laid (w0.forCall (fun _ _ => 0) ⟨#[], #[v1], []⟩).memory #[v1])
    (contract : ∀ (W : World) (base : Nat) (v0 : Value) (d : DataW H) (p : List MemPlace), Value.okWide C.prog W .any base t v0 → DataW.Trod enc C.prog W 0 (fun _ => true) true t v0 d p →
      (∀ k, s.cond = some k → k H [d] = true) → (∀ x ∈ DataW.weights C.prog t d, x ≤ 140737488351232) → laidMetH C.prog laid W →
      Calls C.prog f #[v0] W (Ret fun r w' => r = .bool true ∧ Sat W w' 1)) :
    ReturnsInHanded {} C os f .any (s.preRow enc C.prog fn [] false laid) ((s.at F).post enc C.prog fn false true false false) := by
  refine returnsInHanded_of_row (C := C) (s := s) own started noInit hfn (witness_row_at (enc := enc) (C := C) false w0 #[v1] hos wv wr wok wrow) ?_
  intro W base args ds gs before hval hW _ hcond hwt hL _ _
  have hW' := hW
  obtain ⟨p, q, hA, hV, rfl, hfz, hnd⟩ := hW
  rw [hp] at hA hval
  obtain ⟨v0, vs0, d0, ds0, p0, q0, hargs, rfl, rfl, h0, r0⟩ := trodAll_cons hA
  obtain ⟨rfl, rfl, rfl⟩ := trodAll_nil r0
  obtain rfl : args = #[v0] := by cases args; simp_all
  rw [hv] at hV
  obtain ⟨rfl, rfl⟩ := trodVars_none hV
  simp only [List.append_nil] at hW' hcond hwt
  have hwt' : ∀ x ∈ DataW.weights C.prog t d0, x ≤ 140737488351232 := by
    intro x hx
    have hwt2 := hwt
    rw [hp] at hwt2
    simp only [OpenSpec.bare, ChangeSpec.plain, hv, DataSpec.varTypes, List.filterMap_nil, List.append_nil, DataW.weightsEach, List.all_eq_true, decide_eq_true_eq] at hwt2
    exact hwt2 x hx
  refine (contract W base v0 d0 p0 (hval 0 t v0 rfl rfl) h0 hcond hwt' hL).mono fun e W' ⟨v, he, hv', hsat⟩ => ?_
  subst he
  subst hv'
  exact ⟨_, rfl, law_post hl hr hrow hp hq hb hv (hs d0) hW' h0 hsat.below⟩

/-! What a reading tells of a slice: its cells, row by row. -/
section
variable {H : Type} {enc : TypeId × Value → H} {P : Program} {w : World} {base : Nat} {spare : Nat → Bool} {held : Bool}
theorem cells?_get {n : Nat} {a : Addr} {cs : List Value} (h : w.cells? base a n = some cs) : cs.length = n ∧ ∀ k u, cs[k]? = some u → w.cell? (a.add k) = some u := by
  unfold World.cells? at h
  split at h
  · have hl := Lib.mapM_length h
    refine ⟨by simpa using hl, fun k u hk => ?_⟩
    have hk' : k < n := by
      have := (List.getElem?_eq_some_iff.1 hk).1
      simp at hl
      omega
    obtain ⟨b, hb, hc⟩ := Lib.mapM_at h k k (by simp [hk'])
    rw [hk] at hb
    cases hb
    exact hc
  · cases h
theorem flatten_get {n : Nat} (hn : 0 < n) : ∀ {rows : List (List Value)}, (∀ r ∈ rows, r.length = n) → ∀ (j : Nat) (u : Value), rows.flatten[j]? = some u → ∃ r, rows[j / n]? = some r ∧ r[j % n]? = some u
  | [], _, j, u, h => by simp at h
  | r :: rows, hr, j, u, h => by
    have hl := hr r (List.mem_cons_self ..)
    rw [List.flatten_cons] at h
    by_cases hj : j < n
    · rw [List.getElem?_append_left (by omega)] at h
      exact ⟨r, by rw [Nat.div_eq_of_lt hj]; rfl, by rw [Nat.mod_eq_of_lt hj]; exact h⟩
    · rw [List.getElem?_append_right (by omega), hl] at h
      obtain ⟨r', h1, h2⟩ := flatten_get hn (fun x hx => hr x (List.mem_cons_of_mem _ hx)) (j - n) u h
      have e : j = (j - n) + n := by omega
      refine ⟨r', ?_, ?_⟩
      · rw [e, Nat.add_div_right _ hn]
        exact h1
      · rw [e, Nat.add_mod_right]
        exact h2

/-- A SLICE OPENED: its rows of cells lie one behind the other, each read as its part. -/
theorem open_rows {t e : TypeId} {n fuel : Nat} {cs : List Value} {d : DataW H} {p : List MemPlace} (ht : P.underlying t = some (.slice e)) (hc : P.cellsOf e = n) (hn : 0 < n)
    (h : DataW.trod enc P w base spare held fuel t cs = some (d, p)) (hw : ∀ x ∈ DataW.weights P t d, x ≤ 140737488351232) :
    ∃ (ao : Option Addr) (rows : List (List Value)) (ds sp : List (DataW H)) (c : Nat), cs = [.slice ao rows.length c] ∧ rows.length ≤ c ∧ (ao = none → rows = [] ∧ c = 0) ∧ (d = .nil ∧ ds = [] ∨ d = .slice ds sp) ∧ ds.length = rows.length ∧
      Rd w ao rows.flatten ∧ rows.length * P.bytesOf e ≤ 140737488351232 ∧
      ∀ (i : Nat) (r : List Value), rows[i]? = some r → r.length = n ∧ ∃ (di : DataW H) (p : List MemPlace) (f : Nat), ds[i]? = some di ∧ DataW.trod enc P w base spare held f e r = some (di, p) ∧ ∀ x ∈ DataW.weights P e di, x ≤ 140737488351232 := by
  rcases DataW.trod_slice ht h with ⟨rfl, hx⟩ | ⟨a, len, cap, elems, rest, m, _, rfl, hx, hb, hl, hm, hlen, hel, _, _⟩
  · simp only [Prod.mk.injEq] at hx
    obtain ⟨rfl, _⟩ := hx
    exact ⟨none, [], [], [], 0, rfl, Nat.le_refl _, fun _ => ⟨rfl, rfl⟩, Or.inl ⟨rfl, rfl⟩, rfl, Rd.nil _ _, by simp, fun i r hi => by simp at hi⟩
  · simp only [Prod.mk.injEq] at hx
    obtain ⟨rfl, _⟩ := hx
    rw [hc] at hel
    have hch : ∀ i, i < len → ∃ cs', ∃ y, elems[i]? = some y ∧ w.cells? base (a.add (i * n)) n = some cs' ∧ DataW.trod enc P w base spare held m e cs' = some y := by
      intro i hi
      have h1 := hel i hi
      rw [List.getElem?_eq_getElem (by omega)] at h1
      obtain ⟨cs', h2, h3⟩ := Option.bind_eq_some_iff.1 h1
      exact ⟨cs', _, List.getElem?_eq_getElem (by omega), h2, h3⟩
    obtain ⟨R, hR⟩ := Deep.choose_lt hch
    have hrow : ∀ i r, ((List.range len).map R)[i]? = some r → i < len ∧ r = R i := by
      intro i r hi
      simp only [List.getElem?_map, Option.map_eq_some_iff] at hi
      obtain ⟨j, hj, rfl⟩ := hi
      have hjl := (List.getElem?_eq_some_iff.1 hj).1
      simp at hjl
      rw [List.getElem?_range hjl] at hj
      cases hj
      exact ⟨hjl, rfl⟩
    have hlenrow : ∀ r ∈ (List.range len).map R, r.length = n := by
      intro r hr
      obtain ⟨i, hi, rfl⟩ := List.mem_map.1 hr
      obtain ⟨y, _, h2, _⟩ := hR i (List.mem_range.1 hi)
      exact (cells?_get h2).1
    have hw1 : (elems.length + rest.length) * P.bytesOf e ≤ 140737488351232 := by
      refine hw _ ?_
      simp [DataW.weights, ht]
    have hall : ∀ (l : List (DataW H)) (y : DataW H), y ∈ l → ∀ x ∈ DataW.weights P e y, x ∈ DataW.weightsAll P e l := by
      intro l
      induction l with
      | nil => intro y hy; cases hy
      | cons z l ih =>
        intro y hy x hx
        simp only [DataW.weightsAll, List.mem_append]
        rcases List.mem_cons.1 hy with rfl | hy
        · exact Or.inl hx
        · exact Or.inr (ih y hy x hx)
    refine ⟨some a, (List.range len).map R, elems.map (·.1), rest.map (·.1), cap, by simp, by simpa using hl, fun h => (by cases h), Or.inr rfl, by simp [hlen], ?_, ?_, ?_⟩
    · by_cases h0 : len = 0
      · subst h0
        exact Rd.nil _ _
      · have hc0 : ∀ j u, ((List.range len).map R).flatten[j]? = some u → w.cell? (a.add j) = some u := by
          intro j u hj
          obtain ⟨r, h1, h2⟩ := flatten_get hn hlenrow j u hj
          obtain ⟨hi, rfl⟩ := hrow _ _ h1
          obtain ⟨y, _, h3, _⟩ := hR _ hi
          have := (cells?_get h3).2 _ _ h2
          rw [Deep.add_add] at this
          rwa [show j / n * n + j % n = j from by rw [Nat.mul_comm]; exact Nat.div_add_mod j n] at this
        obtain ⟨y, _, h3, _⟩ := hR 0 (by omega)
        obtain ⟨hl0, hg0⟩ := cells?_get h3
        have hq := hg0 0 _ (List.getElem?_eq_getElem (by omega))
        have hsp := World.cell?_spot hq
        rw [Deep.add_add] at hsp
        obtain ⟨b, o, s⟩ := a
        have hs : s = none := by simpa [Addr.add] using hsp
        subst hs
        refine Or.inr ⟨b, o, rfl, fun i u hu => ?_⟩
        have := hc0 i u hu
        by_cases hi : i = 0
        · subst hi
          simpa [Addr.add] using this
        · simpa [Addr.add, hi] using this
    · simp only [List.length_map, List.length_range]
      exact Nat.le_trans (Nat.mul_le_mul_right _ (by omega)) hw1
    · intro i r hi
      obtain ⟨hil, rfl⟩ := hrow i r hi
      obtain ⟨y, hy, h3, h4⟩ := hR i hil
      refine ⟨(cells?_get h3).1, y.1, y.2, m, by simp [hy], h4, fun x hx => hw x ?_⟩
      simp only [DataW.weights, ht, List.mem_cons, List.mem_append]
      exact Or.inr (Or.inl (hall _ y.1 (List.mem_map.2 ⟨y, List.mem_of_getElem? hy, rfl⟩) x hx))

theorem int_u8 (z : Int) (h : (Lit.int .u8 z).wf = true) : ∃ b : UInt8, z = (b.toNat : Int) := by
  have h' : 0 ≤ z ∧ z ≤ 255 := by
    simpa [Lit.wf, IntKind.min, IntKind.max, IntKind.bits, IntKind.signed] using h
  exact ⟨UInt8.ofNat z.toNat, by simp [UInt8.toNat_ofNat']; omega⟩
/-- BYTES OPENED. -/
theorem open_bytes {t e : TypeId} {fuel : Nat} {cs : List Value} {d : DataW H} {p : List MemPlace} (ht : P.underlying t = some (.slice e)) (he : P.underlying e = some (.int .u8)) (hc : P.cellsOf e = 1) (hb : P.bytesOf e = 1)
    (h : DataW.trod enc P w base spare held fuel t cs = some (d, p)) (hw : ∀ x ∈ DataW.weights P t d, x ≤ 140737488351232) :
    ∃ (ao : Option Addr) (xs : List UInt8) (ds sp : List (DataW H)) (c : Nat), cs = [.slice ao xs.length c] ∧ Rd w ao (bvs xs) ∧ xs.length ≤ 140737488351232 ∧ xs.length ≤ c ∧ (ao = none → xs = [] ∧ c = 0) ∧ (d = .nil ∧ ds = [] ∨ d = .slice ds sp) ∧ ds.length = xs.length := by
  obtain ⟨ao, rows, ds, sp, c, rfl, hlc, hno, hd, hdl, hrd, hbd, hrow⟩ := open_rows ht hc (by omega) h hw
  have hbyte : ∀ i, i < rows.length → ∃ b : UInt8, rows[i]? = some [bv b] := by
    intro i hi
    obtain ⟨hl, di, p, f, _, h1, _⟩ := hrow i _ (List.getElem?_eq_getElem hi)
    obtain ⟨z, hz, _, hwf⟩ := DataW.trod_int he h1
    obtain ⟨b, rfl⟩ := int_u8 z hwf
    exact ⟨b, by rw [List.getElem?_eq_getElem hi, hz]; rfl⟩
  obtain ⟨B, hB⟩ := Deep.choose_lt hbyte
  have hrows : rows = ((List.range rows.length).map B).map fun b => [bv b] := by
    apply List.ext_getElem?
    intro i
    by_cases hi : i < rows.length
    · rw [hB i hi]
      simp [hi]
    · rw [List.getElem?_eq_none (by omega), List.getElem?_eq_none (by simp; omega)]
  have hflat : ∀ l : List UInt8, (l.map fun b => [bv b]).flatten = bvs l := by
    intro l
    induction l with
    | nil => rfl
    | cons b l ih =>
      simp only [List.map_cons, List.flatten_cons, ih]
      rfl
  refine ⟨ao, (List.range rows.length).map B, ds, sp, c, by simp, ?_, by simpa [hb] using hbd, by simpa using hlc, fun h => ?_, hd, by simpa using hdl⟩
  · rw [← hflat, ← hrows]
    exact hrd
  · obtain ⟨e1, e2⟩ := hno h
    exact ⟨by rw [e1]; rfl, e2⟩
end
end Go.Proofs.YtjhlelcopofkkaaDoor

/-! Laid -/
namespace Go.Proofs.YtjhlelcopofkkaaDoor
open Go.RowKit Go.ChangeShapes Go.WideShapes Go.ChangeAt

theorem laidMet_head {P : Program} {x : String × DataW Unit} {r : List (String × DataW Unit)} {w : World} (h : laidMet P (x :: r) w) : laidMet P [x] w := by
  obtain ⟨ps, hv, hnd, hrows⟩ := h
  obtain ⟨n, d⟩ := x
  obtain ⟨g, t, cs, fuel, p, q, h1, h2, h3, h4, hq, rfl⟩ := hv
  refine ⟨MemPlace.row ⟨g, 0, none⟩ cs.size ++ p ++ [], ⟨g, t, cs, fuel, p, [], h1, h2, h3, h4, rfl, rfl⟩, ?_, fun b off hm => hrows b off ?_⟩
  · rw [List.append_nil]
    exact List.Nodup.sublist (List.sublist_append_left _ _) hnd
  · rw [List.append_nil] at hm
    exact List.mem_append_left _ hm
theorem laidMet_one {P : Program} {w : World} : ∀ {l : List (String × DataW Unit)} {x : String × DataW Unit}, laidMet P l w → x ∈ l → laidMet P [x] w
  | y :: l, x, h, hx => by
    rcases List.mem_cons.1 hx with rfl | hx
    · exact laidMet_head h
    · exact laidMet_one h.tail hx

/-! The table. -/
theorem crc_type : (Tryd.prog.globals[13]?).map (·.type) = some 202 := by kernel_rfl
theorem crc_cells : Tryd.prog.cellsOf 202 = 16 := by kernel_rfl
theorem u32_cells : Tryd.prog.cellsOf 55 = 1 := by kernel_rfl
theorem crc_global : Tryd.prog.globalNamed "usher/sums.crcRows" = some 13 := by kernel_rfl
def crcZs : List Int := [0, 498536548, 997073096, 651767980, 1994146192, 1802195444, 1303535960, 1342533948, 3988292384, 4027552580, 3604390888, 3412177804, 2607071920, 2262029012, 2685067896, 3183342108]
theorem crcZs_ok : ∀ i : Fin 16, crcZs.getD i.val 0 = ru32 (crcTab i.val) := by decide +kernel
theorem crcTab_of {W : World} {l : List (String × DataW Unit)} (h : laidMet Tryd.prog l W) (hx : ("usher/sums.crcRows", Lib.tabData .u32 crcZs) ∈ l) : CrcTab W := by
  have h1 := Lib.tabIs_of_head (rest := []) crc_global crc_type Tryd.underlying202 Tryd.underlying55 u32_cells crc_cells (laidMet_one h hx)
  intro i hi
  rw [h1.cell crc_global i (by exact hi)]
  exact congrArg (fun z => some (Value.int .u32 z)) (crcZs_ok ⟨i, hi⟩)

/-! The refusals. -/
def errName : Nat → String
  | 1 => "usher/api.ErrArg" | 2 => "usher/api.ErrText" | 3 => "usher/api.ErrMany" | 4 => "usher/api.ErrTwice" | 5 => "usher/api.ErrScheme" | 6 => "usher/api.ErrShort" | 7 => "usher/api.ErrDry"
  | 8 => "usher/api.ErrTaken" | 9 => "usher/api.ErrFull" | 10 => "usher/api.ErrDead" | 11 => "usher/api.ErrLog" | 12 => "usher/api.ErrLost" | _ => "usher/api.ErrDenied"
def errText : Nat → List UInt8
  | 1 => [97, 114, 103, 117, 109, 101, 110, 116] | 2 => [116, 101, 120, 116] | 3 => [109, 97, 110, 121] | 4 => [116, 119, 105, 99, 101] | 5 => [115, 99, 104, 101, 109, 101] | 6 => [115, 104, 111, 114, 116] | 7 => [100, 114, 121]
  | 8 => [116, 97, 107, 101, 110] | 9 => [102, 117, 108, 108] | 10 => [100, 101, 97, 100] | 11 => [108, 111, 103] | 12 => [108, 111, 115, 116] | _ => [100, 101, 110, 105, 101, 100]
theorem errText_inj : ∀ j k : Fin 14, 1 ≤ j.val → 1 ≤ k.val → errText j.val = errText k.val → j = k := by decide +kernel
theorem err_global : ∀ k : Fin 14, 1 ≤ k.val → Tryd.prog.globalNamed (errName k.val) = some (gErr k.val) ∧ (Tryd.prog.globals[gErr k.val]?).map (·.type) = some 25 := by
  intro k hk
  obtain ⟨k, hlt⟩ := k
  obtain rfl | rfl | rfl | rfl | rfl | rfl | rfl | rfl | rfl | rfl | rfl | rfl | rfl : k = 1 ∨ k = 2 ∨ k = 3 ∨ k = 4 ∨ k = 5 ∨ k = 6 ∨ k = 7 ∨ k = 8 ∨ k = 9 ∨ k = 10 ∨ k = 11 ∨ k = 12 ∨ k = 13 := by
    simp only at hk
    omega
  all_goals exact ⟨by kernel_rfl, by kernel_rfl⟩
def errData (k : Nat) : DataW Unit := .iface "*errors.errorString" (.ptr (.agg [.lit (.string (errText k))]))
theorem es_cells : Tryd.prog.cellsOf 219 = 1 := by kernel_rfl
theorem str_cells : Tryd.prog.cellsOf 9 = 1 := by kernel_rfl
theorem es_star : "*" ++ "errors.errorString" = "*errors.errorString" := by decide
theorem es_row : ∀ u, Tryd.prog.typeName? 3 u = some "*errors.errorString" → u = 203 := fun u h =>
  typeName_ptr_named (nm := "errors.errorString") (by rw [es_star]; kernel_rfl) (by kernel_rfl) (by decide) u (by rw [es_star]; exact h)
/-- One refusal: where it lies, what it reads. -/
structure ErrSeen (W : World) (k : Nat) (a : Addr) : Prop where
  cell : W.cell? ⟨gErr k, 0, none⟩ = some (.iface 203 (.pointer (some a)))
  row : ∃ ca ta, W.heap[a.block]? = some (.cells ca ta (0, 0))
  text : ∃ s : ByteArray, W.cell? a = some (.string s) ∧ s.data.toList = errText k
set_option maxRecDepth 100000 in
theorem err_seen {W : World} {l : List (String × DataW Unit)} (h : laidMet Tryd.prog l W) (k : Nat) (hk1 : 1 ≤ k) (hk2 : k ≤ 13) (hx : (errName k, errData k) ∈ l) : ∃ a, ErrSeen W k a := by
  obtain ⟨hg, ht⟩ := err_global ⟨k, by omega⟩ hk1
  obtain ⟨ps, ⟨g0, t0, cs0, f0, p0, q0, hg0, ht0, hv0, hd0, hq, e0⟩, _, hrows⟩ := laidMet_one h hx
  obtain rfl := Option.some.inj (hg.symm.trans hg0)
  obtain rfl := Option.some.inj (ht.symm.trans ht0)
  subst e0
  have hcell : ∀ j, W.cell? ⟨gErr k, j, none⟩ = cs0[j]? := fun j => World.var?_cell hg0 hv0 j
  obtain ⟨l0⟩ := cs0
  have ok0 : ∀ u v, l0 = [.iface u v] → Value.okWide Tryd.prog W .any 0 u v := fun u v e => by
    subst e
    exact (hrows (gErr k) 0 (by simp [MemPlace.row])).2 u v (by rw [hcell]; rfl)
  obtain ⟨a0, s0, rfl, hc0, hs0, _, rfl⟩ := errorString_of_trod Tryd.underlying25 es_row Tryd.underlying203 Tryd.underlying219 rfl rfl Tryd.underlying9 es_cells str_cells hd0 ok0
  refine ⟨a0, ⟨by rw [hcell]; rfl, ?_, s0, hc0, hs0⟩⟩
  exact (hrows a0.block a0.off (by simp [MemPlace.row])).1
theorem errs_of {W : World} {l : List (String × DataW Unit)} (h : laidMet Tryd.prog l W) (hx : ∀ k, 1 ≤ k → k ≤ 13 → (errName k, errData k) ∈ l) : ∃ E, Errs W E := by
  have : Inhabited Addr := ⟨⟨0, 0, none⟩⟩
  obtain ⟨E, hE⟩ := Deep.choose_lt (n := 14) (p := fun k a => 1 ≤ k → ErrSeen W k a) (fun k hk => by
    by_cases h1 : 1 ≤ k
    · obtain ⟨a, ha⟩ := err_seen h k h1 (by omega) (hx k h1 (by omega))
      exact ⟨a, fun _ => ha⟩
    · exact ⟨default, fun e => absurd e h1⟩)
  refine ⟨E, ⟨fun k h1 h2 => (hE k (by omega) h1).cell, fun k h1 h2 => (hE k (by omega) h1).row, fun j k h1 h2 h3 h4 e => ?_⟩⟩
  obtain ⟨s, hs, ht⟩ := (hE j (by omega) h1).text
  obtain ⟨s', hs', ht'⟩ := (hE k (by omega) h3).text
  rw [e, hs'] at hs
  cases hs
  have := errText_inj ⟨j, by omega⟩ ⟨k, by omega⟩ h1 h3 (ht.symm.trans ht')
  exact congrArg Fin.val this
end Go.Proofs.YtjhlelcopofkkaaDoor

/-! LawC -/
namespace Go.Proofs.YtjhlelcopofkkaaDoor
open Go.RowKit Go.ChangeShapes Go.WideShapes Go.ChangeAt

theorem own : ownKnob Tryd.prog.godebug = none := by kernel_rfl
theorem laidOut : laidOutB Tryd.prog = true := by kernel_rfl
theorem looksOn : true = Tryd.pinned.checked.prog.looks [] := by kernel_rfl
theorem plainOf {f0 : FuncId} {fn0 : Func} {t : TypeId} {n : String} (hf0 : Tryd.prog.funcNamed n = some f0) (hfn0 : Tryd.prog.funcs[f0]? = some fn0) (hp : fn0.params = #[t]) (ht : Tryd.prog.wantsStandIn t = false) (f : FuncId) (fn : Func) (hf : Tryd.pinned.checked.prog.funcNamed n = some f) (hfn : Tryd.pinned.checked.prog.funcs[f]? = some fn) :
    true = Tryd.pinned.checked.prog.looks [] ∧ ∀ (j : Nat) t, fn.params[j]? = some t → Tryd.pinned.checked.prog.wantsStandIn t = false := by
  obtain rfl : f0 = f := Option.some.inj (hf0.symm.trans hf)
  obtain rfl : fn0 = fn := Option.some.inj (hfn0.symm.trans hfn)
  refine ⟨looksOn, fun j t' ht' => ?_⟩
  rw [hp] at ht'
  obtain rfl : t' = t := by simpa using Array.mem_of_getElem? ht'
  exact ht
noncomputable def laidWorld (os : Os) : World := World.doorLaid Tryd.prog 400 os
theorem laidWorld_vars (os : Os) (v : Value) : ((laidWorld os).forCall (fun _ _ => 0) ⟨#[], #[v], []⟩).variablesB Tryd.prog = true := by kernel_rfl
theorem laidWorld_rest (os : Os) (v : Value) : ((((laidWorld os).forCall (fun _ _ => 0) ⟨#[], #[v], []⟩).heap.toList.drop Tryd.prog.globals.size).take ((begin Tryd.prog (fun _ _ => 0) default).world.heap.size - Tryd.prog.globals.size) =
      (begin Tryd.prog (fun _ _ => 0) default).world.heap.toList.drop Tryd.prog.globals.size) := by kernel_rfl

/-! What the bound on the bulk gives. -/
theorem bulk_pos {H : Type} (d : DataW H) : 1 ≤ Rows.uptoBulk d := by
  cases d with
  | lit l => cases l <;> simp [Rows.uptoBulk]
  | nil => simp [Rows.uptoBulk]
  | ptr d => simp [Rows.uptoBulk]
  | slice elems spare => simp [Rows.uptoBulk]
  | agg parts => simp [Rows.uptoBulk]
  | iface t d => simp [Rows.uptoBulk]
  | map entries => simp [Rows.uptoBulk]
  | held h => simp [Rows.uptoBulk]
theorem bulk_len {H : Type} (l : List (DataW H)) : l.length ≤ Rows.uptoBulkAll l := by
  induction l with
  | nil => simp [Rows.uptoBulkAll]
  | cons x r ih => have := bulk_pos x; simp only [Rows.uptoBulkAll, List.length_cons]; omega
theorem bulk_slice {H : Type} (elems spare : List (DataW H)) : elems.length ≤ Rows.uptoBulkAll elems ∧ Rows.uptoBulkAll elems + 1 ≤ Rows.uptoBulk (.slice elems spare) := by
  refine ⟨bulk_len elems, ?_⟩
  simp only [Rows.uptoBulk]
  omega
theorem bulk_agg2 {H : Type} (d e : DataW H) : Rows.uptoBulk d + Rows.uptoBulk e ≤ Rows.uptoBulk (.agg [d, e]) := by
  simp only [Rows.uptoBulk, Rows.uptoBulkAll]
  omega
theorem bulk_agg3 {H : Type} (d e f : DataW H) : Rows.uptoBulk d + Rows.uptoBulk e + Rows.uptoBulk f ≤ Rows.uptoBulk (.agg [d, e, f]) := by
  simp only [Rows.uptoBulk, Rows.uptoBulkAll]
  omega
theorem bulk_agg4 {H : Type} (d e f g : DataW H) : Rows.uptoBulk d + Rows.uptoBulk e + Rows.uptoBulk f + Rows.uptoBulk g ≤ Rows.uptoBulk (.agg [d, e, f, g]) := by
  simp only [Rows.uptoBulk, Rows.uptoBulkAll]
  omega
theorem bulk_one {H : Type} {d : DataW H} (hk : Rows.uptoSmall H [d] = true) : Rows.uptoBulk d ≤ 1048576 := by
  have h := of_decide_eq_true hk
  simp only [Rows.uptoBulkAll] at h
  omega
end Go.Proofs.YtjhlelcopofkkaaDoor

/-! OpenE -/
namespace Go.Proofs.YtjhlelcopofkkaaDoor
open Go.RowKit Go.ChangeShapes Go.WideShapes Go.ChangeAt Go.Deep

section
variable {H : Type} {enc : TypeId × Value → H} {P : Program} {w : World} {base : Nat} {spare : Nat → Bool} {held : Bool}
/-- A SLICE OPENED, a datum a row. -/
theorem open_each {X : Type} [Inhabited X] {t e : TypeId} {n fuel : Nat} {cs : List Value} {d : DataW H} {p : List MemPlace} (f : X → List Value) (Q : DataW H → X → Prop) (ht : P.underlying t = some (.slice e)) (hc : P.cellsOf e = n) (hn : 0 < n)
    (h : DataW.trod enc P w base spare held fuel t cs = some (d, p)) (hw : ∀ x ∈ DataW.weights P t d, x ≤ 140737488351232)
    (hone : ∀ (r : List Value) (di : DataW H) (q : List MemPlace) (fl : Nat), r.length = n → DataW.trod enc P w base spare held fl e r = some (di, q) → (∀ x ∈ DataW.weights P e di, x ≤ 140737488351232) → ∃ x, r = f x ∧ Q di x) :
    ∃ (ao : Option Addr) (l : List X) (ds sp : List (DataW H)) (c : Nat), cs = [.slice ao l.length c] ∧ l.length ≤ c ∧ (ao = none → l = [] ∧ c = 0) ∧ (d = .nil ∧ ds = [] ∨ d = .slice ds sp) ∧ ds.length = l.length ∧
      Rd w ao (l.flatMap f) ∧ l.length * P.bytesOf e ≤ 140737488351232 ∧ ∀ (i : Nat) (x : X) (di : DataW H), l[i]? = some x → ds[i]? = some di → Q di x := by
  obtain ⟨ao, rows, ds, sp, c, rfl, hlc, hno, hd, hdl, hrd, hbd, hrow⟩ := open_rows ht hc hn h hw
  have hex : ∀ i, i < rows.length → ∃ x : X, rows[i]? = some (f x) ∧ ∃ di, ds[i]? = some di ∧ Q di x := by
    intro i hi
    obtain ⟨hl, di, q, fl, h1, h2, h3⟩ := hrow i _ (List.getElem?_eq_getElem hi)
    obtain ⟨x, hx, hq⟩ := hone _ di q fl hl h2 h3
    exact ⟨x, by rw [List.getElem?_eq_getElem hi, hx], di, h1, hq⟩
  obtain ⟨B, hB⟩ := Deep.choose_lt hex
  have hrows : rows = ((List.range rows.length).map B).map f := by
    apply List.ext_getElem?
    intro i
    by_cases hi : i < rows.length
    · rw [(hB i hi).1]
      simp [hi]
    · rw [List.getElem?_eq_none (by omega), List.getElem?_eq_none (by simp; omega)]
  refine ⟨ao, (List.range rows.length).map B, ds, sp, c, by simp, by simpa using hlc, fun e => ?_, hd, by simpa using hdl, ?_, by simpa using hbd, fun i x di hx hdi => ?_⟩
  · obtain ⟨e1, e2⟩ := hno e
    exact ⟨by rw [e1]; rfl, e2⟩
  · rw [List.flatMap_def, ← hrows]
    exact hrd
  · simp only [List.getElem?_map, Option.map_eq_some_iff] at hx
    obtain ⟨j, hj, rfl⟩ := hx
    have hjl := (List.getElem?_eq_some_iff.1 hj).1
    simp at hjl
    rw [List.getElem?_range hjl] at hj
    cases hj
    obtain ⟨_, dj, h1, h2⟩ := hB i hjl
    rw [h1] at hdi
    cases hdi
    exact h2
/-- A struct whose fields have one cell each. -/
theorem trod_cells {t : TypeId} {fs : Array Field} {fuel : Nat} {r : List Value} {x : DataW H × List MemPlace} (ht : P.underlying t = some (.struct fs)) (hone : oneCellFields P fs = true) (_hl : r.length = fs.size)
    (h : DataW.trod enc P w base spare held fuel t r = some x) :
    ∃ (ys : List (DataW H × List MemPlace)) (n : Nat), x.1 = .agg (ys.map (·.1)) ∧ ys.length = fs.size ∧ ∀ (i : Nat) (fi : Field), fs[i]? = some fi → ∃ y, ys[i]? = some y ∧ DataW.trod enc P w base spare held n fi.type (r.drop i |>.take 1) = some y := by
  obtain ⟨xs, n, _, rfl, _, hlen, hf⟩ := DataW.trod_struct ht h
  refine ⟨xs, n, rfl, hlen, fun i fi hi => ?_⟩
  obtain ⟨o0, k0⟩ := hone_of hone i fi hi
  have hi' := (Array.getElem?_eq_some_iff.1 hi).1
  refine ⟨xs[i]'(by omega), List.getElem?_eq_getElem _, ?_⟩
  have h2 := hf i fi hi
  rw [o0, k0, List.getElem?_eq_getElem (by omega)] at h2
  simpa using h2
theorem int_i64' (z : Int) (h : (Lit.int .i64 z).wf = true) : -9223372036854775808 ≤ z ∧ z ≤ 9223372036854775807 := by
  simpa [Lit.wf, IntKind.min, IntKind.max, IntKind.bits, IntKind.signed] using h
/-- The weights of a struct's field are weights of the struct. -/
theorem weights_field {t : TypeId} {fs : Array Field} (ht : P.underlying t = some (.struct fs)) {ds : List (DataW H)} {i : Nat} {fi : Field} {di : DataW H} (hf : fs[i]? = some fi) (hd : ds[i]? = some di) :
    ∀ x ∈ DataW.weights P fi.type di, x ∈ DataW.weights P t (.agg ds) := by
  intro x hx
  simp only [DataW.weights, ht]
  have key : ∀ (l : List TypeId) (es : List (DataW H)) (k : Nat) (ti : TypeId) (ei : DataW H), l[k]? = some ti → es[k]? = some ei → x ∈ DataW.weights P ti ei → x ∈ DataW.weightsEach P l es := by
    intro l
    induction l with
    | nil => intro es k ti ei h1; simp at h1
    | cons a l ih =>
      intro es k ti ei h1 h2 hx
      cases es with
      | nil => simp at h2
      | cons b es =>
        simp only [DataW.weightsEach, List.mem_append]
        cases k with
        | zero =>
          simp at h1 h2
          subst h1; subst h2
          exact Or.inl hx
        | succ k => exact Or.inr (ih es k ti ei (by simpa using h1) (by simpa using h2) hx)
  refine key _ _ i fi.type di ?_ hd hx
  simp [hf]
end
end Go.Proofs.YtjhlelcopofkkaaDoor
