/- Steps of the laws of layer 13: what a reading tells of them. -/
import Derived.Test.YtjhlelcopofkkaaDoorLay
import Derived.Test.YtjhlelcopofkkaaDoorBase
namespace Go.Proofs.YtjhlelcopofkkaaDoor
open Go.RowKit Go.ChangeShapes Go.WideShapes Go.ChangeAt Go.Deep

structure Stp13 where
  kind : Int
  n : Int
  m : Int
  ao : Option Addr
  c : Nat
  p : List UInt8
instance : Inhabited Stp13 := ⟨⟨0, 0, 0, none, 0, []⟩⟩
def s13c (s : Stp13) : List Value := [.int .i64 s.kind, .int .i64 s.n, .int .i64 s.m, .slice s.ao s.p.length s.c]
structure Stp13.Ok (w : World) (s : Stp13) : Prop where
  rd : Rd w s.ao (bvs s.p)
  len : s.p.length ≤ 140737488351232
  cap : s.p.length ≤ s.c
  no : s.ao = none → s.p.length = 0 ∧ s.c = 0
  n1 : -9223372036854775808 ≤ s.n
  n2 : s.n ≤ 9223372036854775807
  m1 : -9223372036854775808 ≤ s.m
  m2 : s.m ≤ 9223372036854775807
def s13s (l : List Stp13) : List Value := l.flatMap s13c
theorem s13c_length (s : Stp13) : (s13c s).length = 4 := rfl
theorem s13s_get : ∀ {l : List Stp13} {k : Nat} {s : Stp13}, l[k]? = some s → (s13s l)[k * 4]? = some (.int .i64 s.kind) ∧ (s13s l)[k * 4 + 1]? = some (.int .i64 s.n) ∧ (s13s l)[k * 4 + 2]? = some (.int .i64 s.m) ∧ (s13s l)[k * 4 + 3]? = some (.slice s.ao s.p.length s.c)
  | [], k, s, h => by simp at h
  | x :: l, 0, s, h => by
    simp only [List.getElem?_cons_zero, Option.some.injEq] at h
    subst h
    exact ⟨rfl, rfl, rfl, rfl⟩
  | x :: l, k + 1, s, h => by
    obtain ⟨h0, h1, h2, h3⟩ := s13s_get (l := l) (k := k) (s := s) (by simpa using h)
    have e : s13s (x :: l) = s13c x ++ s13s l := rfl
    rw [e]
    refine ⟨?_, ?_, ?_, ?_⟩
    all_goals
      rw [List.getElem?_append_right (by rw [s13c_length]; omega), s13c_length]
    · rw [show (k + 1) * 4 - 4 = k * 4 by omega]; exact h0
    · rw [show (k + 1) * 4 + 1 - 4 = k * 4 + 1 by omega]; exact h1
    · rw [show (k + 1) * 4 + 2 - 4 = k * 4 + 2 by omega]; exact h2
    · rw [show (k + 1) * 4 + 3 - 4 = k * 4 + 3 by omega]; exact h3
/-- The cells of one step, read. -/
theorem s13s_cells {w : World} {ao : Option Addr} {l : List Stp13} (hr : Rd w ao (s13s l)) {k : Nat} (hk : k < l.length) : ∃ b o, ao = some ⟨b, o, none⟩ ∧
    w.cell? ⟨b, o + k * 4, none⟩ = some (.int .i64 l[k].kind) ∧ w.cell? ⟨b, o + k * 4 + 1, none⟩ = some (.int .i64 l[k].n) ∧ w.cell? ⟨b, o + k * 4 + 2, none⟩ = some (.int .i64 l[k].m) ∧ w.cell? ⟨b, o + k * 4 + 3, none⟩ = some (.slice l[k].ao l[k].p.length l[k].c) := by
  obtain ⟨h0, h1, h2, h3⟩ := s13s_get (List.getElem?_eq_getElem hk)
  obtain ⟨b, o, e, hc⟩ := hr.addr (by intro e; rw [e] at h0; simp at h0)
  exact ⟨b, o, e, hc _ _ h0, by have := hc _ _ h1; rwa [← Nat.add_assoc] at this, by have := hc _ _ h2; rwa [← Nat.add_assoc] at this, by have := hc _ _ h3; rwa [← Nat.add_assoc] at this⟩

/-- How much the payloads of steps take. -/
def s13size (l : List Stp13) : Nat := (l.map fun s => s.p.length).sum
theorem step13_cells : Tryd.prog.cellsOf 133 = 4 := by kernel_rfl
theorem step13_bytes : Tryd.prog.bytesOf 133 = 48 := by kernel_rfl
theorem bulk_agg {H : Type} (l : List (DataW H)) (i : Nat) (d : DataW H) (h : l[i]? = some d) : Rows.uptoBulk d ≤ Rows.uptoBulk (.agg l) := by
  have key : ∀ (l : List (DataW H)) (i : Nat) (d : DataW H), l[i]? = some d → Rows.uptoBulk d ≤ Rows.uptoBulkAll l := by
    intro l
    induction l with
    | nil => intro i d h; simp at h
    | cons x l ih =>
      intro i d h
      simp only [Rows.uptoBulkAll]
      cases i with
      | zero => simp at h; subst h; omega
      | succ i => have := ih i d (by simpa using h); omega
  have := key l i d h
  simp only [Rows.uptoBulk]
  omega
theorem bulk_bytes' {H : Type} {d : DataW H} {ds sp : List (DataW H)} {n : Nat} (hd : d = .nil ∧ ds = [] ∨ d = .slice ds sp) (hl : ds.length = n) : n + 1 ≤ Rows.uptoBulk d := by
  rcases hd with ⟨e1, e2⟩ | e
  · subst e1; subst e2
    simp at hl
    subst hl
    exact bulk_pos _
  · have := bulk_slice ds sp
    rw [← e] at this
    omega
theorem open_stps13 {H : Type} {enc : TypeId × Value → H} {w : World} {base : Nat} {spare : Nat → Bool} {held : Bool} {fuel : Nat} {cs : List Value} {d : DataW H} {p : List MemPlace}
    (h : DataW.trod enc Tryd.prog w base spare held fuel 129 cs = some (d, p)) (hw : ∀ x ∈ DataW.weights Tryd.prog 129 d, x ≤ 140737488351232) :
    ∃ (ao : Option Addr) (ss : List Stp13) (c : Nat), cs = [.slice ao ss.length c] ∧ ss.length ≤ c ∧ Rd w ao (s13s ss) ∧ ss.length ≤ 2932031007402 ∧ (∀ s ∈ ss, s.Ok w) ∧ s13size ss + ss.length + 1 ≤ Rows.uptoBulk d := by
  obtain ⟨ao, l, ds, sp, c, rfl, hlc, hno, hd, hdl, hrd, hbd, hall⟩ := open_each (X := Stp13) (n := 4) s13c (fun di s => s.Ok w ∧ s.p.length + 1 ≤ Rows.uptoBulk di) Tryd.underlying129 step13_cells (by decide) h hw (by
    intro r di q fl hl h1 hw1
    obtain ⟨ys, n, hx, hyl, hf⟩ := trod_cells Tryd.underlying133 (by kernel_rfl) hl h1
    match r, hl with
    | [v0, v1, v2, v3], _ =>
      obtain ⟨y0, g0, t0⟩ := hf 0 _ rfl
      obtain ⟨y1, g1, t1⟩ := hf 1 _ rfl
      obtain ⟨y2, g2, t2⟩ := hf 2 _ rfl
      obtain ⟨y3, g3, t3⟩ := hf 3 _ rfl
      simp only at hx
      have hw3 : ∀ x ∈ DataW.weights Tryd.prog 22 y3.1, x ≤ 140737488351232 := fun x hx' => hw1 x (by
        rw [hx]
        exact weights_field Tryd.underlying133 (i := 3) rfl (by rw [List.getElem?_map, g3]; rfl) x hx')
      obtain ⟨z0, e0, _, _⟩ := DataW.trod_int Tryd.underlying3 t0
      obtain ⟨z1, e1, _, w1⟩ := DataW.trod_int Tryd.underlying3 t1
      obtain ⟨z2, e2, _, w2⟩ := DataW.trod_int Tryd.underlying3 t2
      obtain ⟨ao, xs, ds', sp', c', hcs, hrd', hn', hlc', hno', hd', hdl'⟩ := open_bytes Tryd.underlying22 Tryd.underlying5 (by kernel_rfl) (by kernel_rfl) t3 hw3
      obtain rfl := (List.cons.inj e0).1
      obtain rfl := (List.cons.inj e1).1
      obtain rfl := (List.cons.inj e2).1
      obtain rfl := (List.cons.inj hcs).1
      obtain ⟨a1, a2⟩ := int_i64' z1 w1
      obtain ⟨b1, b2⟩ := int_i64' z2 w2
      refine ⟨⟨z0, z1, z2, ao, c', xs⟩, rfl, ⟨hrd', hn', hlc', fun e => by obtain ⟨e1, e2⟩ := hno' e; exact ⟨by simp [e1], e2⟩, a1, a2, b1, b2⟩, ?_⟩
      have hb := bulk_bytes' hd' hdl'
      have := bulk_agg (ys.map (·.1)) 3 y3.1 (by rw [List.getElem?_map, g3]; rfl)
      rw [hx]
      exact Nat.le_trans hb this)
  rw [step13_bytes] at hbd
  refine ⟨ao, l, c, rfl, hlc, hrd, by omega, fun s hs => ?_, ?_⟩
  · obtain ⟨i, hi, rfl⟩ := List.getElem_of_mem hs
    exact (hall i _ _ (List.getElem?_eq_getElem hi) (List.getElem?_eq_getElem (by omega))).1
  · have key : ∀ (l : List Stp13) (ds : List (DataW H)), ds.length = l.length → (∀ (i : Nat) (x : Stp13) (di : DataW H), l[i]? = some x → ds[i]? = some di → x.p.length + 1 ≤ Rows.uptoBulk di) → s13size l + l.length ≤ Rows.uptoBulkAll ds := by
      intro l
      induction l with
      | nil => intro ds _ _; simp [s13size]
      | cons x l ih =>
        intro ds hl hq
        cases ds with
        | nil => simp at hl
        | cons d ds =>
          have h0 := hq 0 x d rfl rfl
          have h1 := ih ds (by simpa using hl) (fun i y e h1 h2 => hq (i + 1) y e (by simpa using h1) (by simpa using h2))
          simp only [Rows.uptoBulkAll, s13size, List.map_cons, List.sum_cons, List.length_cons] at h1 ⊢
          omega
    have hk := key l ds hdl (fun i x di h1 h2 => (hall i x di h1 h2).2)
    rcases hd with ⟨e1, e2⟩ | e
    · subst e2
      have := bulk_pos d
      simp only [Rows.uptoBulkAll] at hk
      omega
    · have := (bulk_slice ds sp).2
      rw [← e] at this
      omega
end Go.Proofs.YtjhlelcopofkkaaDoor
