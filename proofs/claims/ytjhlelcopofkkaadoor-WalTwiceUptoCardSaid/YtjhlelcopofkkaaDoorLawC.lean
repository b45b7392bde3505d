/- The closed facts that every law of the seat shares. -/
import Derived.Test.YtjhlelcopofkkaaDoorCards
import Derived.Test.YtjhlelcopofkkaaDoorLaid
import Derived.Lib.SmallJoins
namespace Go.Proofs.YtjhlelcopofkkaaDoor
open Go.RowKit Go.ChangeShapes Go.WideShapes Go.ChangeAt

theorem own : ownKnob Tryd.prog.godebug = none := by kernel_rfl
theorem laidOut : laidOutB Tryd.prog = true := by kernel_rfl
theorem looksOn : true = Tryd.pinned.checked.prog.looks [] := by kernel_rfl
theorem plainOf {f0 : FuncId} {fn0 : Func} {t : TypeId} {n : String} (hf0 : Tryd.prog.funcNamed n = some f0) (hfn0 : Tryd.prog.funcs[f0]? = some fn0) (hp : fn0.params = #[t]) (ht : Tryd.prog.wantsStandIn t = false) (f : FuncId) (fn : Func) (hf : Tryd.pinned.checked.prog.funcNamed n = some f) (hfn : Tryd.pinned.checked.prog.funcs[f]? = some fn) :
    true = Tryd.pinned.checked.prog.looks [] ∧ ∀ (j : Nat) t, fn.params[j]? = some t → Tryd.pinned.checked.prog.wantsStandIn t = false := by
  obtain rfl : f0 = f := Option.some.inj (hf0.symm.trans hf)
  obtain rfl : fn0 = fn := Option.some.inj (hfn0.symm.trans hfn)
  refine ⟨looksOn, fun j t' ht' => ?_⟩
  rw [hp] at ht'
  obtain rfl : t' = t := by simpa using Array.mem_of_getElem? ht'
  exact ht
noncomputable def laidWorld (os : Os) : World := World.doorLaid Tryd.prog 400 os
theorem laidWorld_vars (os : Os) (v : Value) : ((laidWorld os).forCall (fun _ _ => 0) ⟨#[], #[v], []⟩).variablesB Tryd.prog = true := by kernel_rfl
theorem laidWorld_rest (os : Os) (v : Value) : ((((laidWorld os).forCall (fun _ _ => 0) ⟨#[], #[v], []⟩).heap.toList.drop Tryd.prog.globals.size).take ((begin Tryd.prog (fun _ _ => 0) default).world.heap.size - Tryd.prog.globals.size) =
      (begin Tryd.prog (fun _ _ => 0) default).world.heap.toList.drop Tryd.prog.globals.size) := by kernel_rfl

/-! What the bound on the bulk gives. -/
theorem bulk_pos {H : Type} (d : DataW H) : 1 ≤ Rows.uptoBulk d := by
  cases d with
  | lit l => cases l <;> simp [Rows.uptoBulk]
  | nil => simp [Rows.uptoBulk]
  | ptr d => simp [Rows.uptoBulk]
  | slice elems spare => simp [Rows.uptoBulk]
  | agg parts => simp [Rows.uptoBulk]
  | iface t d => simp [Rows.uptoBulk]
  | map entries => simp [Rows.uptoBulk]
  | held h => simp [Rows.uptoBulk]
theorem bulk_len {H : Type} (l : List (DataW H)) : l.length ≤ Rows.uptoBulkAll l := by
  induction l with
  | nil => simp [Rows.uptoBulkAll]
  | cons x r ih => have := bulk_pos x; simp only [Rows.uptoBulkAll, List.length_cons]; omega
theorem bulk_slice {H : Type} (elems spare : List (DataW H)) : elems.length ≤ Rows.uptoBulkAll elems ∧ Rows.uptoBulkAll elems + 1 ≤ Rows.uptoBulk (.slice elems spare) := by
  refine ⟨bulk_len elems, ?_⟩
  simp only [Rows.uptoBulk]
  omega
theorem bulk_agg2 {H : Type} (d e : DataW H) : Rows.uptoBulk d + Rows.uptoBulk e ≤ Rows.uptoBulk (.agg [d, e]) := by
  simp only [Rows.uptoBulk, Rows.uptoBulkAll]
  omega
theorem bulk_agg3 {H : Type} (d e f : DataW H) : Rows.uptoBulk d + Rows.uptoBulk e + Rows.uptoBulk f ≤ Rows.uptoBulk (.agg [d, e, f]) := by
  simp only [Rows.uptoBulk, Rows.uptoBulkAll]
  omega
theorem bulk_agg4 {H : Type} (d e f g : DataW H) : Rows.uptoBulk d + Rows.uptoBulk e + Rows.uptoBulk f + Rows.uptoBulk g ≤ Rows.uptoBulk (.agg [d, e, f, g]) := by
  simp only [Rows.uptoBulk, Rows.uptoBulkAll]
  omega
theorem bulk_one {H : Type} {d : DataW H} (hk : Rows.uptoSmall H [d] = true) : Rows.uptoBulk d ≤ 1048576 := by
  have h := of_decide_eq_true hk
  simp only [Rows.uptoBulkAll] at h
  omega
end Go.Proofs.YtjhlelcopofkkaaDoor
