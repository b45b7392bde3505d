/- The closed facts that every law of the seat shares. -/
import Derived.Test.YtjhlelcopofkkaaDoorCards
import Derived.Test.YtjhlelcopofkkaaDoorLaid
namespace Go.Proofs.YtjhlelcopofkkaaDoor
open Go.RowKit Go.ChangeShapes Go.WideShapes Go.ChangeAt

theorem own : ownKnob Tryd.prog.godebug = none := by kernel_rfl
theorem laidOut : laidOutB Tryd.prog = true := by kernel_rfl
theorem looksOn : true = Tryd.pinned.checked.prog.looks [] := by kernel_rfl
theorem plainOf {f0 : FuncId} {fn0 : Func} {t : TypeId} {n : String} (hf0 : Tryd.prog.funcNamed n = some f0) (hfn0 : Tryd.prog.funcs[f0]? = some fn0) (hp : fn0.params = #[t]) (ht : Tryd.prog.wantsStandIn t = false) (f : FuncId) (fn : Func) (hf : Tryd.pinned.checked.prog.funcNamed n = some f) (hfn : Tryd.pinned.checked.prog.funcs[f]? = some fn) :
    true = Tryd.pinned.checked.prog.looks [] ∧ ∀ (j : Nat) t, fn.params[j]? = some t → Tryd.pinned.checked.prog.wantsStandIn t = false := by
  obtain rfl : f0 = f := Option.some.inj (hf0.symm.trans hf)
  obtain rfl : fn0 = fn := Option.some.inj (hfn0.symm.trans hfn)
  refine ⟨looksOn, fun j t' ht' => ?_⟩
  rw [hp] at ht'
  obtain rfl : t' = t := by simpa using Array.mem_of_getElem? ht'
  exact ht
noncomputable def laidWorld (os : Os) : World := World.doorLaid Tryd.prog 400 os
theorem laidWorld_vars (os : Os) (v : Value) : ((laidWorld os).forCall (fun _ _ => 0) ⟨#[], #[v], []⟩).variablesB Tryd.prog = true := by kernel_rfl
theorem laidWorld_rest (os : Os) (v : Value) : ((((laidWorld os).forCall (fun _ _ => 0) ⟨#[], #[v], []⟩).heap.toList.drop Tryd.prog.globals.size).take ((begin Tryd.prog (fun _ _ => 0) default).world.heap.size - Tryd.prog.globals.size) =
      (begin Tryd.prog (fun _ _ => 0) default).world.heap.toList.drop Tryd.prog.globals.size) := by kernel_rfl
end Go.Proofs.YtjhlelcopofkkaaDoor
