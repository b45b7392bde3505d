/- One operation of a round's body of a range over a function, by a law for the same operation elsewhere. -/
import Derived.RangeFuncNested
import Derived.RangeFuncBound
import Derived.RangeFuncCalls
import Derived.RangeFuncLeaves
import Derived.Shelf.Abstract
import Derived.Shelf.RegionOpen
import Derived.WalkKit
import Derived.OwnWalkIn
import Derived.TacticsInMore
import Derived.LoopNIn
import Derived.LoopIn
import Derived.Test.YtjhlelcopofkkaaDoorFrames
namespace Go.Proofs.YtjhlelcopofkkaaDoor
open Go.RowKit
/-- One operation of a round's body, by a law for the same operation elsewhere. -/
theorem wpListIn_of_one {P : Program} {ops : Array Oper} {rest : List Oper} {o : Oper} {a : Act} {w : World} {Q : Exit → Act → World → Prop} {l n : Nat} (hnd : ∀ c, o.op ≠ .defer c)
    (h : wpList P ops (fun e a' w' => e = .normal ∧ wpListIn (Fence.wide.inRound l) n P ops Q rest a' w') [o] a w) : wpListIn (Fence.wide.inRound l) n P ops Q (o :: rest) a w := by
  unfold wpList at h
  unfold wpListIn
  by_cases hw : Region.wanted o (yielded ops a.tmps)
  · rw [if_pos hw] at h ⊢
    rcases h with h | ⟨_, a0, w0, h, _⟩
    · refine ⟨fun _ _ => trivial, ?_⟩
      have hsem : o.semAt (Fence.wide.inRound l).round a.eval = execOp a.eval o := Oper.semAt_some l _ o hnd
      rw [hsem]
      unfold Oper.wp at h
      generalize (execOp a.eval o).run P w = r at h ⊢
      cases r with
      | ok nx w' =>
        cases nx with
        | value v => exact h.2
        | skip => exact h.2
        | defer d => exact h.2
        | enter f args =>
          refine ⟨(fun e => by cases e), ?_⟩
          refine (CallsIn.inRound l (callsIn_wide.2 h)).mono ?_
          intro e w2 he
          cases e with
          | returned v => exact he.2
          | panicked c => exact absurd he.1 (by simp)
          | outgrown => obtain ⟨a0, w0, h0, _⟩ := he; cases h0
        | row row args =>
          refine ⟨(fun e => by cases e), fun c cs _ => ?_⟩
          obtain ⟨v, w2, hv, hs⟩ := h c cs
          exact ⟨v, w2, hv.2, stepsIn_wide.2 hs⟩
        | _ => exact h.elim
      | halt hh w' =>
        cases hh with
        | panic v => exact absurd h.1 (by simp)
        | _ => exact h.elim
    · cases h
  · rw [if_neg hw] at h ⊢
    exact ⟨fun _ _ => trivial, h.2⟩
/-- .. and of a fenced walk that fences nothing. -/
theorem wpListIn_of_one' {P : Program} {ops : Array Oper} {rest : List Oper} {o : Oper} {a : Act} {w : World} {Q : Exit → Act → World → Prop} {n : Nat}
    (h : wpList P ops (fun e a' w' => e = .normal ∧ wpListIn Fence.wide n P ops Q rest a' w') [o] a w) : wpListIn Fence.wide n P ops Q (o :: rest) a w := by
  unfold wpList at h
  unfold wpListIn
  by_cases hw : Region.wanted o (yielded ops a.tmps)
  · rw [if_pos hw] at h ⊢
    rcases h with h | ⟨_, a0, w0, h, _⟩
    · refine ⟨fun _ _ => trivial, ?_⟩
      have hsem : o.semAt Fence.wide.round a.eval = execOp a.eval o := rfl
      rw [hsem]
      unfold Oper.wp at h
      generalize (execOp a.eval o).run P w = r at h ⊢
      cases r with
      | ok nx w' =>
        cases nx with
        | value v => exact h.2
        | skip => exact h.2
        | defer d => exact h.2
        | enter f args =>
          refine ⟨(fun e => by cases e), ?_⟩
          refine (callsIn_wide.2 h).mono ?_
          intro e w2 he
          cases e with
          | returned v => exact he.2
          | panicked c => exact absurd he.1 (by simp)
          | outgrown => obtain ⟨a0, w0, h0, _⟩ := he; cases h0
        | row row args =>
          refine ⟨(fun e => by cases e), fun c cs _ => ?_⟩
          obtain ⟨v, w2, hv, hs⟩ := h c cs
          exact ⟨v, w2, hv.2, stepsIn_wide.2 hs⟩
        | _ => exact h.elim
      | halt hh w' =>
        cases hh with
        | panic v => exact absurd h.1 (by simp)
        | _ => exact h.elim
    · cases h
  · rw [if_neg hw] at h ⊢
    exact ⟨fun _ _ => trivial, h.2⟩
theorem Sat.putObj {w0 w : World} {F : HP} {b : Nat} {o : Obj} (hs : Sat w0 w (F * obj b o)) (o' : Obj) : Sat w0 (w.putObj b o') (F * obj b o') := by
  have hb := hs.obj_heap
  have hlt := (Array.getElem?_eq_some_iff.1 hb.2).1
  refine Sat.obj_put hs ?_ (World.putObj_heap_same hlt) (fun k _ hk => World.putObj_heap_other hk)
  exact hs.below.trans ⟨rfl, rfl, rfl, by simp, fun k hk => World.putObj_heap_other (by have := hb.1; omega)⟩

/-- The record of a loop, in a state. -/
def recOf (fn : FuncId) (tmps : Array Value) (ps : Array Tmp) (assign body : Code) (D : Nat) (st : LoopState) (pe : Option Code) : Loop :=
  { state := st, pending := pe, fn := fn, tmps := tmps, params := ps, assign := assign, body := body, defers := D }
/-- A RANGE OVER A FUNCTION WHOSE BODY NEVER LEAVES IT, at an outermost loop. -/
theorem wpIn_range {P : Program} {g : Operand} {ps : Array Tmp} {assign body : Code} {Q : Exit → Act → World → Prop} {a : Act} {w : World} {n : Nat} {gf : FuncId} {lb : Array Value}
    (hg : a.eval g = .func (.func gf) #[] lb) (eg : ∀ args w, (callFunc gf args).run P w = .ok (.enter gf args) w)
    (h : ∀ fn rec, rec = recOf fn a.tmps ps assign body w.heap.size → CallsIn Fence.wide (n - 1) P gf (#[.func (.yield (w.heap.size + 1)) #[] #[]] ++ lb) ((w.alloc (.deferred (some []))).alloc (.loop (rec .ready none)))
      (fun e w3 => (∃ v, e = .returned v) ∧ w3.heap[w.heap.size + 1]? = some (.loop (rec .ready none)) ∧
        Q .normal { a with defers := { target := .collected w.heap.size, args := #[] } :: a.defers } (w3.putObj (w.heap.size + 1) (.loop (rec .exhausted none))))) :
    (Code.rangeFunc g ps assign body).wpIn Fence.wide n P Q a w := by
  refine wpIn_rangeFunc ?_
  intro fn _
  have h1 : (Instr.enterLoop fn a.tmps ps assign body Fence.wide.round).run P w = .ok (w.heap.size + 1, [{ target := .collected w.heap.size, args := #[] }]) ((w.alloc (.deferred (some []))).alloc (.loop (recOf fn a.tmps ps assign body w.heap.size .ready none))) := run_enterLoop_outer _ _ _ _ _
  generalize hW : (w.alloc (.deferred (some []))).alloc (.loop (recOf fn a.tmps ps assign body w.heap.size .ready none)) = W1 at h1
  have h2 : (resolve a.eval (rangeCall g (w.heap.size + 1)) 0).run P W1 = .ok { target := .fn (.func gf) lb, args := #[.func (.yield (w.heap.size + 1)) #[] #[]] } W1 := by
    simp only [resolve, hg]
    simp [go_sem]
  have h3 : (invoke (.fn (.func gf) lb) #[.func (.yield (w.heap.size + 1)) #[] #[]]).run P W1 = .ok (.enter gf (#[.func (.yield (w.heap.size + 1)) #[] #[]] ++ lb)) W1 := by
    simp [invoke, go_sem, eg]
  refine ⟨_, _, _, _, _, _, _, _, h1, h2, fun _ _ => trivial, h3, fun e => (by cases e), ?_⟩
  have h4 := h fn _ rfl
  rw [hW] at h4
  refine h4.mono ?_
  rintro e w3 ⟨⟨v, rfl⟩, hl, hq⟩
  have hend : (Instr.endLoop (w.heap.size + 1)).run P w3 = .ok none (w3.putObj (w.heap.size + 1) (.loop (recOf fn a.tmps ps assign body w.heap.size .exhausted none))) := run_endLoop hl (by simp [recOf])
  exact ⟨none, _, hend, hq⟩
/-- One round. -/
theorem yield_round {P : Program} {ps : Array Tmp} {assign body : Code} {tmps : Array Value} {fn : FuncId} {D l m : Nat} {W : World} {args : Array Value} {R : Ending → World → Prop}
    (hl : W.heap[l]? = some (.loop (recOf fn tmps ps assign body D .ready none))) (hs : args.size = ps.size)
    (h : assign.wpIn (Fence.wide.inRound l) m P (Exit.then (fun a₁ w₁ => w₁.heap[l]? = some (.loop (recOf fn tmps ps assign body D .ready none)) ∧
      body.wpIn (Fence.wide.inRound l) m P (fun e _ w2 => e = .normal ∧ w2.heap[l]? = some (.loop (recOf fn tmps ps assign body D .busy none)) ∧ R (.returned (.bool true)) (w2.putObj l (.loop (recOf fn tmps ps assign body D .ready none)))) a₁
        (w₁.putObj l (.loop (recOf fn tmps ps assign body D .busy none)))) (fun _ _ _ => False)) { tmps := (ps.zip args).foldl (fun tmps (t, a) => tmps.setIfInBounds t a) tmps, defers := [] } W) :
    YieldAt Fence.wide m P l args W R := by
  refine ⟨fn, _, assign, body, run_yield hl hs, roundIn_of_wpIn trivial (wpIn_mono h ?_)⟩
  intro e a1 w1 hp
  cases e with
  | normal =>
    obtain ⟨hl1, hb⟩ := hp
    refine ⟨_, run_beginRound hl1 rfl, wpIn_mono hb ?_⟩
    rintro e a2 w2 ⟨rfl, hl2, hR⟩
    exact ⟨_, _, run_endRound none hl2, hR⟩
  | _ => exact hp.elim

theorem gate_opIn {F : Fence} {n : Nat} {P : Program} {ops : Array Oper} {rest : List Oper} {o : Oper} {a : Act} {w : World} {Q : Exit → Act → World → Prop} (X : Op) (_h : o.op = X) (g : wpListIn F n P ops Q (o :: rest) a w) : wpListIn F n P ops Q (o :: rest) a w := g
end Go.Proofs.YtjhlelcopofkkaaDoor
