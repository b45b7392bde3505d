/- The card of the law WalFrame: its walk, tied to its row. -/
import Derived.Test.YtjhlelcopofkkaaDoorTie
import Derived.Test.YtjhlelcopofkkaaDoorLawC
import Derived.Test.YtjhlelcopofkkaaDoorWalFrameW
namespace Go.Proofs.YtjhlelcopofkkaaDoor.walFrameP
open Go.RowKit Go.ChangeShapes Go.WideShapes Go.ChangeAt
set_option maxRecDepth 100000

theorem contract {H : Type} {enc : TypeId × Value → H} {W : World} {base : Nat} {v0 : Value} {d : DataW H} {p : List MemPlace} (ho : Value.okWide Tryd.prog W .any base 22 v0)
    (h : DataW.Trod enc Tryd.prog W 0 (fun _ => true) true 22 v0 d p) (_hk : ∀ k, (OpenSpec.ofChange Rows.walFrameSpec).cond = some k → k H [d] = true) (hw : ∀ x ∈ DataW.weights Tryd.prog 22 d, x ≤ 140737488351232) (hL : laidMetH Tryd.prog Rows.walFrameRow.laid W) :
    Calls Tryd.prog 3 #[v0] W (Ret fun r w' => r = .bool true ∧ Sat W w' 1) := by
  obtain ⟨a0, len, cap, rfl⟩ := okWide_slice Tryd.underlying22 ho
  obtain ⟨fuel, hf⟩ := h
  obtain ⟨ao, xs, ds, sp, c, hcs, hrd, hn, hlc, hno, _, _⟩ := open_bytes Tryd.underlying22 Tryd.underlying5 (by kernel_rfl) (by kernel_rfl) hf hw
  have e : Value.slice a0 len cap = .slice ao xs.length c := by simpa [Value.cells] using hcs
  rw [e]
  have hL' : laidMet Tryd.prog Rows.walFrameRow.laid W := hL
  have hT := crcTab_of hL' (List.mem_of_getElem? (i := 13) rfl)
  obtain ⟨E, hE⟩ := errs_of hL' (fun k h1 h2 => List.mem_of_getElem? (i := k - 1) (by
    obtain rfl | rfl | rfl | rfl | rfl | rfl | rfl | rfl | rfl | rfl | rfl | rfl | rfl : k = 1 ∨ k = 2 ∨ k = 3 ∨ k = 4 ∨ k = 5 ∨ k = 6 ∨ k = 7 ∨ k = 8 ∨ k = 9 ∨ k = 10 ∨ k = 11 ∨ k = 12 ∨ k = 13 := by omega
    all_goals rfl))
  by_cases hx : 1 ≤ xs.length ∧ xs.length ≤ 8192
  · exact walk_walFrame_ok hT hE xs ao c hrd hx.1 hx.2
  · exact walk_walFrame_no hE xs ao c hrd hx hn

theorem laid_met (os : Os) : laidMetH Tryd.prog Rows.walFrameRow.laid ((laidWorld os).forCall (fun _ _ => 0) ⟨#[], #[.slice none 0 0], []⟩).memory :=
  laidMet_of_run' 8 (by kernel_rfl) (by kernel_rfl)
theorem reads (os : Os) {H : Type} (enc : TypeId × Value → H) : ∃ places, DataW.whole enc Tryd.prog ((laidWorld os).forCall (fun _ _ => 0) ⟨#[], #[.slice none 0 0], []⟩).memory Tryd.f3.params.toList (OpenSpec.ofChange Rows.walFrameSpec).vars false #[.slice none 0 0].toList 8 = some ([.nil], [], places) :=
  ⟨[], by kernel_rfl⟩
theorem sized (os : Os) {H : Type} (enc : TypeId × Value → H) : (OpenSpec.ofChange Rows.walFrameSpec).bare.sizedB enc Tryd.prog Tryd.f3 false ((laidWorld os).forCall (fun _ _ => 0) ⟨#[], #[.slice none 0 0], []⟩).memory #[.slice none 0 0] 8 = true := by kernel_rfl
theorem metRow (os : Os) {H : Type} (enc : TypeId × Value → H) : (OpenSpec.ofChange Rows.walFrameSpec).preRow enc Tryd.prog Tryd.f3 [] false Rows.walFrameRow.laid ((laidWorld os).forCall (fun _ _ => 0) ⟨#[], #[.slice none 0 0], []⟩).memory #[.slice none 0 0] := by
  obtain ⟨places, hx⟩ := reads os enc
  exact OpenSpec.preRow_of_cond 8 hx rfl (fun k hk => by cases hk) (sized os enc) (laid_met os)
theorem okay (os : Os) : Input.okWideB Tryd.prog ((laidWorld os).forCall (fun _ _ => 0) ⟨#[], #[.slice none 0 0], []⟩) 3 ⟨#[], #[.slice none 0 0], []⟩ = true := by kernel_rfl
theorem readable : Tryd.prog.readableRec 22 = true := by kernel_rfl
theorem noInit : Tryd.prog.inits.idxOf? 3 = none := by kernel_rfl
theorem rowed : 22 < Tryd.prog.types.size := of_decide_eq_true (by kernel_rfl)
theorem p_vars (os : Os) : ((laidWorld os).forCall (fun _ _ => 0) ⟨#[], #[.slice none 0 0], []⟩).variablesB Tryd.checked.prog = true := laidWorld_vars os _
theorem p_rest (os : Os) : (((laidWorld os).forCall (fun _ _ => 0) ⟨#[], #[.slice none 0 0], []⟩).heap.toList.drop Tryd.checked.prog.globals.size).take ((begin Tryd.checked.prog (fun _ _ => 0) default).world.heap.size - Tryd.checked.prog.globals.size) =
    (begin Tryd.checked.prog (fun _ _ => 0) default).world.heap.toList.drop Tryd.checked.prog.globals.size := laidWorld_rest os _
theorem p_out : laidOutB Tryd.checked.prog = true := laidOut
theorem p_row (os : Os) {H : Type} (enc : TypeId × Value → H) : (OpenSpec.ofChange Rows.walFrameSpec).preRow enc Tryd.checked.prog Tryd.f3 [] false Rows.walFrameRow.laid ((laidWorld os).forCall (fun _ _ => 0) ⟨#[], #[.slice none 0 0], []⟩).memory #[.slice none 0 0] := metRow os enc
theorem p_ok (os : Os) : Input.okWideB Tryd.checked.prog ((laidWorld os).forCall (fun _ _ => 0) ⟨#[], #[.slice none 0 0], []⟩) 3 ⟨#[], #[.slice none 0 0], []⟩ = true := okay os
theorem p_init : Tryd.checked.prog.inits.idxOf? 3 = none := noInit
theorem p_rowed : 22 < Tryd.checked.prog.types.size := rowed
theorem p_own : ownKnob Tryd.checked.prog.godebug = none := own
theorem lifted0 (os : Os) (started : os.Started) (H : Type) (enc : TypeId × Value → H) (F : Stop.Interp) :
    ReturnsInHanded {} Tryd.checked os 3 .any ((OpenSpec.ofChange Rows.walFrameSpec).preRow enc Tryd.checked.prog Tryd.f3 [] false Rows.walFrameRow.laid) (((OpenSpec.ofChange Rows.walFrameSpec).at F).post enc Tryd.checked.prog Tryd.f3 false true false false) :=
  law_lift (C := Tryd.checked) (s := (OpenSpec.ofChange Rows.walFrameSpec)) (t := 22) (tb := 4) H enc p_own started p_init Tryd.func3 p_out readable p_rowed rfl rfl Tryd.underlying4 rfl (fun _ => rfl)
    (laidWorld os) rfl (p_vars os) (p_rest os) (p_ok os) (p_row os enc) (fun _ _ _ _ _ ho h hk hw hL => contract ho h hk hw hL)
theorem lifted (os : Os) (started : os.Started) (H : Type) (enc : TypeId × Value → H) (F : Stop.Interp) :
    ReturnsInHanded {} Tryd.checked os 3 .any ((OpenSpec.ofChange Rows.walFrameSpec).preRow enc Tryd.prog Tryd.f3 Rows.walFrameRow.domain false Rows.walFrameRow.laid) (((OpenSpec.ofChange Rows.walFrameSpec).at F).post enc Tryd.prog Tryd.f3 false true false false) := lifted0 os started H enc F

theorem said : Rows.WalFrameSaid :=
  OpenClaim.holds_of_cond 3 Tryd.f3 rfl rfl rfl rfl rfl rfl rfl ⟨rfl, rfl, rfl, rfl, rfl⟩ rfl rfl rfl rfl rfl (by kernel_rfl) Tryd.func3 (by kernel_rfl)
    (of_decide_eq_true (by kernel_rfl)) (by unfold Func.isWrapper; first | (rw [if_pos (by decide +kernel)]; kernel_rfl) | (rw [if_neg (by decide +kernel)]; exact ⟨rfl, rfl⟩))
    (fun os started H enc _ F => by rw [OpenClaim.pre_eq_preRow]; exact lifted os started H enc F)

theorem named : Tryd.prog.funcNamed "usher/usherlaw13.WalFrame" = some 3 := by kernel_rfl
theorem noStand : Tryd.prog.wantsStandIn 22 = false := by kernel_rfl
theorem c_wf : Rows.walFrameRow.wfByText (OpenSpec.ofChange Rows.walFrameSpec) = true := by kernel_rfl
theorem c_plain : ∀ f fn, Tryd.pinned.checked.prog.funcNamed Rows.walFrameRow.func = some f → Tryd.pinned.checked.prog.funcs[f]? = some fn →
    true = Tryd.pinned.checked.prog.looks [] ∧ ∀ (j : Nat) t, fn.params[j]? = some t → Tryd.pinned.checked.prog.wantsStandIn t = false := plainOf named Tryd.func3 rfl noStand
theorem c_main : Tryd.pinned.checked.prog.mainIs = some (Rows.walFrameCard.stood.harness.1, Rows.walFrameCard.stood.harness.2.toList) := by kernel_rfl
theorem c_goes : false = Rows.walFrameRow.goesBy Tryd.pinned.checked.prog := by kernel_rfl
/-- THE CARD. -/
theorem card : Rows.WalFrameCardSaid :=
  Claim7.holds_tied_plain_at .later [] _ _ _ _ said (fun _ h => by cases h) c_wf (fun _ h => by cases h) walFrame_row_tie rfl ⟨rfl, rfl⟩ c_main rfl c_plain c_goes
#print axioms card
end Go.Proofs.YtjhlelcopofkkaaDoor.walFrameP
