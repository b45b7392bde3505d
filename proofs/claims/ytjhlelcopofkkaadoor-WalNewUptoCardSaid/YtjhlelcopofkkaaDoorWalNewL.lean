/- The card of the law WalNewUpto: its walk, tied to its row. -/
import Derived.Test.YtjhlelcopofkkaaDoorTie
import Derived.Test.YtjhlelcopofkkaaDoorLay
import Derived.Test.YtjhlelcopofkkaaDoorWalNewW
namespace Go.Proofs.YtjhlelcopofkkaaDoor.walNewUptoP
open Go.RowKit Go.ChangeShapes Go.WideShapes Go.ChangeAt
set_option maxRecDepth 100000

theorem contract {H : Type} {enc : TypeId × Value → H} {W : World} {base : Nat} {v0 : Value} {d : DataW H} {p : List MemPlace} (ho : Value.okWide Tryd.prog W .any base 22 v0)
    (h : DataW.Trod enc Tryd.prog W 0 (fun _ => true) true 22 v0 d p) (hk : ∀ k, (Rows.OpenSpec.upto Rows.walNewSpec).cond = some k → k H [d] = true) (hw : ∀ x ∈ DataW.weights Tryd.prog 22 d, x ≤ 140737488351232) (hL : laidMetH Tryd.prog Rows.walNewUptoRow.laid W) :
    Calls Tryd.prog 16 #[v0] W (Ret fun r w' => r = .bool true ∧ Sat W w' 1) := by
  obtain ⟨a0, len, cap, rfl⟩ := okWide_slice Tryd.underlying22 ho
  have hk1 := bulk_one (hk _ rfl)
  obtain ⟨fuel, hf⟩ := h
  obtain ⟨ao, xs, ds, sp, c, hcs, hrd, hn, hlc, hno, hd, hdl⟩ := open_bytes Tryd.underlying22 Tryd.underlying5 (by kernel_rfl) (by kernel_rfl) hf hw
  have e : Value.slice a0 len cap = .slice ao xs.length c := by simpa [Value.cells] using hcs
  rw [e]
  have hsm : xs.length ≤ 1048576 := by
    rcases hd with ⟨_, e⟩ | e
    · rw [← hdl, e]
      simp
    · have := bulk_slice ds sp
      rw [← e] at this
      omega
  have hL' : laidMet Tryd.prog Rows.walNewUptoRow.laid W := hL
  obtain ⟨a1, ha1⟩ := err_seen hL' 1 (by omega) (by omega) (List.mem_of_getElem? (i := 0) rfl)
  obtain ⟨a10, ha10⟩ := err_seen hL' 10 (by omega) (by omega) (List.mem_of_getElem? (i := 1) rfl)
  have hT := crcTab_of hL' (List.mem_of_getElem? (i := 2) rfl)
  exact walk_walNew (E := fun k => if k = 1 then a1 else a10) ha1.cell ha10.cell hT xs ao c hrd hlc hsm

theorem laid_met (os : Os) : laidMetH Tryd.prog Rows.walNewUptoRow.laid ((laidWorld os).forCall (fun _ _ => 0) ⟨#[], #[.slice none 0 0], []⟩).memory :=
  laidMet_of_run' 8 (by kernel_rfl) (by kernel_rfl)
theorem reads (os : Os) {H : Type} (enc : TypeId × Value → H) : ∃ places, DataW.whole enc Tryd.prog ((laidWorld os).forCall (fun _ _ => 0) ⟨#[], #[.slice none 0 0], []⟩).memory Tryd.f16.params.toList (Rows.OpenSpec.upto Rows.walNewSpec).vars false #[.slice none 0 0].toList 8 = some ([.nil], [], places) :=
  ⟨[], by kernel_rfl⟩
theorem sized (os : Os) {H : Type} (enc : TypeId × Value → H) : (Rows.OpenSpec.upto Rows.walNewSpec).bare.sizedB enc Tryd.prog Tryd.f16 false ((laidWorld os).forCall (fun _ _ => 0) ⟨#[], #[.slice none 0 0], []⟩).memory #[.slice none 0 0] 8 = true := by kernel_rfl
theorem metRow (os : Os) {H : Type} (enc : TypeId × Value → H) : (Rows.OpenSpec.upto Rows.walNewSpec).preRow enc Tryd.prog Tryd.f16 [] false Rows.walNewUptoRow.laid ((laidWorld os).forCall (fun _ _ => 0) ⟨#[], #[.slice none 0 0], []⟩).memory #[.slice none 0 0] := by
  obtain ⟨places, hx⟩ := reads os enc
  exact OpenSpec.preRow_of_cond 8 hx rfl (fun k hk => by cases hk; kernel_rfl) (sized os enc) (laid_met os)
theorem okay (os : Os) : Input.okWideB Tryd.prog ((laidWorld os).forCall (fun _ _ => 0) ⟨#[], #[.slice none 0 0], []⟩) 16 ⟨#[], #[.slice none 0 0], []⟩ = true := by kernel_rfl
theorem readable : Tryd.prog.readableRec 22 = true := by kernel_rfl
theorem noInit : Tryd.prog.inits.idxOf? 16 = none := by kernel_rfl
theorem rowed : 22 < Tryd.prog.types.size := of_decide_eq_true (by kernel_rfl)
theorem p_vars (os : Os) : ((laidWorld os).forCall (fun _ _ => 0) ⟨#[], #[.slice none 0 0], []⟩).variablesB Tryd.checked.prog = true := laidWorld_vars os _
theorem p_rest (os : Os) : (((laidWorld os).forCall (fun _ _ => 0) ⟨#[], #[.slice none 0 0], []⟩).heap.toList.drop Tryd.checked.prog.globals.size).take ((begin Tryd.checked.prog (fun _ _ => 0) default).world.heap.size - Tryd.checked.prog.globals.size) =
    (begin Tryd.checked.prog (fun _ _ => 0) default).world.heap.toList.drop Tryd.checked.prog.globals.size := laidWorld_rest os _
theorem p_out : laidOutB Tryd.checked.prog = true := laidOut
theorem p_row (os : Os) {H : Type} (enc : TypeId × Value → H) : (Rows.OpenSpec.upto Rows.walNewSpec).preRow enc Tryd.checked.prog Tryd.f16 [] false Rows.walNewUptoRow.laid ((laidWorld os).forCall (fun _ _ => 0) ⟨#[], #[.slice none 0 0], []⟩).memory #[.slice none 0 0] := metRow os enc
theorem p_ok (os : Os) : Input.okWideB Tryd.checked.prog ((laidWorld os).forCall (fun _ _ => 0) ⟨#[], #[.slice none 0 0], []⟩) 16 ⟨#[], #[.slice none 0 0], []⟩ = true := okay os
theorem p_init : Tryd.checked.prog.inits.idxOf? 16 = none := noInit
theorem p_rowed : 22 < Tryd.checked.prog.types.size := rowed
theorem p_own : ownKnob Tryd.checked.prog.godebug = none := own
theorem lifted0 (os : Os) (started : os.Started) (H : Type) (enc : TypeId × Value → H) (F : Stop.Interp) :
    ReturnsInHanded {} Tryd.checked os 16 .any ((Rows.OpenSpec.upto Rows.walNewSpec).preRow enc Tryd.checked.prog Tryd.f16 [] false Rows.walNewUptoRow.laid) (((Rows.OpenSpec.upto Rows.walNewSpec).at F).post enc Tryd.checked.prog Tryd.f16 false true false false) :=
  law_lift (C := Tryd.checked) (s := (Rows.OpenSpec.upto Rows.walNewSpec)) (t := 22) (tb := 4) H enc p_own started p_init Tryd.func16 p_out readable p_rowed rfl rfl Tryd.underlying4 rfl (fun _ => rfl)
    (laidWorld os) rfl (p_vars os) (p_rest os) (p_ok os) (p_row os enc) (fun _ _ _ _ _ ho h hk hw hL => contract ho h hk hw hL)
theorem lifted (os : Os) (started : os.Started) (H : Type) (enc : TypeId × Value → H) (F : Stop.Interp) :
    ReturnsInHanded {} Tryd.checked os 16 .any ((Rows.OpenSpec.upto Rows.walNewSpec).preRow enc Tryd.prog Tryd.f16 Rows.walNewUptoRow.domain false Rows.walNewUptoRow.laid) (((Rows.OpenSpec.upto Rows.walNewSpec).at F).post enc Tryd.prog Tryd.f16 false true false false) := lifted0 os started H enc F

theorem said : Rows.WalNewUptoSaid :=
  OpenClaim.holds_of_cond 16 Tryd.f16 rfl rfl rfl rfl rfl rfl rfl ⟨rfl, rfl, rfl, rfl, rfl⟩ rfl rfl rfl rfl rfl (by kernel_rfl) Tryd.func16 (by kernel_rfl)
    (of_decide_eq_true (by kernel_rfl)) (by unfold Func.isWrapper; first | (rw [if_pos (by decide +kernel)]; kernel_rfl) | (rw [if_neg (by decide +kernel)]; exact ⟨rfl, rfl⟩))
    (fun os started H enc _ F => by rw [OpenClaim.pre_eq_preRow]; exact lifted os started H enc F)

theorem named : Tryd.prog.funcNamed "usher/usherlaw13.WalNew" = some 16 := by kernel_rfl
theorem noStand : Tryd.prog.wantsStandIn 22 = false := by kernel_rfl
theorem c_wf : Rows.walNewUptoRow.wfByText (Rows.OpenSpec.upto Rows.walNewSpec) = true := by kernel_rfl
theorem c_plain : ∀ f fn, Tryd.pinned.checked.prog.funcNamed Rows.walNewUptoRow.func = some f → Tryd.pinned.checked.prog.funcs[f]? = some fn →
    true = Tryd.pinned.checked.prog.looks [] ∧ ∀ (j : Nat) t, fn.params[j]? = some t → Tryd.pinned.checked.prog.wantsStandIn t = false := plainOf named Tryd.func16 rfl noStand
theorem c_main : Tryd.pinned.checked.prog.mainIs = some (Rows.walNewUptoCard.stood.harness.1, Rows.walNewUptoCard.stood.harness.2.toList) := by kernel_rfl
theorem c_goes : false = Rows.walNewUptoRow.goesBy Tryd.pinned.checked.prog := by kernel_rfl
/-- THE CARD. -/
theorem card : Rows.WalNewUptoCardSaid :=
  Claim7.holds_tied_plain_at .later [] _ _ _ _ said (fun _ h => by cases h) c_wf (fun _ h => by cases h) walNewUpto_row_tie rfl ⟨rfl, rfl⟩ c_main rfl c_plain c_goes
#print axioms card
end Go.Proofs.YtjhlelcopofkkaaDoor.walNewUptoP
