/- The card of the law WalCrashUpto: its walk, tied to its row. -/
import Derived.Test.YtjhlelcopofkkaaDoorTie
import Derived.Test.YtjhlelcopofkkaaDoorLay
import Derived.Test.YtjhlelcopofkkaaDoorWalCrashW
namespace Go.Proofs.YtjhlelcopofkkaaDoor.walCrashUptoP
open Go.RowKit Go.ChangeShapes Go.WideShapes Go.ChangeAt
set_option maxRecDepth 100000

theorem contract {H : Type} {enc : TypeId × Value → H} {W : World} {base : Nat} {v0 : Value} {d : DataW H} {p : List MemPlace} (ho : Value.okWide Tryd.prog W .any base 131 v0)
    (h : DataW.Trod enc Tryd.prog W 0 (fun _ => true) true 131 v0 d p) (hk : ∀ k, (Rows.OpenSpec.upto Rows.walCrashSpec).cond = some k → k H [d] = true) (hw : ∀ x ∈ DataW.weights Tryd.prog 131 d, x ≤ 140737488351232) (hL : laidMetH Tryd.prog Rows.walCrashUptoRow.laid W) :
    Calls Tryd.prog 19 #[v0] W (Ret fun r w' => r = .bool true ∧ Sat W w' 1) := by
  obtain ⟨v1, v2, v3, y1, y2, y3, n, rfl, rfl, _, h1, h2, h3⟩ := Joins.open_agg3 Tryd.underlying131 (by kernel_rfl) (by kernel_rfl) ho h
  obtain ⟨z2, hz2, _, _⟩ := DataW.trod_int Tryd.underlying3 h2
  have hwt : ∀ x ∈ DataW.weights Tryd.prog 129 y3.1, x ≤ 140737488351232 := fun x hx => hw x (by
    simp only [DataW.weights, Tryd.underlying131, List.map_cons, List.map_nil, DataW.weightsEach, List.mem_append]
    exact Or.inr (Or.inr (Or.inl hx)))
  obtain ⟨ao, ss, c, hcs, _, hrd, hn, hok, _⟩ := open_stps13 h3 hwt
  obtain rfl := (List.cons.inj hz2).1
  obtain rfl := (List.cons.inj hcs).1
  have hL' : laidMet Tryd.prog Rows.walCrashUptoRow.laid W := hL
  obtain ⟨E, hE⟩ := errs_of hL' (fun k h1 h2 => List.mem_of_getElem? (i := k - 1) (by
    obtain rfl | rfl | rfl | rfl | rfl | rfl | rfl | rfl | rfl | rfl | rfl | rfl | rfl : k = 1 ∨ k = 2 ∨ k = 3 ∨ k = 4 ∨ k = 5 ∨ k = 6 ∨ k = 7 ∨ k = 8 ∨ k = 9 ∨ k = 10 ∨ k = 11 ∨ k = 12 ∨ k = 13 := by omega
    all_goals rfl))
  have hT := crcTab_of hL' (List.mem_of_getElem? (i := 13) rfl)
  exact walk_walCrash hE hT v1 z2 ss ao c hrd hn hok

theorem laid_met (os : Os) : laidMetH Tryd.prog Rows.walCrashUptoRow.laid ((laidWorld os).forCall (fun _ _ => 0) ⟨#[], #[.agg #[.slice none 0 0, .int .i64 0, .slice none 0 0]], []⟩).memory :=
  laidMet_of_run' 8 (by kernel_rfl) (by kernel_rfl)
theorem reads (os : Os) {H : Type} (enc : TypeId × Value → H) : ∃ places, DataW.whole enc Tryd.prog ((laidWorld os).forCall (fun _ _ => 0) ⟨#[], #[.agg #[.slice none 0 0, .int .i64 0, .slice none 0 0]], []⟩).memory Tryd.f19.params.toList (Rows.OpenSpec.upto Rows.walCrashSpec).vars false #[.agg #[.slice none 0 0, .int .i64 0, .slice none 0 0]].toList 8 = some ([.agg [.nil, .lit (.int .i64 0), .nil]], [], places) :=
  ⟨[], by kernel_rfl⟩
theorem sized (os : Os) {H : Type} (enc : TypeId × Value → H) : (Rows.OpenSpec.upto Rows.walCrashSpec).bare.sizedB enc Tryd.prog Tryd.f19 false ((laidWorld os).forCall (fun _ _ => 0) ⟨#[], #[.agg #[.slice none 0 0, .int .i64 0, .slice none 0 0]], []⟩).memory #[.agg #[.slice none 0 0, .int .i64 0, .slice none 0 0]] 8 = true := by kernel_rfl
theorem metRow (os : Os) {H : Type} (enc : TypeId × Value → H) : (Rows.OpenSpec.upto Rows.walCrashSpec).preRow enc Tryd.prog Tryd.f19 [] false Rows.walCrashUptoRow.laid ((laidWorld os).forCall (fun _ _ => 0) ⟨#[], #[.agg #[.slice none 0 0, .int .i64 0, .slice none 0 0]], []⟩).memory #[.agg #[.slice none 0 0, .int .i64 0, .slice none 0 0]] := by
  obtain ⟨places, hx⟩ := reads os enc
  exact OpenSpec.preRow_of_cond 8 hx rfl (fun k hk => by cases hk; kernel_rfl) (sized os enc) (laid_met os)
theorem okay (os : Os) : Input.okWideB Tryd.prog ((laidWorld os).forCall (fun _ _ => 0) ⟨#[], #[.agg #[.slice none 0 0, .int .i64 0, .slice none 0 0]], []⟩) 19 ⟨#[], #[.agg #[.slice none 0 0, .int .i64 0, .slice none 0 0]], []⟩ = true := by kernel_rfl
theorem readable : Tryd.prog.readableRec 131 = true := by kernel_rfl
theorem noInit : Tryd.prog.inits.idxOf? 19 = none := by kernel_rfl
theorem rowed : 131 < Tryd.prog.types.size := of_decide_eq_true (by kernel_rfl)
theorem p_vars (os : Os) : ((laidWorld os).forCall (fun _ _ => 0) ⟨#[], #[.agg #[.slice none 0 0, .int .i64 0, .slice none 0 0]], []⟩).variablesB Tryd.checked.prog = true := laidWorld_vars os _
theorem p_rest (os : Os) : (((laidWorld os).forCall (fun _ _ => 0) ⟨#[], #[.agg #[.slice none 0 0, .int .i64 0, .slice none 0 0]], []⟩).heap.toList.drop Tryd.checked.prog.globals.size).take ((begin Tryd.checked.prog (fun _ _ => 0) default).world.heap.size - Tryd.checked.prog.globals.size) =
    (begin Tryd.checked.prog (fun _ _ => 0) default).world.heap.toList.drop Tryd.checked.prog.globals.size := laidWorld_rest os _
theorem p_out : laidOutB Tryd.checked.prog = true := laidOut
theorem p_row (os : Os) {H : Type} (enc : TypeId × Value → H) : (Rows.OpenSpec.upto Rows.walCrashSpec).preRow enc Tryd.checked.prog Tryd.f19 [] false Rows.walCrashUptoRow.laid ((laidWorld os).forCall (fun _ _ => 0) ⟨#[], #[.agg #[.slice none 0 0, .int .i64 0, .slice none 0 0]], []⟩).memory #[.agg #[.slice none 0 0, .int .i64 0, .slice none 0 0]] := metRow os enc
theorem p_ok (os : Os) : Input.okWideB Tryd.checked.prog ((laidWorld os).forCall (fun _ _ => 0) ⟨#[], #[.agg #[.slice none 0 0, .int .i64 0, .slice none 0 0]], []⟩) 19 ⟨#[], #[.agg #[.slice none 0 0, .int .i64 0, .slice none 0 0]], []⟩ = true := okay os
theorem p_init : Tryd.checked.prog.inits.idxOf? 19 = none := noInit
theorem p_rowed : 131 < Tryd.checked.prog.types.size := rowed
theorem p_own : ownKnob Tryd.checked.prog.godebug = none := own
theorem lifted0 (os : Os) (started : os.Started) (H : Type) (enc : TypeId × Value → H) (F : Stop.Interp) :
    ReturnsInHanded {} Tryd.checked os 19 .any ((Rows.OpenSpec.upto Rows.walCrashSpec).preRow enc Tryd.checked.prog Tryd.f19 [] false Rows.walCrashUptoRow.laid) (((Rows.OpenSpec.upto Rows.walCrashSpec).at F).post enc Tryd.checked.prog Tryd.f19 false true false false) :=
  law_lift (C := Tryd.checked) (s := (Rows.OpenSpec.upto Rows.walCrashSpec)) (t := 131) (tb := 4) H enc p_own started p_init Tryd.func19 p_out readable p_rowed rfl rfl Tryd.underlying4 rfl (fun _ => rfl)
    (laidWorld os) rfl (p_vars os) (p_rest os) (p_ok os) (p_row os enc) (fun _ _ _ _ _ ho h hk hw hL => contract ho h hk hw hL)
theorem lifted (os : Os) (started : os.Started) (H : Type) (enc : TypeId × Value → H) (F : Stop.Interp) :
    ReturnsInHanded {} Tryd.checked os 19 .any ((Rows.OpenSpec.upto Rows.walCrashSpec).preRow enc Tryd.prog Tryd.f19 Rows.walCrashUptoRow.domain false Rows.walCrashUptoRow.laid) (((Rows.OpenSpec.upto Rows.walCrashSpec).at F).post enc Tryd.prog Tryd.f19 false true false false) := lifted0 os started H enc F

theorem said : Rows.WalCrashUptoSaid :=
  OpenClaim.holds_of_cond 19 Tryd.f19 rfl rfl rfl rfl rfl rfl rfl ⟨rfl, rfl, rfl, rfl, rfl⟩ rfl rfl rfl rfl rfl (by kernel_rfl) Tryd.func19 (by kernel_rfl)
    (of_decide_eq_true (by kernel_rfl)) (by unfold Func.isWrapper; first | (rw [if_pos (by decide +kernel)]; kernel_rfl) | (rw [if_neg (by decide +kernel)]; exact ⟨rfl, rfl⟩))
    (fun os started H enc _ F => by rw [OpenClaim.pre_eq_preRow]; exact lifted os started H enc F)

theorem named : Tryd.prog.funcNamed "usher/usherlaw13.WalCrash" = some 19 := by kernel_rfl
theorem noStand : Tryd.prog.wantsStandIn 131 = false := by kernel_rfl
theorem c_wf : Rows.walCrashUptoRow.wfByText (Rows.OpenSpec.upto Rows.walCrashSpec) = true := by kernel_rfl
theorem c_plain : ∀ f fn, Tryd.pinned.checked.prog.funcNamed Rows.walCrashUptoRow.func = some f → Tryd.pinned.checked.prog.funcs[f]? = some fn →
    true = Tryd.pinned.checked.prog.looks [] ∧ ∀ (j : Nat) t, fn.params[j]? = some t → Tryd.pinned.checked.prog.wantsStandIn t = false := plainOf named Tryd.func19 rfl noStand
theorem c_main : Tryd.pinned.checked.prog.mainIs = some (Rows.walCrashUptoCard.stood.harness.1, Rows.walCrashUptoCard.stood.harness.2.toList) := by kernel_rfl
theorem c_goes : false = Rows.walCrashUptoRow.goesBy Tryd.pinned.checked.prog := by kernel_rfl
/-- THE CARD. -/
theorem card : Rows.WalCrashUptoCardSaid :=
  Claim7.holds_tied_plain_at .later [] _ _ _ _ said (fun _ h => by cases h) c_wf (fun _ h => by cases h) walCrashUpto_row_tie rfl ⟨rfl, rfl⟩ c_main rfl c_plain c_goes
#print axioms card
end Go.Proofs.YtjhlelcopofkkaaDoor.walCrashUptoP
