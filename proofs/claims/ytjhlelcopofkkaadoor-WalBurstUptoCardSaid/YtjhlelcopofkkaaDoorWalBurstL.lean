/- The card of the law WalBurstUpto: its walk, tied to its row. -/
import Derived.Test.YtjhlelcopofkkaaDoorTie
import Derived.Test.YtjhlelcopofkkaaDoorLawC
import Derived.Test.YtjhlelcopofkkaaDoorWalBurstW
import Derived.Test.YtjhlelcopofkkaaDoorOpenL
namespace Go.Proofs.YtjhlelcopofkkaaDoor.walBurstUptoP
open Go.RowKit Go.ChangeShapes Go.WideShapes Go.ChangeAt
set_option maxRecDepth 100000

theorem contract {H : Type} {enc : TypeId × Value → H} {W : World} {base : Nat} {v0 : Value} {d : DataW H} {p : List MemPlace} (ho : Value.okWide Tryd.prog W .any base 67 v0)
    (h : DataW.Trod enc Tryd.prog W 0 (fun _ => true) true 67 v0 d p) (hk : ∀ k, (Rows.OpenSpec.upto Rows.walBurstSpec).cond = some k → k H [d] = true) (hw : ∀ x ∈ DataW.weights Tryd.prog 67 d, x ≤ 140737488351232) (hL : laidMetH Tryd.prog Rows.walBurstUptoRow.laid W) :
    Calls Tryd.prog 7 #[v0] W (Ret fun r w' => r = .bool true ∧ Sat W w' 1) := by
  obtain ⟨v1, v2, v3, v4, y1, y2, y3, y4, n, rfl, rfl, _, h1, h2, h3, h4⟩ := Joins.open_agg4 Tryd.underlying67 (by kernel_rfl) (by kernel_rfl) ho h
  have hk1 := bulk_one (hk _ rfl)
  have hb := bulk_agg4 y1.1 y2.1 y3.1 y4.1
  have hwt : ∀ x ∈ DataW.weights Tryd.prog 37 y1.1, x ≤ 140737488351232 := fun x hx => hw x (by
    simp only [DataW.weights, Tryd.underlying67, List.map_cons, List.map_nil, DataW.weightsEach, List.mem_append]
    exact Or.inl hx)
  obtain ⟨ao, ps, c, hcs, _, _, hrd, hsz⟩ := open_lists Tryd.underlying37 Tryd.underlying22 Tryd.underlying5 (by kernel_rfl) (by kernel_rfl) (by kernel_rfl) h1 hwt
  obtain ⟨z, hz, _, _⟩ := DataW.trod_int Tryd.underlying3 h2
  obtain ⟨z3, hz3, _, _⟩ := DataW.trod_int Tryd.underlying3 h3
  obtain ⟨z4, hz4, _, hwf4⟩ := DataW.trod_int Tryd.underlying55 h4
  obtain rfl := (List.cons.inj hcs).1
  obtain rfl := (List.cons.inj hz).1
  obtain rfl := (List.cons.inj hz3).1
  obtain rfl := (List.cons.inj hz4).1
  obtain ⟨m, rfl⟩ := int_u32 z4 hwf4
  have hL' : laidMet Tryd.prog Rows.walBurstUptoRow.laid W := hL
  have hT := crcTab_of hL' (List.mem_of_getElem? (i := 1) rfl)
  obtain ⟨a, ha⟩ := err_seen hL' 1 (by omega) (by omega) (List.mem_of_getElem? (i := 0) rfl)
  exact walk_walBurst (E := fun _ => a) hT ha.cell ps ao c hrd (by omega) z z3 m

theorem laid_met (os : Os) : laidMetH Tryd.prog Rows.walBurstUptoRow.laid ((laidWorld os).forCall (fun _ _ => 0) ⟨#[], #[.agg #[.slice none 0 0, .int .i64 0, .int .i64 0, .int .u32 0]], []⟩).memory :=
  laidMet_of_run' 8 (by kernel_rfl) (by kernel_rfl)
theorem reads (os : Os) {H : Type} (enc : TypeId × Value → H) : ∃ places, DataW.whole enc Tryd.prog ((laidWorld os).forCall (fun _ _ => 0) ⟨#[], #[.agg #[.slice none 0 0, .int .i64 0, .int .i64 0, .int .u32 0]], []⟩).memory Tryd.f7.params.toList (Rows.OpenSpec.upto Rows.walBurstSpec).vars false #[.agg #[.slice none 0 0, .int .i64 0, .int .i64 0, .int .u32 0]].toList 8 = some ([.agg [.nil, .lit (.int .i64 0), .lit (.int .i64 0), .lit (.int .u32 0)]], [], places) :=
  ⟨[], by kernel_rfl⟩
theorem sized (os : Os) {H : Type} (enc : TypeId × Value → H) : (Rows.OpenSpec.upto Rows.walBurstSpec).bare.sizedB enc Tryd.prog Tryd.f7 false ((laidWorld os).forCall (fun _ _ => 0) ⟨#[], #[.agg #[.slice none 0 0, .int .i64 0, .int .i64 0, .int .u32 0]], []⟩).memory #[.agg #[.slice none 0 0, .int .i64 0, .int .i64 0, .int .u32 0]] 8 = true := by kernel_rfl
theorem metRow (os : Os) {H : Type} (enc : TypeId × Value → H) : (Rows.OpenSpec.upto Rows.walBurstSpec).preRow enc Tryd.prog Tryd.f7 [] false Rows.walBurstUptoRow.laid ((laidWorld os).forCall (fun _ _ => 0) ⟨#[], #[.agg #[.slice none 0 0, .int .i64 0, .int .i64 0, .int .u32 0]], []⟩).memory #[.agg #[.slice none 0 0, .int .i64 0, .int .i64 0, .int .u32 0]] := by
  obtain ⟨places, hx⟩ := reads os enc
  exact OpenSpec.preRow_of_cond 8 hx rfl (fun k hk => by cases hk; kernel_rfl) (sized os enc) (laid_met os)
theorem okay (os : Os) : Input.okWideB Tryd.prog ((laidWorld os).forCall (fun _ _ => 0) ⟨#[], #[.agg #[.slice none 0 0, .int .i64 0, .int .i64 0, .int .u32 0]], []⟩) 7 ⟨#[], #[.agg #[.slice none 0 0, .int .i64 0, .int .i64 0, .int .u32 0]], []⟩ = true := by kernel_rfl
theorem readable : Tryd.prog.readableRec 67 = true := by kernel_rfl
theorem noInit : Tryd.prog.inits.idxOf? 7 = none := by kernel_rfl
theorem rowed : 67 < Tryd.prog.types.size := of_decide_eq_true (by kernel_rfl)
theorem p_vars (os : Os) : ((laidWorld os).forCall (fun _ _ => 0) ⟨#[], #[.agg #[.slice none 0 0, .int .i64 0, .int .i64 0, .int .u32 0]], []⟩).variablesB Tryd.checked.prog = true := laidWorld_vars os _
theorem p_rest (os : Os) : (((laidWorld os).forCall (fun _ _ => 0) ⟨#[], #[.agg #[.slice none 0 0, .int .i64 0, .int .i64 0, .int .u32 0]], []⟩).heap.toList.drop Tryd.checked.prog.globals.size).take ((begin Tryd.checked.prog (fun _ _ => 0) default).world.heap.size - Tryd.checked.prog.globals.size) =
    (begin Tryd.checked.prog (fun _ _ => 0) default).world.heap.toList.drop Tryd.checked.prog.globals.size := laidWorld_rest os _
theorem p_out : laidOutB Tryd.checked.prog = true := laidOut
theorem p_row (os : Os) {H : Type} (enc : TypeId × Value → H) : (Rows.OpenSpec.upto Rows.walBurstSpec).preRow enc Tryd.checked.prog Tryd.f7 [] false Rows.walBurstUptoRow.laid ((laidWorld os).forCall (fun _ _ => 0) ⟨#[], #[.agg #[.slice none 0 0, .int .i64 0, .int .i64 0, .int .u32 0]], []⟩).memory #[.agg #[.slice none 0 0, .int .i64 0, .int .i64 0, .int .u32 0]] := metRow os enc
theorem p_ok (os : Os) : Input.okWideB Tryd.checked.prog ((laidWorld os).forCall (fun _ _ => 0) ⟨#[], #[.agg #[.slice none 0 0, .int .i64 0, .int .i64 0, .int .u32 0]], []⟩) 7 ⟨#[], #[.agg #[.slice none 0 0, .int .i64 0, .int .i64 0, .int .u32 0]], []⟩ = true := okay os
theorem p_init : Tryd.checked.prog.inits.idxOf? 7 = none := noInit
theorem p_rowed : 67 < Tryd.checked.prog.types.size := rowed
theorem p_own : ownKnob Tryd.checked.prog.godebug = none := own
theorem lifted0 (os : Os) (started : os.Started) (H : Type) (enc : TypeId × Value → H) (F : Stop.Interp) :
    ReturnsInHanded {} Tryd.checked os 7 .any ((Rows.OpenSpec.upto Rows.walBurstSpec).preRow enc Tryd.checked.prog Tryd.f7 [] false Rows.walBurstUptoRow.laid) (((Rows.OpenSpec.upto Rows.walBurstSpec).at F).post enc Tryd.checked.prog Tryd.f7 false true false false) :=
  law_lift (C := Tryd.checked) (s := (Rows.OpenSpec.upto Rows.walBurstSpec)) (t := 67) (tb := 4) H enc p_own started p_init Tryd.func7 p_out readable p_rowed rfl rfl Tryd.underlying4 rfl (fun _ => rfl)
    (laidWorld os) rfl (p_vars os) (p_rest os) (p_ok os) (p_row os enc) (fun _ _ _ _ _ ho h hk hw hL => contract ho h hk hw hL)
theorem lifted (os : Os) (started : os.Started) (H : Type) (enc : TypeId × Value → H) (F : Stop.Interp) :
    ReturnsInHanded {} Tryd.checked os 7 .any ((Rows.OpenSpec.upto Rows.walBurstSpec).preRow enc Tryd.prog Tryd.f7 Rows.walBurstUptoRow.domain false Rows.walBurstUptoRow.laid) (((Rows.OpenSpec.upto Rows.walBurstSpec).at F).post enc Tryd.prog Tryd.f7 false true false false) := lifted0 os started H enc F

theorem said : Rows.WalBurstUptoSaid :=
  OpenClaim.holds_of_cond 7 Tryd.f7 rfl rfl rfl rfl rfl rfl rfl ⟨rfl, rfl, rfl, rfl, rfl⟩ rfl rfl rfl rfl rfl (by kernel_rfl) Tryd.func7 (by kernel_rfl)
    (of_decide_eq_true (by kernel_rfl)) (by unfold Func.isWrapper; first | (rw [if_pos (by decide +kernel)]; kernel_rfl) | (rw [if_neg (by decide +kernel)]; exact ⟨rfl, rfl⟩))
    (fun os started H enc _ F => by rw [OpenClaim.pre_eq_preRow]; exact lifted os started H enc F)

theorem named : Tryd.prog.funcNamed "usher/usherlaw13.WalBurst" = some 7 := by kernel_rfl
theorem noStand : Tryd.prog.wantsStandIn 67 = false := by kernel_rfl
theorem c_wf : Rows.walBurstUptoRow.wfByText (Rows.OpenSpec.upto Rows.walBurstSpec) = true := by kernel_rfl
theorem c_plain : ∀ f fn, Tryd.pinned.checked.prog.funcNamed Rows.walBurstUptoRow.func = some f → Tryd.pinned.checked.prog.funcs[f]? = some fn →
    true = Tryd.pinned.checked.prog.looks [] ∧ ∀ (j : Nat) t, fn.params[j]? = some t → Tryd.pinned.checked.prog.wantsStandIn t = false := plainOf named Tryd.func7 rfl noStand
theorem c_main : Tryd.pinned.checked.prog.mainIs = some (Rows.walBurstUptoCard.stood.harness.1, Rows.walBurstUptoCard.stood.harness.2.toList) := by kernel_rfl
theorem c_goes : false = Rows.walBurstUptoRow.goesBy Tryd.pinned.checked.prog := by kernel_rfl
/-- THE CARD. -/
theorem card : Rows.WalBurstUptoCardSaid :=
  Claim7.holds_tied_plain_at .later [] _ _ _ _ said (fun _ h => by cases h) c_wf (fun _ h => by cases h) walBurstUpto_row_tie rfl ⟨rfl, rfl⟩ c_main rfl c_plain c_goes
#print axioms card
end Go.Proofs.YtjhlelcopofkkaaDoor.walBurstUptoP
