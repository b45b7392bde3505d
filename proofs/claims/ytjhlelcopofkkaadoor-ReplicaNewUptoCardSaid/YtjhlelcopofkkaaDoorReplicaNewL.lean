/- The card of the law ReplicaNewUpto: its walk, tied to its row. -/
import Derived.Test.YtjhlelcopofkkaaDoorTie
import Derived.Test.YtjhlelcopofkkaaDoorLay
import Derived.Test.YtjhlelcopofkkaaDoorReplicaNewW
namespace Go.Proofs.YtjhlelcopofkkaaDoor.replicaNewUptoP
open Go.RowKit Go.ChangeShapes Go.WideShapes Go.ChangeAt
set_option maxRecDepth 100000

theorem contract {H : Type} {enc : TypeId × Value → H} {W : World} {base : Nat} {v0 : Value} {d : DataW H} {p : List MemPlace} (ho : Value.okWide Tryd.prog W .any base 47 v0)
    (h : DataW.Trod enc Tryd.prog W 0 (fun _ => true) true 47 v0 d p) (hk : ∀ k, (Rows.OpenSpec.upto Rows.replicaNewSpec).cond = some k → k H [d] = true) (hw : ∀ x ∈ DataW.weights Tryd.prog 47 d, x ≤ 140737488351232) (hL : laidMetH Tryd.prog Rows.replicaNewUptoRow.laid W) :
    Calls Tryd.prog 5 #[v0] W (Ret fun r w' => r = .bool true ∧ Sat W w' 1) := by
  obtain ⟨v1, v2, v3, y1, y2, y3, n, rfl, rfl, _, h1, h2, h3⟩ := Joins.open_agg3 Tryd.underlying47 (by kernel_rfl) (by kernel_rfl) ho h
  have hk1 := bulk_one (hk _ rfl)
  have hb := bulk_agg3 y1.1 y2.1 y3.1
  have hwt1 : ∀ x ∈ DataW.weights Tryd.prog 22 y1.1, x ≤ 140737488351232 := fun x hx => hw x (by
    simp only [DataW.weights, Tryd.underlying47, List.map_cons, List.map_nil, DataW.weightsEach, List.mem_append]
    exact Or.inl hx)
  obtain ⟨da, data, ds, sp, dc, hcs1, hrd1, _, hlc1, hno1, hd1, hdl1⟩ := open_bytes Tryd.underlying22 Tryd.underlying5 (by kernel_rfl) (by kernel_rfl) h1 hwt1
  obtain ⟨z2, hz2, _, _⟩ := DataW.trod_int Tryd.underlying3 h2
  obtain ⟨z3, hz3, _, _⟩ := DataW.trod_int Tryd.underlying3 h3
  have hbd : data.length + 1 ≤ Rows.uptoBulk y1.1 := by
    rcases hd1 with ⟨e1, e2⟩ | e
    · rw [e2] at hdl1
      have := bulk_pos y1.1
      simp only [List.length_nil] at hdl1
      omega
    · have := bulk_slice ds sp
      rw [← e] at this
      omega
  obtain rfl := (List.cons.inj hcs1).1
  obtain rfl := (List.cons.inj hz2).1
  obtain rfl := (List.cons.inj hz3).1
  have hL' : laidMet Tryd.prog Rows.replicaNewUptoRow.laid W := hL
  have hT := crcTab_of hL' (List.mem_of_getElem? (i := 1) rfl)
  exact walk_replicaNew hT data da dc hrd1 (by omega) z2 z3

theorem laid_met (os : Os) : laidMetH Tryd.prog Rows.replicaNewUptoRow.laid ((laidWorld os).forCall (fun _ _ => 0) ⟨#[], #[.agg #[.slice none 0 0, .int .i64 0, .int .i64 0]], []⟩).memory :=
  laidMet_of_run' 8 (by kernel_rfl) (by kernel_rfl)
theorem reads (os : Os) {H : Type} (enc : TypeId × Value → H) : ∃ places, DataW.whole enc Tryd.prog ((laidWorld os).forCall (fun _ _ => 0) ⟨#[], #[.agg #[.slice none 0 0, .int .i64 0, .int .i64 0]], []⟩).memory Tryd.f5.params.toList (Rows.OpenSpec.upto Rows.replicaNewSpec).vars false #[.agg #[.slice none 0 0, .int .i64 0, .int .i64 0]].toList 8 = some ([.agg [.nil, .lit (.int .i64 0), .lit (.int .i64 0)]], [], places) :=
  ⟨[], by kernel_rfl⟩
theorem sized (os : Os) {H : Type} (enc : TypeId × Value → H) : (Rows.OpenSpec.upto Rows.replicaNewSpec).bare.sizedB enc Tryd.prog Tryd.f5 false ((laidWorld os).forCall (fun _ _ => 0) ⟨#[], #[.agg #[.slice none 0 0, .int .i64 0, .int .i64 0]], []⟩).memory #[.agg #[.slice none 0 0, .int .i64 0, .int .i64 0]] 8 = true := by kernel_rfl
theorem metRow (os : Os) {H : Type} (enc : TypeId × Value → H) : (Rows.OpenSpec.upto Rows.replicaNewSpec).preRow enc Tryd.prog Tryd.f5 [] false Rows.replicaNewUptoRow.laid ((laidWorld os).forCall (fun _ _ => 0) ⟨#[], #[.agg #[.slice none 0 0, .int .i64 0, .int .i64 0]], []⟩).memory #[.agg #[.slice none 0 0, .int .i64 0, .int .i64 0]] := by
  obtain ⟨places, hx⟩ := reads os enc
  exact OpenSpec.preRow_of_cond 8 hx rfl (fun k hk => by cases hk; kernel_rfl) (sized os enc) (laid_met os)
theorem okay (os : Os) : Input.okWideB Tryd.prog ((laidWorld os).forCall (fun _ _ => 0) ⟨#[], #[.agg #[.slice none 0 0, .int .i64 0, .int .i64 0]], []⟩) 5 ⟨#[], #[.agg #[.slice none 0 0, .int .i64 0, .int .i64 0]], []⟩ = true := by kernel_rfl
theorem readable : Tryd.prog.readableRec 47 = true := by kernel_rfl
theorem noInit : Tryd.prog.inits.idxOf? 5 = none := by kernel_rfl
theorem rowed : 47 < Tryd.prog.types.size := of_decide_eq_true (by kernel_rfl)
theorem p_vars (os : Os) : ((laidWorld os).forCall (fun _ _ => 0) ⟨#[], #[.agg #[.slice none 0 0, .int .i64 0, .int .i64 0]], []⟩).variablesB Tryd.checked.prog = true := laidWorld_vars os _
theorem p_rest (os : Os) : (((laidWorld os).forCall (fun _ _ => 0) ⟨#[], #[.agg #[.slice none 0 0, .int .i64 0, .int .i64 0]], []⟩).heap.toList.drop Tryd.checked.prog.globals.size).take ((begin Tryd.checked.prog (fun _ _ => 0) default).world.heap.size - Tryd.checked.prog.globals.size) =
    (begin Tryd.checked.prog (fun _ _ => 0) default).world.heap.toList.drop Tryd.checked.prog.globals.size := laidWorld_rest os _
theorem p_out : laidOutB Tryd.checked.prog = true := laidOut
theorem p_row (os : Os) {H : Type} (enc : TypeId × Value → H) : (Rows.OpenSpec.upto Rows.replicaNewSpec).preRow enc Tryd.checked.prog Tryd.f5 [] false Rows.replicaNewUptoRow.laid ((laidWorld os).forCall (fun _ _ => 0) ⟨#[], #[.agg #[.slice none 0 0, .int .i64 0, .int .i64 0]], []⟩).memory #[.agg #[.slice none 0 0, .int .i64 0, .int .i64 0]] := metRow os enc
theorem p_ok (os : Os) : Input.okWideB Tryd.checked.prog ((laidWorld os).forCall (fun _ _ => 0) ⟨#[], #[.agg #[.slice none 0 0, .int .i64 0, .int .i64 0]], []⟩) 5 ⟨#[], #[.agg #[.slice none 0 0, .int .i64 0, .int .i64 0]], []⟩ = true := okay os
theorem p_init : Tryd.checked.prog.inits.idxOf? 5 = none := noInit
theorem p_rowed : 47 < Tryd.checked.prog.types.size := rowed
theorem p_own : ownKnob Tryd.checked.prog.godebug = none := own
theorem lifted0 (os : Os) (started : os.Started) (H : Type) (enc : TypeId × Value → H) (F : Stop.Interp) :
    ReturnsInHanded {} Tryd.checked os 5 .any ((Rows.OpenSpec.upto Rows.replicaNewSpec).preRow enc Tryd.checked.prog Tryd.f5 [] false Rows.replicaNewUptoRow.laid) (((Rows.OpenSpec.upto Rows.replicaNewSpec).at F).post enc Tryd.checked.prog Tryd.f5 false true false false) :=
  law_lift (C := Tryd.checked) (s := (Rows.OpenSpec.upto Rows.replicaNewSpec)) (t := 47) (tb := 4) H enc p_own started p_init Tryd.func5 p_out readable p_rowed rfl rfl Tryd.underlying4 rfl (fun _ => rfl)
    (laidWorld os) rfl (p_vars os) (p_rest os) (p_ok os) (p_row os enc) (fun _ _ _ _ _ ho h hk hw hL => contract ho h hk hw hL)
theorem lifted (os : Os) (started : os.Started) (H : Type) (enc : TypeId × Value → H) (F : Stop.Interp) :
    ReturnsInHanded {} Tryd.checked os 5 .any ((Rows.OpenSpec.upto Rows.replicaNewSpec).preRow enc Tryd.prog Tryd.f5 Rows.replicaNewUptoRow.domain false Rows.replicaNewUptoRow.laid) (((Rows.OpenSpec.upto Rows.replicaNewSpec).at F).post enc Tryd.prog Tryd.f5 false true false false) := lifted0 os started H enc F

theorem said : Rows.ReplicaNewUptoSaid :=
  OpenClaim.holds_of_cond 5 Tryd.f5 rfl rfl rfl rfl rfl rfl rfl ⟨rfl, rfl, rfl, rfl, rfl⟩ rfl rfl rfl rfl rfl (by kernel_rfl) Tryd.func5 (by kernel_rfl)
    (of_decide_eq_true (by kernel_rfl)) (by unfold Func.isWrapper; first | (rw [if_pos (by decide +kernel)]; kernel_rfl) | (rw [if_neg (by decide +kernel)]; exact ⟨rfl, rfl⟩))
    (fun os started H enc _ F => by rw [OpenClaim.pre_eq_preRow]; exact lifted os started H enc F)

theorem named : Tryd.prog.funcNamed "usher/usherlaw27.ReplicaNew" = some 5 := by kernel_rfl
theorem noStand : Tryd.prog.wantsStandIn 47 = false := by kernel_rfl
theorem c_wf : Rows.replicaNewUptoRow.wfByText (Rows.OpenSpec.upto Rows.replicaNewSpec) = true := by kernel_rfl
theorem c_plain : ∀ f fn, Tryd.pinned.checked.prog.funcNamed Rows.replicaNewUptoRow.func = some f → Tryd.pinned.checked.prog.funcs[f]? = some fn →
    true = Tryd.pinned.checked.prog.looks [] ∧ ∀ (j : Nat) t, fn.params[j]? = some t → Tryd.pinned.checked.prog.wantsStandIn t = false := plainOf named Tryd.func5 rfl noStand
theorem c_main : Tryd.pinned.checked.prog.mainIs = some (Rows.replicaNewUptoCard.stood.harness.1, Rows.replicaNewUptoCard.stood.harness.2.toList) := by kernel_rfl
theorem c_goes : false = Rows.replicaNewUptoRow.goesBy Tryd.pinned.checked.prog := by kernel_rfl
/-- THE CARD. -/
theorem card : Rows.ReplicaNewUptoCardSaid :=
  Claim7.holds_tied_plain_at .later [] _ _ _ _ said (fun _ h => by cases h) c_wf (fun _ h => by cases h) replicaNewUpto_row_tie rfl ⟨rfl, rfl⟩ c_main rfl c_plain c_goes
#print axioms card
end Go.Proofs.YtjhlelcopofkkaaDoor.replicaNewUptoP
