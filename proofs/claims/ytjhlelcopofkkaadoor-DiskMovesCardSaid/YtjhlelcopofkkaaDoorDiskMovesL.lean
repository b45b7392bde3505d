/- The card of the law DiskMoves: its walk, tied to its row. -/
import Derived.Test.YtjhlelcopofkkaaDoorTie
import Derived.Test.YtjhlelcopofkkaaDoorLawC
import Derived.Test.YtjhlelcopofkkaaDoorDiskMovesW
import Derived.Test.YtjhlelcopofkkaaDoorOpenS
namespace Go.Proofs.YtjhlelcopofkkaaDoor.diskMovesP
open Go.RowKit Go.ChangeShapes Go.WideShapes Go.ChangeAt
set_option maxRecDepth 100000

theorem contract {H : Type} {enc : TypeId × Value → H} {W : World} {base : Nat} {v0 : Value} {d : DataW H} {p : List MemPlace} (ho : Value.okWide Tryd.prog W .any base 72 v0)
    (h : DataW.Trod enc Tryd.prog W 0 (fun _ => true) true 72 v0 d p) (_hk : ∀ k, (OpenSpec.ofChange Rows.diskMovesSpec).cond = some k → k H [d] = true) (hw : ∀ x ∈ DataW.weights Tryd.prog 72 d, x ≤ 140737488351232) (hL : laidMetH Tryd.prog Rows.diskMovesRow.laid W) :
    Calls Tryd.prog 9 #[v0] W (Ret fun r w' => r = .bool true ∧ Sat W w' 1) := by
  obtain ⟨v1, v2, v3, v4, y1, y2, y3, y4, n, rfl, rfl, _, h1, h2, h3, h4⟩ := Joins.open_agg4 Tryd.underlying72 (by kernel_rfl) (by kernel_rfl) ho h
  obtain ⟨z1, hz1, _, _⟩ := DataW.trod_int Tryd.underlying3 h1
  obtain ⟨s2, hs2, hy2, _⟩ := DataW.trod_string Tryd.underlying9 h2
  obtain ⟨z3, hz3, _, _⟩ := DataW.trod_int Tryd.underlying3 h3
  have hwt : ∀ x ∈ DataW.weights Tryd.prog 70 y4.1, x ≤ 140737488351232 := fun x hx => hw x (by
    simp only [DataW.weights, Tryd.underlying72, List.map_cons, List.map_nil, DataW.weightsEach, List.mem_append]
    exact Or.inr (Or.inr (Or.inr (Or.inl hx))))
  have hsz : s2.size ≤ 140737488351232 := hw _ (by
    rw [hy2]
    simp [DataW.weights, Tryd.underlying72, DataW.weightsEach])
  obtain ⟨ao, ss, c, hcs, _, hrd, hn, hok⟩ := open_stps h4 hwt
  obtain rfl := (List.cons.inj hz1).1
  obtain rfl := (List.cons.inj hs2).1
  obtain rfl := (List.cons.inj hz3).1
  obtain rfl := (List.cons.inj hcs).1
  have hL' : laidMet Tryd.prog Rows.diskMovesRow.laid W := hL
  obtain ⟨E, hE⟩ := errs_of hL' (fun k h1 h2 => List.mem_of_getElem? (i := k - 1) (by
    obtain rfl | rfl | rfl | rfl | rfl | rfl | rfl | rfl | rfl | rfl | rfl | rfl | rfl : k = 1 ∨ k = 2 ∨ k = 3 ∨ k = 4 ∨ k = 5 ∨ k = 6 ∨ k = 7 ∨ k = 8 ∨ k = 9 ∨ k = 10 ∨ k = 11 ∨ k = 12 ∨ k = 13 := by omega
    all_goals rfl))
  exact walk_diskMoves hE z1 s2 hsz z3 ss ao c hrd hn hok

theorem laid_met (os : Os) : laidMetH Tryd.prog Rows.diskMovesRow.laid ((laidWorld os).forCall (fun _ _ => 0) ⟨#[], #[.agg #[.int .i64 0, .string ⟨#[]⟩, .int .i64 0, .slice none 0 0]], []⟩).memory :=
  laidMet_of_run' 8 (by kernel_rfl) (by kernel_rfl)
theorem reads (os : Os) {H : Type} (enc : TypeId × Value → H) : ∃ places, DataW.whole enc Tryd.prog ((laidWorld os).forCall (fun _ _ => 0) ⟨#[], #[.agg #[.int .i64 0, .string ⟨#[]⟩, .int .i64 0, .slice none 0 0]], []⟩).memory Tryd.f9.params.toList (OpenSpec.ofChange Rows.diskMovesSpec).vars false #[.agg #[.int .i64 0, .string ⟨#[]⟩, .int .i64 0, .slice none 0 0]].toList 8 = some ([.agg [.lit (.int .i64 0), .lit (.string []), .lit (.int .i64 0), .nil]], [], places) :=
  ⟨[], by kernel_rfl⟩
theorem sized (os : Os) {H : Type} (enc : TypeId × Value → H) : (OpenSpec.ofChange Rows.diskMovesSpec).bare.sizedB enc Tryd.prog Tryd.f9 false ((laidWorld os).forCall (fun _ _ => 0) ⟨#[], #[.agg #[.int .i64 0, .string ⟨#[]⟩, .int .i64 0, .slice none 0 0]], []⟩).memory #[.agg #[.int .i64 0, .string ⟨#[]⟩, .int .i64 0, .slice none 0 0]] 8 = true := by kernel_rfl
theorem metRow (os : Os) {H : Type} (enc : TypeId × Value → H) : (OpenSpec.ofChange Rows.diskMovesSpec).preRow enc Tryd.prog Tryd.f9 [] false Rows.diskMovesRow.laid ((laidWorld os).forCall (fun _ _ => 0) ⟨#[], #[.agg #[.int .i64 0, .string ⟨#[]⟩, .int .i64 0, .slice none 0 0]], []⟩).memory #[.agg #[.int .i64 0, .string ⟨#[]⟩, .int .i64 0, .slice none 0 0]] := by
  obtain ⟨places, hx⟩ := reads os enc
  exact OpenSpec.preRow_of_cond 8 hx rfl (fun k hk => by cases hk) (sized os enc) (laid_met os)
theorem okay (os : Os) : Input.okWideB Tryd.prog ((laidWorld os).forCall (fun _ _ => 0) ⟨#[], #[.agg #[.int .i64 0, .string ⟨#[]⟩, .int .i64 0, .slice none 0 0]], []⟩) 9 ⟨#[], #[.agg #[.int .i64 0, .string ⟨#[]⟩, .int .i64 0, .slice none 0 0]], []⟩ = true := by kernel_rfl
theorem readable : Tryd.prog.readableRec 72 = true := by kernel_rfl
theorem noInit : Tryd.prog.inits.idxOf? 9 = none := by kernel_rfl
theorem rowed : 72 < Tryd.prog.types.size := of_decide_eq_true (by kernel_rfl)
theorem p_vars (os : Os) : ((laidWorld os).forCall (fun _ _ => 0) ⟨#[], #[.agg #[.int .i64 0, .string ⟨#[]⟩, .int .i64 0, .slice none 0 0]], []⟩).variablesB Tryd.checked.prog = true := laidWorld_vars os _
theorem p_rest (os : Os) : (((laidWorld os).forCall (fun _ _ => 0) ⟨#[], #[.agg #[.int .i64 0, .string ⟨#[]⟩, .int .i64 0, .slice none 0 0]], []⟩).heap.toList.drop Tryd.checked.prog.globals.size).take ((begin Tryd.checked.prog (fun _ _ => 0) default).world.heap.size - Tryd.checked.prog.globals.size) =
    (begin Tryd.checked.prog (fun _ _ => 0) default).world.heap.toList.drop Tryd.checked.prog.globals.size := laidWorld_rest os _
theorem p_out : laidOutB Tryd.checked.prog = true := laidOut
theorem p_row (os : Os) {H : Type} (enc : TypeId × Value → H) : (OpenSpec.ofChange Rows.diskMovesSpec).preRow enc Tryd.checked.prog Tryd.f9 [] false Rows.diskMovesRow.laid ((laidWorld os).forCall (fun _ _ => 0) ⟨#[], #[.agg #[.int .i64 0, .string ⟨#[]⟩, .int .i64 0, .slice none 0 0]], []⟩).memory #[.agg #[.int .i64 0, .string ⟨#[]⟩, .int .i64 0, .slice none 0 0]] := metRow os enc
theorem p_ok (os : Os) : Input.okWideB Tryd.checked.prog ((laidWorld os).forCall (fun _ _ => 0) ⟨#[], #[.agg #[.int .i64 0, .string ⟨#[]⟩, .int .i64 0, .slice none 0 0]], []⟩) 9 ⟨#[], #[.agg #[.int .i64 0, .string ⟨#[]⟩, .int .i64 0, .slice none 0 0]], []⟩ = true := okay os
theorem p_init : Tryd.checked.prog.inits.idxOf? 9 = none := noInit
theorem p_rowed : 72 < Tryd.checked.prog.types.size := rowed
theorem p_own : ownKnob Tryd.checked.prog.godebug = none := own
theorem lifted0 (os : Os) (started : os.Started) (H : Type) (enc : TypeId × Value → H) (F : Stop.Interp) :
    ReturnsInHanded {} Tryd.checked os 9 .any ((OpenSpec.ofChange Rows.diskMovesSpec).preRow enc Tryd.checked.prog Tryd.f9 [] false Rows.diskMovesRow.laid) (((OpenSpec.ofChange Rows.diskMovesSpec).at F).post enc Tryd.checked.prog Tryd.f9 false true false false) :=
  law_lift (C := Tryd.checked) (s := (OpenSpec.ofChange Rows.diskMovesSpec)) (t := 72) (tb := 4) H enc p_own started p_init Tryd.func9 p_out readable p_rowed rfl rfl Tryd.underlying4 rfl (fun _ => rfl)
    (laidWorld os) rfl (p_vars os) (p_rest os) (p_ok os) (p_row os enc) (fun _ _ _ _ _ ho h hk hw hL => contract ho h hk hw hL)
theorem lifted (os : Os) (started : os.Started) (H : Type) (enc : TypeId × Value → H) (F : Stop.Interp) :
    ReturnsInHanded {} Tryd.checked os 9 .any ((OpenSpec.ofChange Rows.diskMovesSpec).preRow enc Tryd.prog Tryd.f9 Rows.diskMovesRow.domain false Rows.diskMovesRow.laid) (((OpenSpec.ofChange Rows.diskMovesSpec).at F).post enc Tryd.prog Tryd.f9 false true false false) := lifted0 os started H enc F

theorem said : Rows.DiskMovesSaid :=
  OpenClaim.holds_of_cond 9 Tryd.f9 rfl rfl rfl rfl rfl rfl rfl ⟨rfl, rfl, rfl, rfl, rfl⟩ rfl rfl rfl rfl rfl (by kernel_rfl) Tryd.func9 (by kernel_rfl)
    (of_decide_eq_true (by kernel_rfl)) (by unfold Func.isWrapper; first | (rw [if_pos (by decide +kernel)]; kernel_rfl) | (rw [if_neg (by decide +kernel)]; exact ⟨rfl, rfl⟩))
    (fun os started H enc _ F => by rw [OpenClaim.pre_eq_preRow]; exact lifted os started H enc F)

theorem named : Tryd.prog.funcNamed "usher/usherlaw12.DiskMoves" = some 9 := by kernel_rfl
theorem noStand : Tryd.prog.wantsStandIn 72 = false := by kernel_rfl
theorem c_wf : Rows.diskMovesRow.wfByText (OpenSpec.ofChange Rows.diskMovesSpec) = true := by kernel_rfl
theorem c_plain : ∀ f fn, Tryd.pinned.checked.prog.funcNamed Rows.diskMovesRow.func = some f → Tryd.pinned.checked.prog.funcs[f]? = some fn →
    true = Tryd.pinned.checked.prog.looks [] ∧ ∀ (j : Nat) t, fn.params[j]? = some t → Tryd.pinned.checked.prog.wantsStandIn t = false := plainOf named Tryd.func9 rfl noStand
theorem c_main : Tryd.pinned.checked.prog.mainIs = some (Rows.diskMovesCard.stood.harness.1, Rows.diskMovesCard.stood.harness.2.toList) := by kernel_rfl
theorem c_goes : false = Rows.diskMovesRow.goesBy Tryd.pinned.checked.prog := by kernel_rfl
/-- THE CARD. -/
theorem card : Rows.DiskMovesCardSaid :=
  Claim7.holds_tied_plain_at .later [] _ _ _ _ said (fun _ h => by cases h) c_wf (fun _ h => by cases h) diskMoves_row_tie rfl ⟨rfl, rfl⟩ c_main rfl c_plain c_goes
#print axioms card
end Go.Proofs.YtjhlelcopofkkaaDoor.diskMovesP
