/-
  DERIVED. GIVEN WITH THE SEED: THE CARDS: each row of YtjhlelcopofkkaaDoorRows.lean that lists a variable, with what it lists TIED to the program's text (the seventh form; the later family's looks); each row that meets fmt, with fmt's text TOLD by the authors' own Lean function (tested against real Go, not proved from fmt's source: count such statements apart). THE CARD IS WHAT COUNTS. Prove the row's statement (the work); the ties are given (YtjhlelcopofkkaaDoorTie.lean); close each card by the builder's one call (the guide's Derived/Test/ToyasCard.lean, 'card_holds'). Laid BY PROGRAM, IN A SANDBOX (cutbox-door.mjs). By AI agents, Wed Nov 11 2026. No macro, syntax, notation, axiom, sorry.
-/
import Derived.Test.YtjhlelcopofkkaaDoorRows
import GoSem.ClaimSeven
namespace Go.Proofs.YtjhlelcopofkkaaDoor
namespace Rows

/-- THE TIED CARD OF 'usherlaw13.WalFrame'. -/
def walFrameCard : Claim7 := { stood := { row := walFrameRow, standIns := [], harness := (true, "010949bacdfa49b88a6f9e6e9052bdd22e8102f4403ea6e53cc75564489eb507"), looks := true }, kinds := [], alts := [], laidByText := true, laidKinds := [.sentinel, .sentinel, .sentinel, .sentinel, .sentinel, .sentinel, .sentinel, .sentinel, .sentinel, .sentinel, .sentinel, .sentinel, .sentinel, .data], laidTests := true, laidLooks := .later }
def WalFrameCardSaid : Prop := Claim7.holds Tryd.pinned (.plain (OpenSpec.ofChange walFrameSpec)) walFrameCard

/-- THE TIED CARD OF 'usherlaw13.WalFrames'. -/
def walFramesCard : Claim7 := { stood := { row := walFramesRow, standIns := [], harness := (true, "010949bacdfa49b88a6f9e6e9052bdd22e8102f4403ea6e53cc75564489eb507"), looks := true }, kinds := [], alts := [], laidByText := true, laidKinds := [.data], laidTests := true, laidLooks := .later }
def WalFramesCardSaid : Prop := Claim7.holds Tryd.pinned (.plain (OpenSpec.ofChange walFramesSpec)) walFramesCard

/-- THE TIED CARD OF 'usherlaw27.ReplicaNew'. -/
def replicaNewCard : Claim7 := { stood := { row := replicaNewRow, standIns := [], harness := (true, "010949bacdfa49b88a6f9e6e9052bdd22e8102f4403ea6e53cc75564489eb507"), looks := true }, kinds := [], alts := [], laidByText := true, laidKinds := [.sentinel, .data], laidTests := true, laidLooks := .later }
def ReplicaNewCardSaid : Prop := Claim7.holds Tryd.pinned (.plain (OpenSpec.ofChange replicaNewSpec)) replicaNewCard

/-- THE TIED CARD OF 'usherlaw13.WalTorn'. -/
def walTornCard : Claim7 := { stood := { row := walTornRow, standIns := [], harness := (true, "010949bacdfa49b88a6f9e6e9052bdd22e8102f4403ea6e53cc75564489eb507"), looks := true }, kinds := [], alts := [], laidByText := true, laidKinds := [.sentinel, .data], laidTests := true, laidLooks := .later }
def WalTornCardSaid : Prop := Claim7.holds Tryd.pinned (.plain (OpenSpec.ofChange walTornSpec)) walTornCard

/-- THE TIED CARD OF 'usherlaw13.WalBurst'. -/
def walBurstCard : Claim7 := { stood := { row := walBurstRow, standIns := [], harness := (true, "010949bacdfa49b88a6f9e6e9052bdd22e8102f4403ea6e53cc75564489eb507"), looks := true }, kinds := [], alts := [], laidByText := true, laidKinds := [.sentinel, .data], laidTests := true, laidLooks := .later }
def WalBurstCardSaid : Prop := Claim7.holds Tryd.pinned (.plain (OpenSpec.ofChange walBurstSpec)) walBurstCard

/-- THE TIED CARD OF 'usherlaw12.DiskApart'. -/
def diskApartCard : Claim7 := { stood := { row := diskApartRow, standIns := [], harness := (true, "010949bacdfa49b88a6f9e6e9052bdd22e8102f4403ea6e53cc75564489eb507"), looks := true }, kinds := [], alts := [], laidByText := true, laidKinds := [.sentinel, .sentinel, .sentinel, .sentinel, .sentinel, .sentinel, .sentinel, .sentinel, .sentinel, .sentinel, .sentinel, .sentinel, .sentinel], laidTests := true, laidLooks := .later }
def DiskApartCardSaid : Prop := Claim7.holds Tryd.pinned (.plain (OpenSpec.ofChange diskApartSpec)) diskApartCard

/-- THE TIED CARD OF 'usherlaw12.DiskMoves'. -/
def diskMovesCard : Claim7 := { stood := { row := diskMovesRow, standIns := [], harness := (true, "010949bacdfa49b88a6f9e6e9052bdd22e8102f4403ea6e53cc75564489eb507"), looks := true }, kinds := [], alts := [], laidByText := true, laidKinds := [.sentinel, .sentinel, .sentinel, .sentinel, .sentinel, .sentinel, .sentinel, .sentinel, .sentinel, .sentinel, .sentinel, .sentinel, .sentinel], laidTests := true, laidLooks := .later }
def DiskMovesCardSaid : Prop := Claim7.holds Tryd.pinned (.plain (OpenSpec.ofChange diskMovesSpec)) diskMovesCard

/-- THE TIED CARD OF 'usherlaw12.DiskPlays'. -/
def diskPlaysCard : Claim7 := { stood := { row := diskPlaysRow, standIns := [], harness := (true, "010949bacdfa49b88a6f9e6e9052bdd22e8102f4403ea6e53cc75564489eb507"), looks := true }, kinds := [], alts := [], laidByText := true, laidKinds := [.sentinel, .sentinel, .sentinel, .sentinel, .sentinel, .sentinel, .sentinel, .sentinel, .sentinel, .sentinel, .sentinel, .sentinel, .sentinel], laidTests := true, laidLooks := .later }
def DiskPlaysCardSaid : Prop := Claim7.holds Tryd.pinned (.plain (OpenSpec.ofChange diskPlaysSpec)) diskPlaysCard

/-- THE TIED CARD OF 'usherlaw12.DiskArmed'. -/
def diskArmedCard : Claim7 := { stood := { row := diskArmedRow, standIns := [], harness := (true, "010949bacdfa49b88a6f9e6e9052bdd22e8102f4403ea6e53cc75564489eb507"), looks := true }, kinds := [], alts := [], laidByText := true, laidKinds := [.sentinel, .sentinel, .sentinel, .sentinel, .sentinel, .sentinel, .sentinel, .sentinel, .sentinel, .sentinel, .sentinel, .sentinel, .sentinel], laidTests := true, laidLooks := .later }
def DiskArmedCardSaid : Prop := Claim7.holds Tryd.pinned (.plain (OpenSpec.ofChange diskArmedSpec)) diskArmedCard

/-- THE TIED CARD OF 'usherlaw12.DiskLookFree'. -/
def diskLookFreeCard : Claim7 := { stood := { row := diskLookFreeRow, standIns := [], harness := (true, "010949bacdfa49b88a6f9e6e9052bdd22e8102f4403ea6e53cc75564489eb507"), looks := true }, kinds := [], alts := [], laidByText := true, laidKinds := [.sentinel, .sentinel, .sentinel, .sentinel, .sentinel, .sentinel, .sentinel, .sentinel, .sentinel, .sentinel, .sentinel, .sentinel, .sentinel], laidTests := true, laidLooks := .later }
def DiskLookFreeCardSaid : Prop := Claim7.holds Tryd.pinned (.plain (OpenSpec.ofChange diskLookFreeSpec)) diskLookFreeCard

/-- THE TIED CARD OF 'usherlaw12.DiskForgets'. -/
def diskForgetsCard : Claim7 := { stood := { row := diskForgetsRow, standIns := [], harness := (true, "010949bacdfa49b88a6f9e6e9052bdd22e8102f4403ea6e53cc75564489eb507"), looks := true }, kinds := [], alts := [], laidByText := true, laidKinds := [.sentinel, .sentinel, .sentinel, .sentinel, .sentinel, .sentinel, .sentinel, .sentinel, .sentinel, .sentinel, .sentinel, .sentinel, .sentinel], laidTests := true, laidLooks := .later }
def DiskForgetsCardSaid : Prop := Claim7.holds Tryd.pinned (.plain (OpenSpec.ofChange diskForgetsSpec)) diskForgetsCard

/-- THE TIED CARD OF 'usherlaw12.DiskLasts'. -/
def diskLastsCard : Claim7 := { stood := { row := diskLastsRow, standIns := [], harness := (true, "010949bacdfa49b88a6f9e6e9052bdd22e8102f4403ea6e53cc75564489eb507"), looks := true }, kinds := [], alts := [], laidByText := true, laidKinds := [.sentinel, .sentinel, .sentinel, .sentinel, .sentinel, .sentinel, .sentinel, .sentinel, .sentinel, .sentinel, .sentinel, .sentinel, .sentinel], laidTests := true, laidLooks := .later }
def DiskLastsCardSaid : Prop := Claim7.holds Tryd.pinned (.plain (OpenSpec.ofChange diskLastsSpec)) diskLastsCard

/-- THE TIED CARD OF 'usherlaw27.ReplicaForks'. -/
def replicaForksCard : Claim7 := { stood := { row := replicaForksRow, standIns := [], harness := (true, "010949bacdfa49b88a6f9e6e9052bdd22e8102f4403ea6e53cc75564489eb507"), looks := true }, kinds := [], alts := [], laidByText := true, laidKinds := [.sentinel, .sentinel, .sentinel, .sentinel, .sentinel, .sentinel, .sentinel, .data], laidTests := true, laidLooks := .later }
def ReplicaForksCardSaid : Prop := Claim7.holds Tryd.pinned (.plain (OpenSpec.ofChange replicaForksSpec)) replicaForksCard

/-- THE TIED CARD OF 'usherlaw13.WalNew'. -/
def walNewCard : Claim7 := { stood := { row := walNewRow, standIns := [], harness := (true, "010949bacdfa49b88a6f9e6e9052bdd22e8102f4403ea6e53cc75564489eb507"), looks := true }, kinds := [], alts := [], laidByText := true, laidKinds := [.sentinel, .sentinel, .data], laidTests := true, laidLooks := .later }
def WalNewCardSaid : Prop := Claim7.holds Tryd.pinned (.plain (OpenSpec.ofChange walNewSpec)) walNewCard

/-- THE TIED CARD OF 'usherlaw13.WalTwice'. -/
def walTwiceCard : Claim7 := { stood := { row := walTwiceRow, standIns := [], harness := (true, "010949bacdfa49b88a6f9e6e9052bdd22e8102f4403ea6e53cc75564489eb507"), looks := true }, kinds := [], alts := [], laidByText := true, laidKinds := [.sentinel, .sentinel, .data], laidTests := true, laidLooks := .later }
def WalTwiceCardSaid : Prop := Claim7.holds Tryd.pinned (.plain (OpenSpec.ofChange walTwiceSpec)) walTwiceCard

/-- THE TIED CARD OF 'usherlaw13.WalFull'. -/
def walFullCard : Claim7 := { stood := { row := walFullRow, standIns := [], harness := (true, "010949bacdfa49b88a6f9e6e9052bdd22e8102f4403ea6e53cc75564489eb507"), looks := true }, kinds := [], alts := [], laidByText := true, laidKinds := [.sentinel, .sentinel, .sentinel, .sentinel, .sentinel, .sentinel, .sentinel, .sentinel, .sentinel, .sentinel, .sentinel, .sentinel, .sentinel, .data], laidTests := true, laidLooks := .later }
def WalFullCardSaid : Prop := Claim7.holds Tryd.pinned (.plain (OpenSpec.ofChange walFullSpec)) walFullCard

/-- THE TIED CARD OF 'usherlaw13.WalCrash'. -/
def walCrashCard : Claim7 := { stood := { row := walCrashRow, standIns := [], harness := (true, "010949bacdfa49b88a6f9e6e9052bdd22e8102f4403ea6e53cc75564489eb507"), looks := true }, kinds := [], alts := [], laidByText := true, laidKinds := [.sentinel, .sentinel, .sentinel, .sentinel, .sentinel, .sentinel, .sentinel, .sentinel, .sentinel, .sentinel, .sentinel, .sentinel, .sentinel, .data], laidTests := true, laidLooks := .later }
def WalCrashCardSaid : Prop := Claim7.holds Tryd.pinned (.plain (OpenSpec.ofChange walCrashSpec)) walCrashCard

/-- THE TIED CARD OF 'usherlaw13.WalPlay'. -/
def walPlayCard : Claim7 := { stood := { row := walPlayRow, standIns := [], harness := (true, "010949bacdfa49b88a6f9e6e9052bdd22e8102f4403ea6e53cc75564489eb507"), looks := true }, kinds := [], alts := [], laidByText := true, laidKinds := [.sentinel, .sentinel, .sentinel, .sentinel, .sentinel, .sentinel, .sentinel, .sentinel, .sentinel, .sentinel, .sentinel, .sentinel, .sentinel, .data], laidTests := true, laidLooks := .later }
def WalPlayCardSaid : Prop := Claim7.holds Tryd.pinned (.plain (OpenSpec.ofChange walPlaySpec)) walPlayCard

/-- THE TIED CARD OF 'usherlaw27.ReplicaPrefix'. -/
def replicaPrefixCard : Claim7 := { stood := { row := replicaPrefixRow, standIns := [], harness := (true, "010949bacdfa49b88a6f9e6e9052bdd22e8102f4403ea6e53cc75564489eb507"), looks := true }, kinds := [], alts := [], laidByText := true, laidKinds := [.sentinel, .sentinel, .sentinel, .sentinel, .sentinel, .sentinel, .sentinel, .data], laidTests := true, laidLooks := .later }
def ReplicaPrefixCardSaid : Prop := Claim7.holds Tryd.pinned (.plain (OpenSpec.ofChange replicaPrefixSpec)) replicaPrefixCard

/-- THE SECOND FORM's CARD OF 'usherlaw13.WalFrame'. -/
def walFrameUptoCard : Claim7 := { stood := { row := walFrameUptoRow, standIns := [], harness := (true, "010949bacdfa49b88a6f9e6e9052bdd22e8102f4403ea6e53cc75564489eb507"), looks := true }, kinds := [], alts := [], laidByText := true, laidKinds := [.sentinel, .sentinel, .sentinel, .sentinel, .sentinel, .sentinel, .sentinel, .sentinel, .sentinel, .sentinel, .sentinel, .sentinel, .sentinel, .data], laidTests := true, laidLooks := .later }
def WalFrameUptoCardSaid : Prop := Claim7.holds Tryd.pinned (.plain (OpenSpec.upto walFrameSpec)) walFrameUptoCard

/-- THE SECOND FORM's CARD OF 'usherlaw13.WalFrames'. -/
def walFramesUptoCard : Claim7 := { stood := { row := walFramesUptoRow, standIns := [], harness := (true, "010949bacdfa49b88a6f9e6e9052bdd22e8102f4403ea6e53cc75564489eb507"), looks := true }, kinds := [], alts := [], laidByText := true, laidKinds := [.data], laidTests := true, laidLooks := .later }
def WalFramesUptoCardSaid : Prop := Claim7.holds Tryd.pinned (.plain (OpenSpec.upto walFramesSpec)) walFramesUptoCard

/-- THE SECOND FORM's CARD OF 'usherlaw27.ReplicaNew'. -/
def replicaNewUptoCard : Claim7 := { stood := { row := replicaNewUptoRow, standIns := [], harness := (true, "010949bacdfa49b88a6f9e6e9052bdd22e8102f4403ea6e53cc75564489eb507"), looks := true }, kinds := [], alts := [], laidByText := true, laidKinds := [.sentinel, .data], laidTests := true, laidLooks := .later }
def ReplicaNewUptoCardSaid : Prop := Claim7.holds Tryd.pinned (.plain (OpenSpec.upto replicaNewSpec)) replicaNewUptoCard

/-- THE SECOND FORM's CARD OF 'usherlaw13.WalTorn'. -/
def walTornUptoCard : Claim7 := { stood := { row := walTornUptoRow, standIns := [], harness := (true, "010949bacdfa49b88a6f9e6e9052bdd22e8102f4403ea6e53cc75564489eb507"), looks := true }, kinds := [], alts := [], laidByText := true, laidKinds := [.sentinel, .data], laidTests := true, laidLooks := .later }
def WalTornUptoCardSaid : Prop := Claim7.holds Tryd.pinned (.plain (OpenSpec.upto walTornSpec)) walTornUptoCard

/-- THE SECOND FORM's CARD OF 'usherlaw13.WalBurst'. -/
def walBurstUptoCard : Claim7 := { stood := { row := walBurstUptoRow, standIns := [], harness := (true, "010949bacdfa49b88a6f9e6e9052bdd22e8102f4403ea6e53cc75564489eb507"), looks := true }, kinds := [], alts := [], laidByText := true, laidKinds := [.sentinel, .data], laidTests := true, laidLooks := .later }
def WalBurstUptoCardSaid : Prop := Claim7.holds Tryd.pinned (.plain (OpenSpec.upto walBurstSpec)) walBurstUptoCard

/-- THE SECOND FORM's CARD OF 'usherlaw12.DiskApart'. -/
def diskApartUptoCard : Claim7 := { stood := { row := diskApartUptoRow, standIns := [], harness := (true, "010949bacdfa49b88a6f9e6e9052bdd22e8102f4403ea6e53cc75564489eb507"), looks := true }, kinds := [], alts := [], laidByText := true, laidKinds := [.sentinel, .sentinel, .sentinel, .sentinel, .sentinel, .sentinel, .sentinel, .sentinel, .sentinel, .sentinel, .sentinel, .sentinel, .sentinel], laidTests := true, laidLooks := .later }
def DiskApartUptoCardSaid : Prop := Claim7.holds Tryd.pinned (.plain (OpenSpec.upto diskApartSpec)) diskApartUptoCard

/-- THE SECOND FORM's CARD OF 'usherlaw12.DiskMoves'. -/
def diskMovesUptoCard : Claim7 := { stood := { row := diskMovesUptoRow, standIns := [], harness := (true, "010949bacdfa49b88a6f9e6e9052bdd22e8102f4403ea6e53cc75564489eb507"), looks := true }, kinds := [], alts := [], laidByText := true, laidKinds := [.sentinel, .sentinel, .sentinel, .sentinel, .sentinel, .sentinel, .sentinel, .sentinel, .sentinel, .sentinel, .sentinel, .sentinel, .sentinel], laidTests := true, laidLooks := .later }
def DiskMovesUptoCardSaid : Prop := Claim7.holds Tryd.pinned (.plain (OpenSpec.upto diskMovesSpec)) diskMovesUptoCard

/-- THE SECOND FORM's CARD OF 'usherlaw12.DiskPlays'. -/
def diskPlaysUptoCard : Claim7 := { stood := { row := diskPlaysUptoRow, standIns := [], harness := (true, "010949bacdfa49b88a6f9e6e9052bdd22e8102f4403ea6e53cc75564489eb507"), looks := true }, kinds := [], alts := [], laidByText := true, laidKinds := [.sentinel, .sentinel, .sentinel, .sentinel, .sentinel, .sentinel, .sentinel, .sentinel, .sentinel, .sentinel, .sentinel, .sentinel, .sentinel], laidTests := true, laidLooks := .later }
def DiskPlaysUptoCardSaid : Prop := Claim7.holds Tryd.pinned (.plain (OpenSpec.upto diskPlaysSpec)) diskPlaysUptoCard

/-- THE SECOND FORM's CARD OF 'usherlaw12.DiskArmed'. -/
def diskArmedUptoCard : Claim7 := { stood := { row := diskArmedUptoRow, standIns := [], harness := (true, "010949bacdfa49b88a6f9e6e9052bdd22e8102f4403ea6e53cc75564489eb507"), looks := true }, kinds := [], alts := [], laidByText := true, laidKinds := [.sentinel, .sentinel, .sentinel, .sentinel, .sentinel, .sentinel, .sentinel, .sentinel, .sentinel, .sentinel, .sentinel, .sentinel, .sentinel], laidTests := true, laidLooks := .later }
def DiskArmedUptoCardSaid : Prop := Claim7.holds Tryd.pinned (.plain (OpenSpec.upto diskArmedSpec)) diskArmedUptoCard

/-- THE SECOND FORM's CARD OF 'usherlaw12.DiskLookFree'. -/
def diskLookFreeUptoCard : Claim7 := { stood := { row := diskLookFreeUptoRow, standIns := [], harness := (true, "010949bacdfa49b88a6f9e6e9052bdd22e8102f4403ea6e53cc75564489eb507"), looks := true }, kinds := [], alts := [], laidByText := true, laidKinds := [.sentinel, .sentinel, .sentinel, .sentinel, .sentinel, .sentinel, .sentinel, .sentinel, .sentinel, .sentinel, .sentinel, .sentinel, .sentinel], laidTests := true, laidLooks := .later }
def DiskLookFreeUptoCardSaid : Prop := Claim7.holds Tryd.pinned (.plain (OpenSpec.upto diskLookFreeSpec)) diskLookFreeUptoCard

/-- THE SECOND FORM's CARD OF 'usherlaw12.DiskForgets'. -/
def diskForgetsUptoCard : Claim7 := { stood := { row := diskForgetsUptoRow, standIns := [], harness := (true, "010949bacdfa49b88a6f9e6e9052bdd22e8102f4403ea6e53cc75564489eb507"), looks := true }, kinds := [], alts := [], laidByText := true, laidKinds := [.sentinel, .sentinel, .sentinel, .sentinel, .sentinel, .sentinel, .sentinel, .sentinel, .sentinel, .sentinel, .sentinel, .sentinel, .sentinel], laidTests := true, laidLooks := .later }
def DiskForgetsUptoCardSaid : Prop := Claim7.holds Tryd.pinned (.plain (OpenSpec.upto diskForgetsSpec)) diskForgetsUptoCard

/-- THE SECOND FORM's CARD OF 'usherlaw12.DiskLasts'. -/
def diskLastsUptoCard : Claim7 := { stood := { row := diskLastsUptoRow, standIns := [], harness := (true, "010949bacdfa49b88a6f9e6e9052bdd22e8102f4403ea6e53cc75564489eb507"), looks := true }, kinds := [], alts := [], laidByText := true, laidKinds := [.sentinel, .sentinel, .sentinel, .sentinel, .sentinel, .sentinel, .sentinel, .sentinel, .sentinel, .sentinel, .sentinel, .sentinel, .sentinel], laidTests := true, laidLooks := .later }
def DiskLastsUptoCardSaid : Prop := Claim7.holds Tryd.pinned (.plain (OpenSpec.upto diskLastsSpec)) diskLastsUptoCard

/-- THE SECOND FORM's CARD OF 'usherlaw27.ReplicaForks'. -/
def replicaForksUptoCard : Claim7 := { stood := { row := replicaForksUptoRow, standIns := [], harness := (true, "010949bacdfa49b88a6f9e6e9052bdd22e8102f4403ea6e53cc75564489eb507"), looks := true }, kinds := [], alts := [], laidByText := true, laidKinds := [.sentinel, .sentinel, .sentinel, .sentinel, .sentinel, .sentinel, .sentinel, .data], laidTests := true, laidLooks := .later }
def ReplicaForksUptoCardSaid : Prop := Claim7.holds Tryd.pinned (.plain (OpenSpec.upto replicaForksSpec)) replicaForksUptoCard

/-- THE SECOND FORM's CARD OF 'usherlaw13.WalNew'. -/
def walNewUptoCard : Claim7 := { stood := { row := walNewUptoRow, standIns := [], harness := (true, "010949bacdfa49b88a6f9e6e9052bdd22e8102f4403ea6e53cc75564489eb507"), looks := true }, kinds := [], alts := [], laidByText := true, laidKinds := [.sentinel, .sentinel, .data], laidTests := true, laidLooks := .later }
def WalNewUptoCardSaid : Prop := Claim7.holds Tryd.pinned (.plain (OpenSpec.upto walNewSpec)) walNewUptoCard

/-- THE SECOND FORM's CARD OF 'usherlaw13.WalTwice'. -/
def walTwiceUptoCard : Claim7 := { stood := { row := walTwiceUptoRow, standIns := [], harness := (true, "010949bacdfa49b88a6f9e6e9052bdd22e8102f4403ea6e53cc75564489eb507"), looks := true }, kinds := [], alts := [], laidByText := true, laidKinds := [.sentinel, .sentinel, .data], laidTests := true, laidLooks := .later }
def WalTwiceUptoCardSaid : Prop := Claim7.holds Tryd.pinned (.plain (OpenSpec.upto walTwiceSpec)) walTwiceUptoCard

/-- THE SECOND FORM's CARD OF 'usherlaw13.WalFull'. -/
def walFullUptoCard : Claim7 := { stood := { row := walFullUptoRow, standIns := [], harness := (true, "010949bacdfa49b88a6f9e6e9052bdd22e8102f4403ea6e53cc75564489eb507"), looks := true }, kinds := [], alts := [], laidByText := true, laidKinds := [.sentinel, .sentinel, .sentinel, .sentinel, .sentinel, .sentinel, .sentinel, .sentinel, .sentinel, .sentinel, .sentinel, .sentinel, .sentinel, .data], laidTests := true, laidLooks := .later }
def WalFullUptoCardSaid : Prop := Claim7.holds Tryd.pinned (.plain (OpenSpec.upto walFullSpec)) walFullUptoCard

/-- THE SECOND FORM's CARD OF 'usherlaw13.WalCrash'. -/
def walCrashUptoCard : Claim7 := { stood := { row := walCrashUptoRow, standIns := [], harness := (true, "010949bacdfa49b88a6f9e6e9052bdd22e8102f4403ea6e53cc75564489eb507"), looks := true }, kinds := [], alts := [], laidByText := true, laidKinds := [.sentinel, .sentinel, .sentinel, .sentinel, .sentinel, .sentinel, .sentinel, .sentinel, .sentinel, .sentinel, .sentinel, .sentinel, .sentinel, .data], laidTests := true, laidLooks := .later }
def WalCrashUptoCardSaid : Prop := Claim7.holds Tryd.pinned (.plain (OpenSpec.upto walCrashSpec)) walCrashUptoCard

/-- THE SECOND FORM's CARD OF 'usherlaw13.WalPlay'. -/
def walPlayUptoCard : Claim7 := { stood := { row := walPlayUptoRow, standIns := [], harness := (true, "010949bacdfa49b88a6f9e6e9052bdd22e8102f4403ea6e53cc75564489eb507"), looks := true }, kinds := [], alts := [], laidByText := true, laidKinds := [.sentinel, .sentinel, .sentinel, .sentinel, .sentinel, .sentinel, .sentinel, .sentinel, .sentinel, .sentinel, .sentinel, .sentinel, .sentinel, .data], laidTests := true, laidLooks := .later }
def WalPlayUptoCardSaid : Prop := Claim7.holds Tryd.pinned (.plain (OpenSpec.upto walPlaySpec)) walPlayUptoCard

/-- THE SECOND FORM's CARD OF 'usherlaw27.ReplicaPrefix'. -/
def replicaPrefixUptoCard : Claim7 := { stood := { row := replicaPrefixUptoRow, standIns := [], harness := (true, "010949bacdfa49b88a6f9e6e9052bdd22e8102f4403ea6e53cc75564489eb507"), looks := true }, kinds := [], alts := [], laidByText := true, laidKinds := [.sentinel, .sentinel, .sentinel, .sentinel, .sentinel, .sentinel, .sentinel, .data], laidTests := true, laidLooks := .later }
def ReplicaPrefixUptoCardSaid : Prop := Claim7.holds Tryd.pinned (.plain (OpenSpec.upto replicaPrefixSpec)) replicaPrefixUptoCard
end Rows
end Go.Proofs.YtjhlelcopofkkaaDoor
