/-
  NARROWER THAN 'FOR EVERY INPUT', by the rows' own cells (each row's printed sentence says how): WalFrame: laid · WalFrames: laid · ReplicaNew: laid · WalTorn: laid · WalBurst: laid · DiskApart: laid · DiskMoves: laid · DiskPlays: laid · DiskArmed: laid · DiskLookFree: laid · DiskForgets: laid · DiskLasts: laid · ReplicaForks: laid · WalNew: laid · WalTwice: laid · WalFull: laid · WalCrash: laid · WalPlay: laid · ReplicaPrefix: laid.
  DERIVED. THE GIVEN ROWS OF THIS SEAT. 19 by the template 'for every input the law returns true; each argument reads behind the call as it read before'; 0 by the template 'total and deterministic' (their statements: YtjhlelcopofkkaaDoorTotals.lean).
  GIVEN WITH THE SEED: the statements are not yours to turn. If you find one false, say at which input.
  Laid BY PROGRAM, IN A SANDBOX (cutbox-rows.mjs): the forced cells as the released guide's own fill.sh prints them over the translation 7052ef295cf72fae… (all of the seat's roots in one cut). By AI agents, Wed Nov 11 2026. No macro, syntax, notation, axiom, sorry.
-/
import Derived.Test.YtjhlelcopofkkaaDoorChecked
import GoSem.Claim
import GoSem.ClaimJoined
import GoSem.ClaimMapViews
import Derived.JoinedTies
import Derived.KernelRfl
namespace Go.Proofs.YtjhlelcopofkkaaDoor
/- THE CELL 'sum', in the pinned program and in every row, IS THE sha256 OF THE DUMP (.gsa) THAT YtjhlelcopofkkaaDoorProg.lean LOADS. Nothing in Lean hashes anything: it is a label: what it is worth is what the hold of that sum in a sandbox is worth. -/
noncomputable def Tryd.pinned : Pinned := { name := "ytjhlelcopofkkaadoor", sum := "7052ef295cf72fae7916d20fc6a170d26f0129ca7bbe0507d6154c43e488954b", checked := Tryd.checked }
namespace Rows
def none {H : Type} : Left H := { results := [], args := [] }

/- WHAT THE LISTED PACKAGE-LEVEL VARIABLES READ AS WHEN THE CALL BEGINS. Each datum BY PROGRAM (the guide's laid-datum.mjs) off the statement by which the dump's own 'gosem.cut.vars' lays the variable. In a bare row this is a premise. The card (YtjhlelcopofkkaaDoorCards.lean) ties it to the program's text. -/
def laid_usher_api_ErrArg {H : Type} : DataW H := .iface "*errors.errorString" (.ptr (.agg [.lit (.string [97, 114, 103, 117, 109, 101, 110, 116])]))
def laid_usher_api_ErrText {H : Type} : DataW H := .iface "*errors.errorString" (.ptr (.agg [.lit (.string [116, 101, 120, 116])]))
def laid_usher_api_ErrMany {H : Type} : DataW H := .iface "*errors.errorString" (.ptr (.agg [.lit (.string [109, 97, 110, 121])]))
def laid_usher_api_ErrTwice {H : Type} : DataW H := .iface "*errors.errorString" (.ptr (.agg [.lit (.string [116, 119, 105, 99, 101])]))
def laid_usher_api_ErrScheme {H : Type} : DataW H := .iface "*errors.errorString" (.ptr (.agg [.lit (.string [115, 99, 104, 101, 109, 101])]))
def laid_usher_api_ErrShort {H : Type} : DataW H := .iface "*errors.errorString" (.ptr (.agg [.lit (.string [115, 104, 111, 114, 116])]))
def laid_usher_api_ErrDry {H : Type} : DataW H := .iface "*errors.errorString" (.ptr (.agg [.lit (.string [100, 114, 121])]))
def laid_usher_api_ErrTaken {H : Type} : DataW H := .iface "*errors.errorString" (.ptr (.agg [.lit (.string [116, 97, 107, 101, 110])]))
def laid_usher_api_ErrFull {H : Type} : DataW H := .iface "*errors.errorString" (.ptr (.agg [.lit (.string [102, 117, 108, 108])]))
def laid_usher_api_ErrDead {H : Type} : DataW H := .iface "*errors.errorString" (.ptr (.agg [.lit (.string [100, 101, 97, 100])]))
def laid_usher_api_ErrLog {H : Type} : DataW H := .iface "*errors.errorString" (.ptr (.agg [.lit (.string [108, 111, 103])]))
def laid_usher_api_ErrLost {H : Type} : DataW H := .iface "*errors.errorString" (.ptr (.agg [.lit (.string [108, 111, 115, 116])]))
def laid_usher_api_ErrDenied {H : Type} : DataW H := .iface "*errors.errorString" (.ptr (.agg [.lit (.string [100, 101, 110, 105, 101, 100])]))
def laid_usher_sums_crcRows {H : Type} : DataW H := .agg [.lit (.int .u32 0), .lit (.int .u32 498536548), .lit (.int .u32 997073096), .lit (.int .u32 651767980), .lit (.int .u32 1994146192), .lit (.int .u32 1802195444), .lit (.int .u32 1303535960), .lit (.int .u32 1342533948), .lit (.int .u32 3988292384), .lit (.int .u32 4027552580), .lit (.int .u32 3604390888), .lit (.int .u32 3412177804), .lit (.int .u32 2607071920), .lit (.int .u32 2262029012), .lit (.int .u32 2685067896), .lit (.int .u32 3183342108)]

/-- 'usherlaw13.WalFrame': WHATEVER THE INPUT: true; the input reads as it did. -/
def walFrameSpec : ChangeSpec := { name := "walFrame", fn := fun _ => fun
  | [d] => { results := [.lit (.bool true)], args := [d] }
  | _ => none }
def walFrameRow : OpenClaim := { program := "ytjhlelcopofkkaadoor", sum := "7052ef295cf72fae7916d20fc6a170d26f0129ca7bbe0507d6154c43e488954b", func := "usher/usherlaw13.WalFrame", spec := "walFrame", named := ["usher/api.ErrArg", "usher/sums.crcRows", "usher/api.ErrText", "usher/api.ErrMany", "usher/api.ErrTwice", "usher/api.ErrScheme", "usher/api.ErrShort", "usher/api.ErrDry", "usher/api.ErrTaken", "usher/api.ErrFull", "usher/api.ErrDead", "usher/api.ErrLog", "usher/api.ErrLost", "usher/api.ErrDenied"], apart := false, laid := [("usher/api.ErrArg", laid_usher_api_ErrArg), ("usher/api.ErrText", laid_usher_api_ErrText), ("usher/api.ErrMany", laid_usher_api_ErrMany), ("usher/api.ErrTwice", laid_usher_api_ErrTwice), ("usher/api.ErrScheme", laid_usher_api_ErrScheme), ("usher/api.ErrShort", laid_usher_api_ErrShort), ("usher/api.ErrDry", laid_usher_api_ErrDry), ("usher/api.ErrTaken", laid_usher_api_ErrTaken), ("usher/api.ErrFull", laid_usher_api_ErrFull), ("usher/api.ErrDead", laid_usher_api_ErrDead), ("usher/api.ErrLog", laid_usher_api_ErrLog), ("usher/api.ErrLost", laid_usher_api_ErrLost), ("usher/api.ErrDenied", laid_usher_api_ErrDenied), ("usher/sums.crcRows", laid_usher_sums_crcRows)] }
def WalFrameSaid : Prop := walFrameRow.holds Tryd.pinned (OpenSpec.ofChange walFrameSpec)

/-- ITS FALSE NEIGHBOUR: 'it returns false'. Refute it at one input. -/
def walFrameWrong : ChangeSpec := { name := "walFrame", fn := fun _ => fun
  | [d] => { results := [.lit (.bool false)], args := [d] }
  | _ => none }
def WalFrameWrongFalsely : Prop := walFrameRow.holds Tryd.pinned (OpenSpec.ofChange walFrameWrong)

/-- 'usherlaw13.WalFrames': WHATEVER THE INPUT: true; the input reads as it did. -/
def walFramesSpec : ChangeSpec := { name := "walFrames", fn := fun _ => fun
  | [d] => { results := [.lit (.bool true)], args := [d] }
  | _ => none }
def walFramesRow : OpenClaim := { program := "ytjhlelcopofkkaadoor", sum := "7052ef295cf72fae7916d20fc6a170d26f0129ca7bbe0507d6154c43e488954b", func := "usher/usherlaw13.WalFrames", spec := "walFrames", unfollowed := true, recurses := true, named := ["usher/sums.crcRows"], apart := false, laid := [("usher/sums.crcRows", laid_usher_sums_crcRows)] }
def WalFramesSaid : Prop := walFramesRow.holds Tryd.pinned (OpenSpec.ofChange walFramesSpec)

/-- ITS FALSE NEIGHBOUR: 'it returns false'. Refute it at one input. -/
def walFramesWrong : ChangeSpec := { name := "walFrames", fn := fun _ => fun
  | [d] => { results := [.lit (.bool false)], args := [d] }
  | _ => none }
def WalFramesWrongFalsely : Prop := walFramesRow.holds Tryd.pinned (OpenSpec.ofChange walFramesWrong)

/-- 'usherlaw27.ReplicaNew': WHATEVER THE INPUT: true; the input reads as it did. -/
def replicaNewSpec : ChangeSpec := { name := "replicaNew", fn := fun _ => fun
  | [d] => { results := [.lit (.bool true)], args := [d] }
  | _ => none }
def replicaNewRow : OpenClaim := { program := "ytjhlelcopofkkaadoor", sum := "7052ef295cf72fae7916d20fc6a170d26f0129ca7bbe0507d6154c43e488954b", func := "usher/usherlaw27.ReplicaNew", spec := "replicaNew", named := ["usher/api.ErrArg", "usher/sums.crcRows"], apart := false, laid := [("usher/api.ErrArg", laid_usher_api_ErrArg), ("usher/sums.crcRows", laid_usher_sums_crcRows)] }
def ReplicaNewSaid : Prop := replicaNewRow.holds Tryd.pinned (OpenSpec.ofChange replicaNewSpec)

/-- ITS FALSE NEIGHBOUR: 'it returns false'. Refute it at one input. -/
def replicaNewWrong : ChangeSpec := { name := "replicaNew", fn := fun _ => fun
  | [d] => { results := [.lit (.bool false)], args := [d] }
  | _ => none }
def ReplicaNewWrongFalsely : Prop := replicaNewRow.holds Tryd.pinned (OpenSpec.ofChange replicaNewWrong)

/-- 'usherlaw13.WalTorn': WHATEVER THE INPUT: true; the input reads as it did. -/
def walTornSpec : ChangeSpec := { name := "walTorn", fn := fun _ => fun
  | [d] => { results := [.lit (.bool true)], args := [d] }
  | _ => none }
def walTornRow : OpenClaim := { program := "ytjhlelcopofkkaadoor", sum := "7052ef295cf72fae7916d20fc6a170d26f0129ca7bbe0507d6154c43e488954b", func := "usher/usherlaw13.WalTorn", spec := "walTorn", unfollowed := true, recurses := true, named := ["usher/api.ErrArg", "usher/sums.crcRows"], apart := false, laid := [("usher/api.ErrArg", laid_usher_api_ErrArg), ("usher/sums.crcRows", laid_usher_sums_crcRows)] }
def WalTornSaid : Prop := walTornRow.holds Tryd.pinned (OpenSpec.ofChange walTornSpec)

/-- ITS FALSE NEIGHBOUR: 'it returns false'. Refute it at one input. -/
def walTornWrong : ChangeSpec := { name := "walTorn", fn := fun _ => fun
  | [d] => { results := [.lit (.bool false)], args := [d] }
  | _ => none }
def WalTornWrongFalsely : Prop := walTornRow.holds Tryd.pinned (OpenSpec.ofChange walTornWrong)

/-- 'usherlaw13.WalBurst': WHATEVER THE INPUT: true; the input reads as it did. -/
def walBurstSpec : ChangeSpec := { name := "walBurst", fn := fun _ => fun
  | [d] => { results := [.lit (.bool true)], args := [d] }
  | _ => none }
def walBurstRow : OpenClaim := { program := "ytjhlelcopofkkaadoor", sum := "7052ef295cf72fae7916d20fc6a170d26f0129ca7bbe0507d6154c43e488954b", func := "usher/usherlaw13.WalBurst", spec := "walBurst", unfollowed := true, recurses := true, named := ["usher/api.ErrArg", "usher/sums.crcRows"], apart := false, laid := [("usher/api.ErrArg", laid_usher_api_ErrArg), ("usher/sums.crcRows", laid_usher_sums_crcRows)] }
def WalBurstSaid : Prop := walBurstRow.holds Tryd.pinned (OpenSpec.ofChange walBurstSpec)

/-- ITS FALSE NEIGHBOUR: 'it returns false'. Refute it at one input. -/
def walBurstWrong : ChangeSpec := { name := "walBurst", fn := fun _ => fun
  | [d] => { results := [.lit (.bool false)], args := [d] }
  | _ => none }
def WalBurstWrongFalsely : Prop := walBurstRow.holds Tryd.pinned (OpenSpec.ofChange walBurstWrong)

/-- 'usherlaw12.DiskApart': WHATEVER THE INPUT: true; the input reads as it did. -/
def diskApartSpec : ChangeSpec := { name := "diskApart", fn := fun _ => fun
  | [d] => { results := [.lit (.bool true)], args := [d] }
  | _ => none }
def diskApartRow : OpenClaim := { program := "ytjhlelcopofkkaadoor", sum := "7052ef295cf72fae7916d20fc6a170d26f0129ca7bbe0507d6154c43e488954b", func := "usher/usherlaw12.DiskApart", spec := "diskApart", unfollowed := true, recurses := true, named := ["usher/api.ErrFull", "usher/api.ErrDead", "usher/api.ErrArg", "usher/api.ErrText", "usher/api.ErrMany", "usher/api.ErrTwice", "usher/api.ErrScheme", "usher/api.ErrShort", "usher/api.ErrDry", "usher/api.ErrTaken", "usher/api.ErrLog", "usher/api.ErrLost", "usher/api.ErrDenied"], apart := false, laid := [("usher/api.ErrArg", laid_usher_api_ErrArg), ("usher/api.ErrText", laid_usher_api_ErrText), ("usher/api.ErrMany", laid_usher_api_ErrMany), ("usher/api.ErrTwice", laid_usher_api_ErrTwice), ("usher/api.ErrScheme", laid_usher_api_ErrScheme), ("usher/api.ErrShort", laid_usher_api_ErrShort), ("usher/api.ErrDry", laid_usher_api_ErrDry), ("usher/api.ErrTaken", laid_usher_api_ErrTaken), ("usher/api.ErrFull", laid_usher_api_ErrFull), ("usher/api.ErrDead", laid_usher_api_ErrDead), ("usher/api.ErrLog", laid_usher_api_ErrLog), ("usher/api.ErrLost", laid_usher_api_ErrLost), ("usher/api.ErrDenied", laid_usher_api_ErrDenied)] }
def DiskApartSaid : Prop := diskApartRow.holds Tryd.pinned (OpenSpec.ofChange diskApartSpec)

/-- ITS FALSE NEIGHBOUR: 'it returns false'. Refute it at one input. -/
def diskApartWrong : ChangeSpec := { name := "diskApart", fn := fun _ => fun
  | [d] => { results := [.lit (.bool false)], args := [d] }
  | _ => none }
def DiskApartWrongFalsely : Prop := diskApartRow.holds Tryd.pinned (OpenSpec.ofChange diskApartWrong)

/-- 'usherlaw12.DiskMoves': WHATEVER THE INPUT: true; the input reads as it did. -/
def diskMovesSpec : ChangeSpec := { name := "diskMoves", fn := fun _ => fun
  | [d] => { results := [.lit (.bool true)], args := [d] }
  | _ => none }
def diskMovesRow : OpenClaim := { program := "ytjhlelcopofkkaadoor", sum := "7052ef295cf72fae7916d20fc6a170d26f0129ca7bbe0507d6154c43e488954b", func := "usher/usherlaw12.DiskMoves", spec := "diskMoves", unfollowed := true, recurses := true, named := ["usher/api.ErrFull", "usher/api.ErrDead", "usher/api.ErrArg", "usher/api.ErrText", "usher/api.ErrMany", "usher/api.ErrTwice", "usher/api.ErrScheme", "usher/api.ErrShort", "usher/api.ErrDry", "usher/api.ErrTaken", "usher/api.ErrLog", "usher/api.ErrLost", "usher/api.ErrDenied"], apart := false, laid := [("usher/api.ErrArg", laid_usher_api_ErrArg), ("usher/api.ErrText", laid_usher_api_ErrText), ("usher/api.ErrMany", laid_usher_api_ErrMany), ("usher/api.ErrTwice", laid_usher_api_ErrTwice), ("usher/api.ErrScheme", laid_usher_api_ErrScheme), ("usher/api.ErrShort", laid_usher_api_ErrShort), ("usher/api.ErrDry", laid_usher_api_ErrDry), ("usher/api.ErrTaken", laid_usher_api_ErrTaken), ("usher/api.ErrFull", laid_usher_api_ErrFull), ("usher/api.ErrDead", laid_usher_api_ErrDead), ("usher/api.ErrLog", laid_usher_api_ErrLog), ("usher/api.ErrLost", laid_usher_api_ErrLost), ("usher/api.ErrDenied", laid_usher_api_ErrDenied)] }
def DiskMovesSaid : Prop := diskMovesRow.holds Tryd.pinned (OpenSpec.ofChange diskMovesSpec)

/-- ITS FALSE NEIGHBOUR: 'it returns false'. Refute it at one input. -/
def diskMovesWrong : ChangeSpec := { name := "diskMoves", fn := fun _ => fun
  | [d] => { results := [.lit (.bool false)], args := [d] }
  | _ => none }
def DiskMovesWrongFalsely : Prop := diskMovesRow.holds Tryd.pinned (OpenSpec.ofChange diskMovesWrong)

/-- 'usherlaw12.DiskPlays': WHATEVER THE INPUT: true; the input reads as it did. -/
def diskPlaysSpec : ChangeSpec := { name := "diskPlays", fn := fun _ => fun
  | [d] => { results := [.lit (.bool true)], args := [d] }
  | _ => none }
def diskPlaysRow : OpenClaim := { program := "ytjhlelcopofkkaadoor", sum := "7052ef295cf72fae7916d20fc6a170d26f0129ca7bbe0507d6154c43e488954b", func := "usher/usherlaw12.DiskPlays", spec := "diskPlays", unfollowed := true, recurses := true, named := ["usher/api.ErrFull", "usher/api.ErrDead", "usher/api.ErrArg", "usher/api.ErrText", "usher/api.ErrMany", "usher/api.ErrTwice", "usher/api.ErrScheme", "usher/api.ErrShort", "usher/api.ErrDry", "usher/api.ErrTaken", "usher/api.ErrLog", "usher/api.ErrLost", "usher/api.ErrDenied"], apart := false, laid := [("usher/api.ErrArg", laid_usher_api_ErrArg), ("usher/api.ErrText", laid_usher_api_ErrText), ("usher/api.ErrMany", laid_usher_api_ErrMany), ("usher/api.ErrTwice", laid_usher_api_ErrTwice), ("usher/api.ErrScheme", laid_usher_api_ErrScheme), ("usher/api.ErrShort", laid_usher_api_ErrShort), ("usher/api.ErrDry", laid_usher_api_ErrDry), ("usher/api.ErrTaken", laid_usher_api_ErrTaken), ("usher/api.ErrFull", laid_usher_api_ErrFull), ("usher/api.ErrDead", laid_usher_api_ErrDead), ("usher/api.ErrLog", laid_usher_api_ErrLog), ("usher/api.ErrLost", laid_usher_api_ErrLost), ("usher/api.ErrDenied", laid_usher_api_ErrDenied)] }
def DiskPlaysSaid : Prop := diskPlaysRow.holds Tryd.pinned (OpenSpec.ofChange diskPlaysSpec)

/-- ITS FALSE NEIGHBOUR: 'it returns false'. Refute it at one input. -/
def diskPlaysWrong : ChangeSpec := { name := "diskPlays", fn := fun _ => fun
  | [d] => { results := [.lit (.bool false)], args := [d] }
  | _ => none }
def DiskPlaysWrongFalsely : Prop := diskPlaysRow.holds Tryd.pinned (OpenSpec.ofChange diskPlaysWrong)

/-- 'usherlaw12.DiskArmed': WHATEVER THE INPUT: true; the input reads as it did. -/
def diskArmedSpec : ChangeSpec := { name := "diskArmed", fn := fun _ => fun
  | [d] => { results := [.lit (.bool true)], args := [d] }
  | _ => none }
def diskArmedRow : OpenClaim := { program := "ytjhlelcopofkkaadoor", sum := "7052ef295cf72fae7916d20fc6a170d26f0129ca7bbe0507d6154c43e488954b", func := "usher/usherlaw12.DiskArmed", spec := "diskArmed", unfollowed := true, recurses := true, named := ["usher/api.ErrFull", "usher/api.ErrDead", "usher/api.ErrArg", "usher/api.ErrText", "usher/api.ErrMany", "usher/api.ErrTwice", "usher/api.ErrScheme", "usher/api.ErrShort", "usher/api.ErrDry", "usher/api.ErrTaken", "usher/api.ErrLog", "usher/api.ErrLost", "usher/api.ErrDenied"], apart := false, laid := [("usher/api.ErrArg", laid_usher_api_ErrArg), ("usher/api.ErrText", laid_usher_api_ErrText), ("usher/api.ErrMany", laid_usher_api_ErrMany), ("usher/api.ErrTwice", laid_usher_api_ErrTwice), ("usher/api.ErrScheme", laid_usher_api_ErrScheme), ("usher/api.ErrShort", laid_usher_api_ErrShort), ("usher/api.ErrDry", laid_usher_api_ErrDry), ("usher/api.ErrTaken", laid_usher_api_ErrTaken), ("usher/api.ErrFull", laid_usher_api_ErrFull), ("usher/api.ErrDead", laid_usher_api_ErrDead), ("usher/api.ErrLog", laid_usher_api_ErrLog), ("usher/api.ErrLost", laid_usher_api_ErrLost), ("usher/api.ErrDenied", laid_usher_api_ErrDenied)] }
def DiskArmedSaid : Prop := diskArmedRow.holds Tryd.pinned (OpenSpec.ofChange diskArmedSpec)

/-- ITS FALSE NEIGHBOUR: 'it returns false'. Refute it at one input. -/
def diskArmedWrong : ChangeSpec := { name := "diskArmed", fn := fun _ => fun
  | [d] => { results := [.lit (.bool false)], args := [d] }
  | _ => none }
def DiskArmedWrongFalsely : Prop := diskArmedRow.holds Tryd.pinned (OpenSpec.ofChange diskArmedWrong)

/-- 'usherlaw12.DiskLookFree': WHATEVER THE INPUT: true; the input reads as it did. -/
def diskLookFreeSpec : ChangeSpec := { name := "diskLookFree", fn := fun _ => fun
  | [d] => { results := [.lit (.bool true)], args := [d] }
  | _ => none }
def diskLookFreeRow : OpenClaim := { program := "ytjhlelcopofkkaadoor", sum := "7052ef295cf72fae7916d20fc6a170d26f0129ca7bbe0507d6154c43e488954b", func := "usher/usherlaw12.DiskLookFree", spec := "diskLookFree", unfollowed := true, recurses := true, named := ["usher/api.ErrFull", "usher/api.ErrDead", "usher/api.ErrArg", "usher/api.ErrText", "usher/api.ErrMany", "usher/api.ErrTwice", "usher/api.ErrScheme", "usher/api.ErrShort", "usher/api.ErrDry", "usher/api.ErrTaken", "usher/api.ErrLog", "usher/api.ErrLost", "usher/api.ErrDenied"], apart := false, laid := [("usher/api.ErrArg", laid_usher_api_ErrArg), ("usher/api.ErrText", laid_usher_api_ErrText), ("usher/api.ErrMany", laid_usher_api_ErrMany), ("usher/api.ErrTwice", laid_usher_api_ErrTwice), ("usher/api.ErrScheme", laid_usher_api_ErrScheme), ("usher/api.ErrShort", laid_usher_api_ErrShort), ("usher/api.ErrDry", laid_usher_api_ErrDry), ("usher/api.ErrTaken", laid_usher_api_ErrTaken), ("usher/api.ErrFull", laid_usher_api_ErrFull), ("usher/api.ErrDead", laid_usher_api_ErrDead), ("usher/api.ErrLog", laid_usher_api_ErrLog), ("usher/api.ErrLost", laid_usher_api_ErrLost), ("usher/api.ErrDenied", laid_usher_api_ErrDenied)] }
def DiskLookFreeSaid : Prop := diskLookFreeRow.holds Tryd.pinned (OpenSpec.ofChange diskLookFreeSpec)

/-- ITS FALSE NEIGHBOUR: 'it returns false'. Refute it at one input. -/
def diskLookFreeWrong : ChangeSpec := { name := "diskLookFree", fn := fun _ => fun
  | [d] => { results := [.lit (.bool false)], args := [d] }
  | _ => none }
def DiskLookFreeWrongFalsely : Prop := diskLookFreeRow.holds Tryd.pinned (OpenSpec.ofChange diskLookFreeWrong)

/-- 'usherlaw12.DiskForgets': WHATEVER THE INPUT: true; the input reads as it did. -/
def diskForgetsSpec : ChangeSpec := { name := "diskForgets", fn := fun _ => fun
  | [d] => { results := [.lit (.bool true)], args := [d] }
  | _ => none }
def diskForgetsRow : OpenClaim := { program := "ytjhlelcopofkkaadoor", sum := "7052ef295cf72fae7916d20fc6a170d26f0129ca7bbe0507d6154c43e488954b", func := "usher/usherlaw12.DiskForgets", spec := "diskForgets", unfollowed := true, recurses := true, named := ["usher/api.ErrFull", "usher/api.ErrDead", "usher/api.ErrArg", "usher/api.ErrText", "usher/api.ErrMany", "usher/api.ErrTwice", "usher/api.ErrScheme", "usher/api.ErrShort", "usher/api.ErrDry", "usher/api.ErrTaken", "usher/api.ErrLog", "usher/api.ErrLost", "usher/api.ErrDenied"], apart := false, laid := [("usher/api.ErrArg", laid_usher_api_ErrArg), ("usher/api.ErrText", laid_usher_api_ErrText), ("usher/api.ErrMany", laid_usher_api_ErrMany), ("usher/api.ErrTwice", laid_usher_api_ErrTwice), ("usher/api.ErrScheme", laid_usher_api_ErrScheme), ("usher/api.ErrShort", laid_usher_api_ErrShort), ("usher/api.ErrDry", laid_usher_api_ErrDry), ("usher/api.ErrTaken", laid_usher_api_ErrTaken), ("usher/api.ErrFull", laid_usher_api_ErrFull), ("usher/api.ErrDead", laid_usher_api_ErrDead), ("usher/api.ErrLog", laid_usher_api_ErrLog), ("usher/api.ErrLost", laid_usher_api_ErrLost), ("usher/api.ErrDenied", laid_usher_api_ErrDenied)] }
def DiskForgetsSaid : Prop := diskForgetsRow.holds Tryd.pinned (OpenSpec.ofChange diskForgetsSpec)

/-- ITS FALSE NEIGHBOUR: 'it returns false'. Refute it at one input. -/
def diskForgetsWrong : ChangeSpec := { name := "diskForgets", fn := fun _ => fun
  | [d] => { results := [.lit (.bool false)], args := [d] }
  | _ => none }
def DiskForgetsWrongFalsely : Prop := diskForgetsRow.holds Tryd.pinned (OpenSpec.ofChange diskForgetsWrong)

/-- 'usherlaw12.DiskLasts': WHATEVER THE INPUT: true; the input reads as it did. -/
def diskLastsSpec : ChangeSpec := { name := "diskLasts", fn := fun _ => fun
  | [d] => { results := [.lit (.bool true)], args := [d] }
  | _ => none }
def diskLastsRow : OpenClaim := { program := "ytjhlelcopofkkaadoor", sum := "7052ef295cf72fae7916d20fc6a170d26f0129ca7bbe0507d6154c43e488954b", func := "usher/usherlaw12.DiskLasts", spec := "diskLasts", unfollowed := true, recurses := true, named := ["usher/api.ErrFull", "usher/api.ErrDead", "usher/api.ErrArg", "usher/api.ErrText", "usher/api.ErrMany", "usher/api.ErrTwice", "usher/api.ErrScheme", "usher/api.ErrShort", "usher/api.ErrDry", "usher/api.ErrTaken", "usher/api.ErrLog", "usher/api.ErrLost", "usher/api.ErrDenied"], apart := false, laid := [("usher/api.ErrArg", laid_usher_api_ErrArg), ("usher/api.ErrText", laid_usher_api_ErrText), ("usher/api.ErrMany", laid_usher_api_ErrMany), ("usher/api.ErrTwice", laid_usher_api_ErrTwice), ("usher/api.ErrScheme", laid_usher_api_ErrScheme), ("usher/api.ErrShort", laid_usher_api_ErrShort), ("usher/api.ErrDry", laid_usher_api_ErrDry), ("usher/api.ErrTaken", laid_usher_api_ErrTaken), ("usher/api.ErrFull", laid_usher_api_ErrFull), ("usher/api.ErrDead", laid_usher_api_ErrDead), ("usher/api.ErrLog", laid_usher_api_ErrLog), ("usher/api.ErrLost", laid_usher_api_ErrLost), ("usher/api.ErrDenied", laid_usher_api_ErrDenied)] }
def DiskLastsSaid : Prop := diskLastsRow.holds Tryd.pinned (OpenSpec.ofChange diskLastsSpec)

/-- ITS FALSE NEIGHBOUR: 'it returns false'. Refute it at one input. -/
def diskLastsWrong : ChangeSpec := { name := "diskLasts", fn := fun _ => fun
  | [d] => { results := [.lit (.bool false)], args := [d] }
  | _ => none }
def DiskLastsWrongFalsely : Prop := diskLastsRow.holds Tryd.pinned (OpenSpec.ofChange diskLastsWrong)

/-- 'usherlaw27.ReplicaForks': WHATEVER THE INPUT: true; the input reads as it did. -/
def replicaForksSpec : ChangeSpec := { name := "replicaForks", fn := fun _ => fun
  | [d] => { results := [.lit (.bool true)], args := [d] }
  | _ => none }
def replicaForksRow : OpenClaim := { program := "ytjhlelcopofkkaadoor", sum := "7052ef295cf72fae7916d20fc6a170d26f0129ca7bbe0507d6154c43e488954b", func := "usher/usherlaw27.ReplicaForks", spec := "replicaForks", unfollowed := true, recurses := true, named := ["usher/api.ErrTwice", "usher/api.ErrFull", "usher/api.ErrDead", "usher/api.ErrArg", "usher/sums.crcRows", "usher/api.ErrLost", "usher/api.ErrText", "usher/api.ErrShort"], apart := false, laid := [("usher/api.ErrArg", laid_usher_api_ErrArg), ("usher/api.ErrText", laid_usher_api_ErrText), ("usher/api.ErrTwice", laid_usher_api_ErrTwice), ("usher/api.ErrShort", laid_usher_api_ErrShort), ("usher/api.ErrFull", laid_usher_api_ErrFull), ("usher/api.ErrDead", laid_usher_api_ErrDead), ("usher/api.ErrLost", laid_usher_api_ErrLost), ("usher/sums.crcRows", laid_usher_sums_crcRows)] }
def ReplicaForksSaid : Prop := replicaForksRow.holds Tryd.pinned (OpenSpec.ofChange replicaForksSpec)

/-- ITS FALSE NEIGHBOUR: 'it returns false'. Refute it at one input. -/
def replicaForksWrong : ChangeSpec := { name := "replicaForks", fn := fun _ => fun
  | [d] => { results := [.lit (.bool false)], args := [d] }
  | _ => none }
def ReplicaForksWrongFalsely : Prop := replicaForksRow.holds Tryd.pinned (OpenSpec.ofChange replicaForksWrong)

/-- 'usherlaw13.WalNew': WHATEVER THE INPUT: true; the input reads as it did. -/
def walNewSpec : ChangeSpec := { name := "walNew", fn := fun _ => fun
  | [d] => { results := [.lit (.bool true)], args := [d] }
  | _ => none }
def walNewRow : OpenClaim := { program := "ytjhlelcopofkkaadoor", sum := "7052ef295cf72fae7916d20fc6a170d26f0129ca7bbe0507d6154c43e488954b", func := "usher/usherlaw13.WalNew", spec := "walNew", unfollowed := true, recurses := true, named := ["usher/api.ErrArg", "usher/sums.crcRows", "usher/api.ErrDead"], apart := false, laid := [("usher/api.ErrArg", laid_usher_api_ErrArg), ("usher/api.ErrDead", laid_usher_api_ErrDead), ("usher/sums.crcRows", laid_usher_sums_crcRows)] }
def WalNewSaid : Prop := walNewRow.holds Tryd.pinned (OpenSpec.ofChange walNewSpec)

/-- ITS FALSE NEIGHBOUR: 'it returns false'. Refute it at one input. -/
def walNewWrong : ChangeSpec := { name := "walNew", fn := fun _ => fun
  | [d] => { results := [.lit (.bool false)], args := [d] }
  | _ => none }
def WalNewWrongFalsely : Prop := walNewRow.holds Tryd.pinned (OpenSpec.ofChange walNewWrong)

/-- 'usherlaw13.WalTwice': WHATEVER THE INPUT: true; the input reads as it did. -/
def walTwiceSpec : ChangeSpec := { name := "walTwice", fn := fun _ => fun
  | [d] => { results := [.lit (.bool true)], args := [d] }
  | _ => none }
def walTwiceRow : OpenClaim := { program := "ytjhlelcopofkkaadoor", sum := "7052ef295cf72fae7916d20fc6a170d26f0129ca7bbe0507d6154c43e488954b", func := "usher/usherlaw13.WalTwice", spec := "walTwice", unfollowed := true, recurses := true, named := ["usher/api.ErrArg", "usher/sums.crcRows", "usher/api.ErrDead"], apart := false, laid := [("usher/api.ErrArg", laid_usher_api_ErrArg), ("usher/api.ErrDead", laid_usher_api_ErrDead), ("usher/sums.crcRows", laid_usher_sums_crcRows)] }
def WalTwiceSaid : Prop := walTwiceRow.holds Tryd.pinned (OpenSpec.ofChange walTwiceSpec)

/-- ITS FALSE NEIGHBOUR: 'it returns false'. Refute it at one input. -/
def walTwiceWrong : ChangeSpec := { name := "walTwice", fn := fun _ => fun
  | [d] => { results := [.lit (.bool false)], args := [d] }
  | _ => none }
def WalTwiceWrongFalsely : Prop := walTwiceRow.holds Tryd.pinned (OpenSpec.ofChange walTwiceWrong)

/-- 'usherlaw13.WalFull': WHATEVER THE INPUT: true; the input reads as it did. -/
def walFullSpec : ChangeSpec := { name := "walFull", fn := fun _ => fun
  | [d] => { results := [.lit (.bool true)], args := [d] }
  | _ => none }
def walFullRow : OpenClaim := { program := "ytjhlelcopofkkaadoor", sum := "7052ef295cf72fae7916d20fc6a170d26f0129ca7bbe0507d6154c43e488954b", func := "usher/usherlaw13.WalFull", spec := "walFull", unfollowed := true, recurses := true, named := ["usher/api.ErrDead", "usher/sums.crcRows", "usher/api.ErrArg", "usher/api.ErrFull", "usher/api.ErrText", "usher/api.ErrMany", "usher/api.ErrTwice", "usher/api.ErrScheme", "usher/api.ErrShort", "usher/api.ErrDry", "usher/api.ErrTaken", "usher/api.ErrLog", "usher/api.ErrLost", "usher/api.ErrDenied"], apart := false, laid := [("usher/api.ErrArg", laid_usher_api_ErrArg), ("usher/api.ErrText", laid_usher_api_ErrText), ("usher/api.ErrMany", laid_usher_api_ErrMany), ("usher/api.ErrTwice", laid_usher_api_ErrTwice), ("usher/api.ErrScheme", laid_usher_api_ErrScheme), ("usher/api.ErrShort", laid_usher_api_ErrShort), ("usher/api.ErrDry", laid_usher_api_ErrDry), ("usher/api.ErrTaken", laid_usher_api_ErrTaken), ("usher/api.ErrFull", laid_usher_api_ErrFull), ("usher/api.ErrDead", laid_usher_api_ErrDead), ("usher/api.ErrLog", laid_usher_api_ErrLog), ("usher/api.ErrLost", laid_usher_api_ErrLost), ("usher/api.ErrDenied", laid_usher_api_ErrDenied), ("usher/sums.crcRows", laid_usher_sums_crcRows)] }
def WalFullSaid : Prop := walFullRow.holds Tryd.pinned (OpenSpec.ofChange walFullSpec)

/-- ITS FALSE NEIGHBOUR: 'it returns false'. Refute it at one input. -/
def walFullWrong : ChangeSpec := { name := "walFull", fn := fun _ => fun
  | [d] => { results := [.lit (.bool false)], args := [d] }
  | _ => none }
def WalFullWrongFalsely : Prop := walFullRow.holds Tryd.pinned (OpenSpec.ofChange walFullWrong)

/-- 'usherlaw13.WalCrash': WHATEVER THE INPUT: true; the input reads as it did. -/
def walCrashSpec : ChangeSpec := { name := "walCrash", fn := fun _ => fun
  | [d] => { results := [.lit (.bool true)], args := [d] }
  | _ => none }
def walCrashRow : OpenClaim := { program := "ytjhlelcopofkkaadoor", sum := "7052ef295cf72fae7916d20fc6a170d26f0129ca7bbe0507d6154c43e488954b", func := "usher/usherlaw13.WalCrash", spec := "walCrash", unfollowed := true, recurses := true, named := ["usher/api.ErrDead", "usher/sums.crcRows", "usher/api.ErrArg", "usher/api.ErrFull", "usher/api.ErrText", "usher/api.ErrMany", "usher/api.ErrTwice", "usher/api.ErrScheme", "usher/api.ErrShort", "usher/api.ErrDry", "usher/api.ErrTaken", "usher/api.ErrLog", "usher/api.ErrLost", "usher/api.ErrDenied"], apart := false, laid := [("usher/api.ErrArg", laid_usher_api_ErrArg), ("usher/api.ErrText", laid_usher_api_ErrText), ("usher/api.ErrMany", laid_usher_api_ErrMany), ("usher/api.ErrTwice", laid_usher_api_ErrTwice), ("usher/api.ErrScheme", laid_usher_api_ErrScheme), ("usher/api.ErrShort", laid_usher_api_ErrShort), ("usher/api.ErrDry", laid_usher_api_ErrDry), ("usher/api.ErrTaken", laid_usher_api_ErrTaken), ("usher/api.ErrFull", laid_usher_api_ErrFull), ("usher/api.ErrDead", laid_usher_api_ErrDead), ("usher/api.ErrLog", laid_usher_api_ErrLog), ("usher/api.ErrLost", laid_usher_api_ErrLost), ("usher/api.ErrDenied", laid_usher_api_ErrDenied), ("usher/sums.crcRows", laid_usher_sums_crcRows)] }
def WalCrashSaid : Prop := walCrashRow.holds Tryd.pinned (OpenSpec.ofChange walCrashSpec)

/-- ITS FALSE NEIGHBOUR: 'it returns false'. Refute it at one input. -/
def walCrashWrong : ChangeSpec := { name := "walCrash", fn := fun _ => fun
  | [d] => { results := [.lit (.bool false)], args := [d] }
  | _ => none }
def WalCrashWrongFalsely : Prop := walCrashRow.holds Tryd.pinned (OpenSpec.ofChange walCrashWrong)

/-- 'usherlaw13.WalPlay': WHATEVER THE INPUT: true; the input reads as it did. -/
def walPlaySpec : ChangeSpec := { name := "walPlay", fn := fun _ => fun
  | [d] => { results := [.lit (.bool true)], args := [d] }
  | _ => none }
def walPlayRow : OpenClaim := { program := "ytjhlelcopofkkaadoor", sum := "7052ef295cf72fae7916d20fc6a170d26f0129ca7bbe0507d6154c43e488954b", func := "usher/usherlaw13.WalPlay", spec := "walPlay", unfollowed := true, recurses := true, named := ["usher/api.ErrDead", "usher/sums.crcRows", "usher/api.ErrArg", "usher/api.ErrText", "usher/api.ErrMany", "usher/api.ErrTwice", "usher/api.ErrScheme", "usher/api.ErrShort", "usher/api.ErrDry", "usher/api.ErrTaken", "usher/api.ErrFull", "usher/api.ErrLog", "usher/api.ErrLost", "usher/api.ErrDenied"], apart := false, laid := [("usher/api.ErrArg", laid_usher_api_ErrArg), ("usher/api.ErrText", laid_usher_api_ErrText), ("usher/api.ErrMany", laid_usher_api_ErrMany), ("usher/api.ErrTwice", laid_usher_api_ErrTwice), ("usher/api.ErrScheme", laid_usher_api_ErrScheme), ("usher/api.ErrShort", laid_usher_api_ErrShort), ("usher/api.ErrDry", laid_usher_api_ErrDry), ("usher/api.ErrTaken", laid_usher_api_ErrTaken), ("usher/api.ErrFull", laid_usher_api_ErrFull), ("usher/api.ErrDead", laid_usher_api_ErrDead), ("usher/api.ErrLog", laid_usher_api_ErrLog), ("usher/api.ErrLost", laid_usher_api_ErrLost), ("usher/api.ErrDenied", laid_usher_api_ErrDenied), ("usher/sums.crcRows", laid_usher_sums_crcRows)] }
def WalPlaySaid : Prop := walPlayRow.holds Tryd.pinned (OpenSpec.ofChange walPlaySpec)

/-- ITS FALSE NEIGHBOUR: 'it returns false'. Refute it at one input. -/
def walPlayWrong : ChangeSpec := { name := "walPlay", fn := fun _ => fun
  | [d] => { results := [.lit (.bool false)], args := [d] }
  | _ => none }
def WalPlayWrongFalsely : Prop := walPlayRow.holds Tryd.pinned (OpenSpec.ofChange walPlayWrong)

/-- 'usherlaw27.ReplicaPrefix': WHATEVER THE INPUT: true; the input reads as it did. -/
def replicaPrefixSpec : ChangeSpec := { name := "replicaPrefix", fn := fun _ => fun
  | [d] => { results := [.lit (.bool true)], args := [d] }
  | _ => none }
def replicaPrefixRow : OpenClaim := { program := "ytjhlelcopofkkaadoor", sum := "7052ef295cf72fae7916d20fc6a170d26f0129ca7bbe0507d6154c43e488954b", func := "usher/usherlaw27.ReplicaPrefix", spec := "replicaPrefix", unfollowed := true, recurses := true, named := ["usher/api.ErrDead", "usher/api.ErrShort", "usher/api.ErrArg", "usher/sums.crcRows", "usher/api.ErrLost", "usher/api.ErrText", "usher/api.ErrTwice", "usher/api.ErrFull"], apart := false, laid := [("usher/api.ErrArg", laid_usher_api_ErrArg), ("usher/api.ErrText", laid_usher_api_ErrText), ("usher/api.ErrTwice", laid_usher_api_ErrTwice), ("usher/api.ErrShort", laid_usher_api_ErrShort), ("usher/api.ErrFull", laid_usher_api_ErrFull), ("usher/api.ErrDead", laid_usher_api_ErrDead), ("usher/api.ErrLost", laid_usher_api_ErrLost), ("usher/sums.crcRows", laid_usher_sums_crcRows)] }
def ReplicaPrefixSaid : Prop := replicaPrefixRow.holds Tryd.pinned (OpenSpec.ofChange replicaPrefixSpec)

/-- ITS FALSE NEIGHBOUR: 'it returns false'. Refute it at one input. -/
def replicaPrefixWrong : ChangeSpec := { name := "replicaPrefix", fn := fun _ => fun
  | [d] => { results := [.lit (.bool false)], args := [d] }
  | _ => none }
def ReplicaPrefixWrongFalsely : Prop := replicaPrefixRow.holds Tryd.pinned (OpenSpec.ofChange replicaPrefixWrong)

/- THE SECOND FORM. 'bulk': how many values and letters a reading holds, each counted each time it is reached (what is shared counts as often as it is met; a slice's spare places count too). A statement '..UptoSaid' is the law's where the arguments, and the package variables that the reading takes, are together of bulk at most 1048576: NARROWER than '..Said'. Prove '..Said' where nothing that the law and all that it calls make is longer than what came in: it says more and counts as full. Else prove '..UptoSaid'. A law counts once. -/
mutual
def uptoBulk {H : Type} : DataW H → Nat
  | .lit (.string bytes) => bytes.length + 1
  | .lit _ => 1
  | .nil => 1
  | .ptr d => uptoBulk d + 1
  | .slice elems spare => uptoBulkAll elems + uptoBulkAll spare + 1
  | .agg parts => uptoBulkAll parts + 1
  | .iface _ d => uptoBulk d + 1
  | .map entries => uptoBulkEntries entries + 1
  | .held _ => 1
def uptoBulkAll {H : Type} : List (DataW H) → Nat
  | [] => 0
  | d :: r => uptoBulk d + uptoBulkAll r
def uptoBulkEntries {H : Type} : List (Lit × DataW H) → Nat
  | [] => 0
  | x :: r => uptoBulkEntry x + uptoBulkEntries r
def uptoBulkEntry {H : Type} : Lit × DataW H → Nat
  | (.string bytes, d) => bytes.length + uptoBulk d + 1
  | (_, d) => uptoBulk d + 1
 end
def uptoSmall : (H : Type) → List (DataW H) → Bool := fun _ ds => decide (uptoBulkAll ds ≤ 1048576)
def OpenSpec.upto (s : _root_.Go.ChangeSpec) : _root_.Go.OpenSpec := { _root_.Go.OpenSpec.ofChange s with cond := some uptoSmall }

/-- 'usherlaw13.WalFrame', WHERE WHAT IT READS IS OF BULK AT MOST 1048576: true; the input reads as it did. -/
def walFrameUptoRow : OpenClaim := { program := "ytjhlelcopofkkaadoor", sum := "7052ef295cf72fae7916d20fc6a170d26f0129ca7bbe0507d6154c43e488954b", func := "usher/usherlaw13.WalFrame", spec := "walFrame", named := ["usher/api.ErrArg", "usher/sums.crcRows", "usher/api.ErrText", "usher/api.ErrMany", "usher/api.ErrTwice", "usher/api.ErrScheme", "usher/api.ErrShort", "usher/api.ErrDry", "usher/api.ErrTaken", "usher/api.ErrFull", "usher/api.ErrDead", "usher/api.ErrLog", "usher/api.ErrLost", "usher/api.ErrDenied"], apart := false, laid := [("usher/api.ErrArg", laid_usher_api_ErrArg), ("usher/api.ErrText", laid_usher_api_ErrText), ("usher/api.ErrMany", laid_usher_api_ErrMany), ("usher/api.ErrTwice", laid_usher_api_ErrTwice), ("usher/api.ErrScheme", laid_usher_api_ErrScheme), ("usher/api.ErrShort", laid_usher_api_ErrShort), ("usher/api.ErrDry", laid_usher_api_ErrDry), ("usher/api.ErrTaken", laid_usher_api_ErrTaken), ("usher/api.ErrFull", laid_usher_api_ErrFull), ("usher/api.ErrDead", laid_usher_api_ErrDead), ("usher/api.ErrLog", laid_usher_api_ErrLog), ("usher/api.ErrLost", laid_usher_api_ErrLost), ("usher/api.ErrDenied", laid_usher_api_ErrDenied), ("usher/sums.crcRows", laid_usher_sums_crcRows)], narrowed := true }
def WalFrameUptoSaid : Prop := walFrameUptoRow.holds Tryd.pinned (OpenSpec.upto walFrameSpec)

/-- 'usherlaw13.WalFrames', WHERE WHAT IT READS IS OF BULK AT MOST 1048576: true; the input reads as it did. -/
def walFramesUptoRow : OpenClaim := { program := "ytjhlelcopofkkaadoor", sum := "7052ef295cf72fae7916d20fc6a170d26f0129ca7bbe0507d6154c43e488954b", func := "usher/usherlaw13.WalFrames", spec := "walFrames", unfollowed := true, recurses := true, named := ["usher/sums.crcRows"], apart := false, laid := [("usher/sums.crcRows", laid_usher_sums_crcRows)], narrowed := true }
def WalFramesUptoSaid : Prop := walFramesUptoRow.holds Tryd.pinned (OpenSpec.upto walFramesSpec)

/-- 'usherlaw27.ReplicaNew', WHERE WHAT IT READS IS OF BULK AT MOST 1048576: true; the input reads as it did. -/
def replicaNewUptoRow : OpenClaim := { program := "ytjhlelcopofkkaadoor", sum := "7052ef295cf72fae7916d20fc6a170d26f0129ca7bbe0507d6154c43e488954b", func := "usher/usherlaw27.ReplicaNew", spec := "replicaNew", named := ["usher/api.ErrArg", "usher/sums.crcRows"], apart := false, laid := [("usher/api.ErrArg", laid_usher_api_ErrArg), ("usher/sums.crcRows", laid_usher_sums_crcRows)], narrowed := true }
def ReplicaNewUptoSaid : Prop := replicaNewUptoRow.holds Tryd.pinned (OpenSpec.upto replicaNewSpec)

/-- 'usherlaw13.WalTorn', WHERE WHAT IT READS IS OF BULK AT MOST 1048576: true; the input reads as it did. -/
def walTornUptoRow : OpenClaim := { program := "ytjhlelcopofkkaadoor", sum := "7052ef295cf72fae7916d20fc6a170d26f0129ca7bbe0507d6154c43e488954b", func := "usher/usherlaw13.WalTorn", spec := "walTorn", unfollowed := true, recurses := true, named := ["usher/api.ErrArg", "usher/sums.crcRows"], apart := false, laid := [("usher/api.ErrArg", laid_usher_api_ErrArg), ("usher/sums.crcRows", laid_usher_sums_crcRows)], narrowed := true }
def WalTornUptoSaid : Prop := walTornUptoRow.holds Tryd.pinned (OpenSpec.upto walTornSpec)

/-- 'usherlaw13.WalBurst', WHERE WHAT IT READS IS OF BULK AT MOST 1048576: true; the input reads as it did. -/
def walBurstUptoRow : OpenClaim := { program := "ytjhlelcopofkkaadoor", sum := "7052ef295cf72fae7916d20fc6a170d26f0129ca7bbe0507d6154c43e488954b", func := "usher/usherlaw13.WalBurst", spec := "walBurst", unfollowed := true, recurses := true, named := ["usher/api.ErrArg", "usher/sums.crcRows"], apart := false, laid := [("usher/api.ErrArg", laid_usher_api_ErrArg), ("usher/sums.crcRows", laid_usher_sums_crcRows)], narrowed := true }
def WalBurstUptoSaid : Prop := walBurstUptoRow.holds Tryd.pinned (OpenSpec.upto walBurstSpec)

/-- 'usherlaw12.DiskApart', WHERE WHAT IT READS IS OF BULK AT MOST 1048576: true; the input reads as it did. -/
def diskApartUptoRow : OpenClaim := { program := "ytjhlelcopofkkaadoor", sum := "7052ef295cf72fae7916d20fc6a170d26f0129ca7bbe0507d6154c43e488954b", func := "usher/usherlaw12.DiskApart", spec := "diskApart", unfollowed := true, recurses := true, named := ["usher/api.ErrFull", "usher/api.ErrDead", "usher/api.ErrArg", "usher/api.ErrText", "usher/api.ErrMany", "usher/api.ErrTwice", "usher/api.ErrScheme", "usher/api.ErrShort", "usher/api.ErrDry", "usher/api.ErrTaken", "usher/api.ErrLog", "usher/api.ErrLost", "usher/api.ErrDenied"], apart := false, laid := [("usher/api.ErrArg", laid_usher_api_ErrArg), ("usher/api.ErrText", laid_usher_api_ErrText), ("usher/api.ErrMany", laid_usher_api_ErrMany), ("usher/api.ErrTwice", laid_usher_api_ErrTwice), ("usher/api.ErrScheme", laid_usher_api_ErrScheme), ("usher/api.ErrShort", laid_usher_api_ErrShort), ("usher/api.ErrDry", laid_usher_api_ErrDry), ("usher/api.ErrTaken", laid_usher_api_ErrTaken), ("usher/api.ErrFull", laid_usher_api_ErrFull), ("usher/api.ErrDead", laid_usher_api_ErrDead), ("usher/api.ErrLog", laid_usher_api_ErrLog), ("usher/api.ErrLost", laid_usher_api_ErrLost), ("usher/api.ErrDenied", laid_usher_api_ErrDenied)], narrowed := true }
def DiskApartUptoSaid : Prop := diskApartUptoRow.holds Tryd.pinned (OpenSpec.upto diskApartSpec)

/-- 'usherlaw12.DiskMoves', WHERE WHAT IT READS IS OF BULK AT MOST 1048576: true; the input reads as it did. -/
def diskMovesUptoRow : OpenClaim := { program := "ytjhlelcopofkkaadoor", sum := "7052ef295cf72fae7916d20fc6a170d26f0129ca7bbe0507d6154c43e488954b", func := "usher/usherlaw12.DiskMoves", spec := "diskMoves", unfollowed := true, recurses := true, named := ["usher/api.ErrFull", "usher/api.ErrDead", "usher/api.ErrArg", "usher/api.ErrText", "usher/api.ErrMany", "usher/api.ErrTwice", "usher/api.ErrScheme", "usher/api.ErrShort", "usher/api.ErrDry", "usher/api.ErrTaken", "usher/api.ErrLog", "usher/api.ErrLost", "usher/api.ErrDenied"], apart := false, laid := [("usher/api.ErrArg", laid_usher_api_ErrArg), ("usher/api.ErrText", laid_usher_api_ErrText), ("usher/api.ErrMany", laid_usher_api_ErrMany), ("usher/api.ErrTwice", laid_usher_api_ErrTwice), ("usher/api.ErrScheme", laid_usher_api_ErrScheme), ("usher/api.ErrShort", laid_usher_api_ErrShort), ("usher/api.ErrDry", laid_usher_api_ErrDry), ("usher/api.ErrTaken", laid_usher_api_ErrTaken), ("usher/api.ErrFull", laid_usher_api_ErrFull), ("usher/api.ErrDead", laid_usher_api_ErrDead), ("usher/api.ErrLog", laid_usher_api_ErrLog), ("usher/api.ErrLost", laid_usher_api_ErrLost), ("usher/api.ErrDenied", laid_usher_api_ErrDenied)], narrowed := true }
def DiskMovesUptoSaid : Prop := diskMovesUptoRow.holds Tryd.pinned (OpenSpec.upto diskMovesSpec)

/-- 'usherlaw12.DiskPlays', WHERE WHAT IT READS IS OF BULK AT MOST 1048576: true; the input reads as it did. -/
def diskPlaysUptoRow : OpenClaim := { program := "ytjhlelcopofkkaadoor", sum := "7052ef295cf72fae7916d20fc6a170d26f0129ca7bbe0507d6154c43e488954b", func := "usher/usherlaw12.DiskPlays", spec := "diskPlays", unfollowed := true, recurses := true, named := ["usher/api.ErrFull", "usher/api.ErrDead", "usher/api.ErrArg", "usher/api.ErrText", "usher/api.ErrMany", "usher/api.ErrTwice", "usher/api.ErrScheme", "usher/api.ErrShort", "usher/api.ErrDry", "usher/api.ErrTaken", "usher/api.ErrLog", "usher/api.ErrLost", "usher/api.ErrDenied"], apart := false, laid := [("usher/api.ErrArg", laid_usher_api_ErrArg), ("usher/api.ErrText", laid_usher_api_ErrText), ("usher/api.ErrMany", laid_usher_api_ErrMany), ("usher/api.ErrTwice", laid_usher_api_ErrTwice), ("usher/api.ErrScheme", laid_usher_api_ErrScheme), ("usher/api.ErrShort", laid_usher_api_ErrShort), ("usher/api.ErrDry", laid_usher_api_ErrDry), ("usher/api.ErrTaken", laid_usher_api_ErrTaken), ("usher/api.ErrFull", laid_usher_api_ErrFull), ("usher/api.ErrDead", laid_usher_api_ErrDead), ("usher/api.ErrLog", laid_usher_api_ErrLog), ("usher/api.ErrLost", laid_usher_api_ErrLost), ("usher/api.ErrDenied", laid_usher_api_ErrDenied)], narrowed := true }
def DiskPlaysUptoSaid : Prop := diskPlaysUptoRow.holds Tryd.pinned (OpenSpec.upto diskPlaysSpec)

/-- 'usherlaw12.DiskArmed', WHERE WHAT IT READS IS OF BULK AT MOST 1048576: true; the input reads as it did. -/
def diskArmedUptoRow : OpenClaim := { program := "ytjhlelcopofkkaadoor", sum := "7052ef295cf72fae7916d20fc6a170d26f0129ca7bbe0507d6154c43e488954b", func := "usher/usherlaw12.DiskArmed", spec := "diskArmed", unfollowed := true, recurses := true, named := ["usher/api.ErrFull", "usher/api.ErrDead", "usher/api.ErrArg", "usher/api.ErrText", "usher/api.ErrMany", "usher/api.ErrTwice", "usher/api.ErrScheme", "usher/api.ErrShort", "usher/api.ErrDry", "usher/api.ErrTaken", "usher/api.ErrLog", "usher/api.ErrLost", "usher/api.ErrDenied"], apart := false, laid := [("usher/api.ErrArg", laid_usher_api_ErrArg), ("usher/api.ErrText", laid_usher_api_ErrText), ("usher/api.ErrMany", laid_usher_api_ErrMany), ("usher/api.ErrTwice", laid_usher_api_ErrTwice), ("usher/api.ErrScheme", laid_usher_api_ErrScheme), ("usher/api.ErrShort", laid_usher_api_ErrShort), ("usher/api.ErrDry", laid_usher_api_ErrDry), ("usher/api.ErrTaken", laid_usher_api_ErrTaken), ("usher/api.ErrFull", laid_usher_api_ErrFull), ("usher/api.ErrDead", laid_usher_api_ErrDead), ("usher/api.ErrLog", laid_usher_api_ErrLog), ("usher/api.ErrLost", laid_usher_api_ErrLost), ("usher/api.ErrDenied", laid_usher_api_ErrDenied)], narrowed := true }
def DiskArmedUptoSaid : Prop := diskArmedUptoRow.holds Tryd.pinned (OpenSpec.upto diskArmedSpec)

/-- 'usherlaw12.DiskLookFree', WHERE WHAT IT READS IS OF BULK AT MOST 1048576: true; the input reads as it did. -/
def diskLookFreeUptoRow : OpenClaim := { program := "ytjhlelcopofkkaadoor", sum := "7052ef295cf72fae7916d20fc6a170d26f0129ca7bbe0507d6154c43e488954b", func := "usher/usherlaw12.DiskLookFree", spec := "diskLookFree", unfollowed := true, recurses := true, named := ["usher/api.ErrFull", "usher/api.ErrDead", "usher/api.ErrArg", "usher/api.ErrText", "usher/api.ErrMany", "usher/api.ErrTwice", "usher/api.ErrScheme", "usher/api.ErrShort", "usher/api.ErrDry", "usher/api.ErrTaken", "usher/api.ErrLog", "usher/api.ErrLost", "usher/api.ErrDenied"], apart := false, laid := [("usher/api.ErrArg", laid_usher_api_ErrArg), ("usher/api.ErrText", laid_usher_api_ErrText), ("usher/api.ErrMany", laid_usher_api_ErrMany), ("usher/api.ErrTwice", laid_usher_api_ErrTwice), ("usher/api.ErrScheme", laid_usher_api_ErrScheme), ("usher/api.ErrShort", laid_usher_api_ErrShort), ("usher/api.ErrDry", laid_usher_api_ErrDry), ("usher/api.ErrTaken", laid_usher_api_ErrTaken), ("usher/api.ErrFull", laid_usher_api_ErrFull), ("usher/api.ErrDead", laid_usher_api_ErrDead), ("usher/api.ErrLog", laid_usher_api_ErrLog), ("usher/api.ErrLost", laid_usher_api_ErrLost), ("usher/api.ErrDenied", laid_usher_api_ErrDenied)], narrowed := true }
def DiskLookFreeUptoSaid : Prop := diskLookFreeUptoRow.holds Tryd.pinned (OpenSpec.upto diskLookFreeSpec)

/-- 'usherlaw12.DiskForgets', WHERE WHAT IT READS IS OF BULK AT MOST 1048576: true; the input reads as it did. -/
def diskForgetsUptoRow : OpenClaim := { program := "ytjhlelcopofkkaadoor", sum := "7052ef295cf72fae7916d20fc6a170d26f0129ca7bbe0507d6154c43e488954b", func := "usher/usherlaw12.DiskForgets", spec := "diskForgets", unfollowed := true, recurses := true, named := ["usher/api.ErrFull", "usher/api.ErrDead", "usher/api.ErrArg", "usher/api.ErrText", "usher/api.ErrMany", "usher/api.ErrTwice", "usher/api.ErrScheme", "usher/api.ErrShort", "usher/api.ErrDry", "usher/api.ErrTaken", "usher/api.ErrLog", "usher/api.ErrLost", "usher/api.ErrDenied"], apart := false, laid := [("usher/api.ErrArg", laid_usher_api_ErrArg), ("usher/api.ErrText", laid_usher_api_ErrText), ("usher/api.ErrMany", laid_usher_api_ErrMany), ("usher/api.ErrTwice", laid_usher_api_ErrTwice), ("usher/api.ErrScheme", laid_usher_api_ErrScheme), ("usher/api.ErrShort", laid_usher_api_ErrShort), ("usher/api.ErrDry", laid_usher_api_ErrDry), ("usher/api.ErrTaken", laid_usher_api_ErrTaken), ("usher/api.ErrFull", laid_usher_api_ErrFull), ("usher/api.ErrDead", laid_usher_api_ErrDead), ("usher/api.ErrLog", laid_usher_api_ErrLog), ("usher/api.ErrLost", laid_usher_api_ErrLost), ("usher/api.ErrDenied", laid_usher_api_ErrDenied)], narrowed := true }
def DiskForgetsUptoSaid : Prop := diskForgetsUptoRow.holds Tryd.pinned (OpenSpec.upto diskForgetsSpec)

/-- 'usherlaw12.DiskLasts', WHERE WHAT IT READS IS OF BULK AT MOST 1048576: true; the input reads as it did. -/
def diskLastsUptoRow : OpenClaim := { program := "ytjhlelcopofkkaadoor", sum := "7052ef295cf72fae7916d20fc6a170d26f0129ca7bbe0507d6154c43e488954b", func := "usher/usherlaw12.DiskLasts", spec := "diskLasts", unfollowed := true, recurses := true, named := ["usher/api.ErrFull", "usher/api.ErrDead", "usher/api.ErrArg", "usher/api.ErrText", "usher/api.ErrMany", "usher/api.ErrTwice", "usher/api.ErrScheme", "usher/api.ErrShort", "usher/api.ErrDry", "usher/api.ErrTaken", "usher/api.ErrLog", "usher/api.ErrLost", "usher/api.ErrDenied"], apart := false, laid := [("usher/api.ErrArg", laid_usher_api_ErrArg), ("usher/api.ErrText", laid_usher_api_ErrText), ("usher/api.ErrMany", laid_usher_api_ErrMany), ("usher/api.ErrTwice", laid_usher_api_ErrTwice), ("usher/api.ErrScheme", laid_usher_api_ErrScheme), ("usher/api.ErrShort", laid_usher_api_ErrShort), ("usher/api.ErrDry", laid_usher_api_ErrDry), ("usher/api.ErrTaken", laid_usher_api_ErrTaken), ("usher/api.ErrFull", laid_usher_api_ErrFull), ("usher/api.ErrDead", laid_usher_api_ErrDead), ("usher/api.ErrLog", laid_usher_api_ErrLog), ("usher/api.ErrLost", laid_usher_api_ErrLost), ("usher/api.ErrDenied", laid_usher_api_ErrDenied)], narrowed := true }
def DiskLastsUptoSaid : Prop := diskLastsUptoRow.holds Tryd.pinned (OpenSpec.upto diskLastsSpec)

/-- 'usherlaw27.ReplicaForks', WHERE WHAT IT READS IS OF BULK AT MOST 1048576: true; the input reads as it did. -/
def replicaForksUptoRow : OpenClaim := { program := "ytjhlelcopofkkaadoor", sum := "7052ef295cf72fae7916d20fc6a170d26f0129ca7bbe0507d6154c43e488954b", func := "usher/usherlaw27.ReplicaForks", spec := "replicaForks", unfollowed := true, recurses := true, named := ["usher/api.ErrTwice", "usher/api.ErrFull", "usher/api.ErrDead", "usher/api.ErrArg", "usher/sums.crcRows", "usher/api.ErrLost", "usher/api.ErrText", "usher/api.ErrShort"], apart := false, laid := [("usher/api.ErrArg", laid_usher_api_ErrArg), ("usher/api.ErrText", laid_usher_api_ErrText), ("usher/api.ErrTwice", laid_usher_api_ErrTwice), ("usher/api.ErrShort", laid_usher_api_ErrShort), ("usher/api.ErrFull", laid_usher_api_ErrFull), ("usher/api.ErrDead", laid_usher_api_ErrDead), ("usher/api.ErrLost", laid_usher_api_ErrLost), ("usher/sums.crcRows", laid_usher_sums_crcRows)], narrowed := true }
def ReplicaForksUptoSaid : Prop := replicaForksUptoRow.holds Tryd.pinned (OpenSpec.upto replicaForksSpec)

/-- 'usherlaw13.WalNew', WHERE WHAT IT READS IS OF BULK AT MOST 1048576: true; the input reads as it did. -/
def walNewUptoRow : OpenClaim := { program := "ytjhlelcopofkkaadoor", sum := "7052ef295cf72fae7916d20fc6a170d26f0129ca7bbe0507d6154c43e488954b", func := "usher/usherlaw13.WalNew", spec := "walNew", unfollowed := true, recurses := true, named := ["usher/api.ErrArg", "usher/sums.crcRows", "usher/api.ErrDead"], apart := false, laid := [("usher/api.ErrArg", laid_usher_api_ErrArg), ("usher/api.ErrDead", laid_usher_api_ErrDead), ("usher/sums.crcRows", laid_usher_sums_crcRows)], narrowed := true }
def WalNewUptoSaid : Prop := walNewUptoRow.holds Tryd.pinned (OpenSpec.upto walNewSpec)

/-- 'usherlaw13.WalTwice', WHERE WHAT IT READS IS OF BULK AT MOST 1048576: true; the input reads as it did. -/
def walTwiceUptoRow : OpenClaim := { program := "ytjhlelcopofkkaadoor", sum := "7052ef295cf72fae7916d20fc6a170d26f0129ca7bbe0507d6154c43e488954b", func := "usher/usherlaw13.WalTwice", spec := "walTwice", unfollowed := true, recurses := true, named := ["usher/api.ErrArg", "usher/sums.crcRows", "usher/api.ErrDead"], apart := false, laid := [("usher/api.ErrArg", laid_usher_api_ErrArg), ("usher/api.ErrDead", laid_usher_api_ErrDead), ("usher/sums.crcRows", laid_usher_sums_crcRows)], narrowed := true }
def WalTwiceUptoSaid : Prop := walTwiceUptoRow.holds Tryd.pinned (OpenSpec.upto walTwiceSpec)

/-- 'usherlaw13.WalFull', WHERE WHAT IT READS IS OF BULK AT MOST 1048576: true; the input reads as it did. -/
def walFullUptoRow : OpenClaim := { program := "ytjhlelcopofkkaadoor", sum := "7052ef295cf72fae7916d20fc6a170d26f0129ca7bbe0507d6154c43e488954b", func := "usher/usherlaw13.WalFull", spec := "walFull", unfollowed := true, recurses := true, named := ["usher/api.ErrDead", "usher/sums.crcRows", "usher/api.ErrArg", "usher/api.ErrFull", "usher/api.ErrText", "usher/api.ErrMany", "usher/api.ErrTwice", "usher/api.ErrScheme", "usher/api.ErrShort", "usher/api.ErrDry", "usher/api.ErrTaken", "usher/api.ErrLog", "usher/api.ErrLost", "usher/api.ErrDenied"], apart := false, laid := [("usher/api.ErrArg", laid_usher_api_ErrArg), ("usher/api.ErrText", laid_usher_api_ErrText), ("usher/api.ErrMany", laid_usher_api_ErrMany), ("usher/api.ErrTwice", laid_usher_api_ErrTwice), ("usher/api.ErrScheme", laid_usher_api_ErrScheme), ("usher/api.ErrShort", laid_usher_api_ErrShort), ("usher/api.ErrDry", laid_usher_api_ErrDry), ("usher/api.ErrTaken", laid_usher_api_ErrTaken), ("usher/api.ErrFull", laid_usher_api_ErrFull), ("usher/api.ErrDead", laid_usher_api_ErrDead), ("usher/api.ErrLog", laid_usher_api_ErrLog), ("usher/api.ErrLost", laid_usher_api_ErrLost), ("usher/api.ErrDenied", laid_usher_api_ErrDenied), ("usher/sums.crcRows", laid_usher_sums_crcRows)], narrowed := true }
def WalFullUptoSaid : Prop := walFullUptoRow.holds Tryd.pinned (OpenSpec.upto walFullSpec)

/-- 'usherlaw13.WalCrash', WHERE WHAT IT READS IS OF BULK AT MOST 1048576: true; the input reads as it did. -/
def walCrashUptoRow : OpenClaim := { program := "ytjhlelcopofkkaadoor", sum := "7052ef295cf72fae7916d20fc6a170d26f0129ca7bbe0507d6154c43e488954b", func := "usher/usherlaw13.WalCrash", spec := "walCrash", unfollowed := true, recurses := true, named := ["usher/api.ErrDead", "usher/sums.crcRows", "usher/api.ErrArg", "usher/api.ErrFull", "usher/api.ErrText", "usher/api.ErrMany", "usher/api.ErrTwice", "usher/api.ErrScheme", "usher/api.ErrShort", "usher/api.ErrDry", "usher/api.ErrTaken", "usher/api.ErrLog", "usher/api.ErrLost", "usher/api.ErrDenied"], apart := false, laid := [("usher/api.ErrArg", laid_usher_api_ErrArg), ("usher/api.ErrText", laid_usher_api_ErrText), ("usher/api.ErrMany", laid_usher_api_ErrMany), ("usher/api.ErrTwice", laid_usher_api_ErrTwice), ("usher/api.ErrScheme", laid_usher_api_ErrScheme), ("usher/api.ErrShort", laid_usher_api_ErrShort), ("usher/api.ErrDry", laid_usher_api_ErrDry), ("usher/api.ErrTaken", laid_usher_api_ErrTaken), ("usher/api.ErrFull", laid_usher_api_ErrFull), ("usher/api.ErrDead", laid_usher_api_ErrDead), ("usher/api.ErrLog", laid_usher_api_ErrLog), ("usher/api.ErrLost", laid_usher_api_ErrLost), ("usher/api.ErrDenied", laid_usher_api_ErrDenied), ("usher/sums.crcRows", laid_usher_sums_crcRows)], narrowed := true }
def WalCrashUptoSaid : Prop := walCrashUptoRow.holds Tryd.pinned (OpenSpec.upto walCrashSpec)

/-- 'usherlaw13.WalPlay', WHERE WHAT IT READS IS OF BULK AT MOST 1048576: true; the input reads as it did. -/
def walPlayUptoRow : OpenClaim := { program := "ytjhlelcopofkkaadoor", sum := "7052ef295cf72fae7916d20fc6a170d26f0129ca7bbe0507d6154c43e488954b", func := "usher/usherlaw13.WalPlay", spec := "walPlay", unfollowed := true, recurses := true, named := ["usher/api.ErrDead", "usher/sums.crcRows", "usher/api.ErrArg", "usher/api.ErrText", "usher/api.ErrMany", "usher/api.ErrTwice", "usher/api.ErrScheme", "usher/api.ErrShort", "usher/api.ErrDry", "usher/api.ErrTaken", "usher/api.ErrFull", "usher/api.ErrLog", "usher/api.ErrLost", "usher/api.ErrDenied"], apart := false, laid := [("usher/api.ErrArg", laid_usher_api_ErrArg), ("usher/api.ErrText", laid_usher_api_ErrText), ("usher/api.ErrMany", laid_usher_api_ErrMany), ("usher/api.ErrTwice", laid_usher_api_ErrTwice), ("usher/api.ErrScheme", laid_usher_api_ErrScheme), ("usher/api.ErrShort", laid_usher_api_ErrShort), ("usher/api.ErrDry", laid_usher_api_ErrDry), ("usher/api.ErrTaken", laid_usher_api_ErrTaken), ("usher/api.ErrFull", laid_usher_api_ErrFull), ("usher/api.ErrDead", laid_usher_api_ErrDead), ("usher/api.ErrLog", laid_usher_api_ErrLog), ("usher/api.ErrLost", laid_usher_api_ErrLost), ("usher/api.ErrDenied", laid_usher_api_ErrDenied), ("usher/sums.crcRows", laid_usher_sums_crcRows)], narrowed := true }
def WalPlayUptoSaid : Prop := walPlayUptoRow.holds Tryd.pinned (OpenSpec.upto walPlaySpec)

/-- 'usherlaw27.ReplicaPrefix', WHERE WHAT IT READS IS OF BULK AT MOST 1048576: true; the input reads as it did. -/
def replicaPrefixUptoRow : OpenClaim := { program := "ytjhlelcopofkkaadoor", sum := "7052ef295cf72fae7916d20fc6a170d26f0129ca7bbe0507d6154c43e488954b", func := "usher/usherlaw27.ReplicaPrefix", spec := "replicaPrefix", unfollowed := true, recurses := true, named := ["usher/api.ErrDead", "usher/api.ErrShort", "usher/api.ErrArg", "usher/sums.crcRows", "usher/api.ErrLost", "usher/api.ErrText", "usher/api.ErrTwice", "usher/api.ErrFull"], apart := false, laid := [("usher/api.ErrArg", laid_usher_api_ErrArg), ("usher/api.ErrText", laid_usher_api_ErrText), ("usher/api.ErrTwice", laid_usher_api_ErrTwice), ("usher/api.ErrShort", laid_usher_api_ErrShort), ("usher/api.ErrFull", laid_usher_api_ErrFull), ("usher/api.ErrDead", laid_usher_api_ErrDead), ("usher/api.ErrLost", laid_usher_api_ErrLost), ("usher/sums.crcRows", laid_usher_sums_crcRows)], narrowed := true }
def ReplicaPrefixUptoSaid : Prop := replicaPrefixUptoRow.holds Tryd.pinned (OpenSpec.upto replicaPrefixSpec)

end Rows
end Go.Proofs.YtjhlelcopofkkaaDoor
