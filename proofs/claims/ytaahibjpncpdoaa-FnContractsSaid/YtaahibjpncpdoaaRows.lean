/-
  No cell of these rows narrows 'for every input' (looked for: loops, veiled, ifaces, maps, wideKeys, modest, calm, conditions, laid).
  DERIVED. THE GIVEN ROWS OF THIS SEAT. 12 by the template 'for every input the law returns true; each argument reads behind the call as it read before'; 0 by the template 'total and deterministic' (their statements: YtaahibjpncpdoaaTotals.lean).
  GIVEN WITH THE SEED: the statements are not yours to turn. If you find one false, say at which input.
  Laid BY PROGRAM, IN A SANDBOX (cutbox-rows.mjs): the forced cells as the released guide's own fill.sh prints them over the translation ecaa3d56b861aed6… (all of the seat's roots in one cut). By AI agents, Wed Nov 11 2026. No macro, syntax, notation, axiom, sorry.
-/
import Derived.Test.YtaahibjpncpdoaaChecked
import GoSem.Claim
import GoSem.ClaimJoined
import GoSem.ClaimMapViews
import Derived.JoinedTies
import Derived.KernelRfl
namespace Go.Proofs.Ytaahibjpncpdoaa
/- THE CELL 'sum', in the pinned program and in every row, IS THE sha256 OF THE DUMP (.gsa) THAT YtaahibjpncpdoaaProg.lean LOADS. Nothing in Lean hashes anything: it is a label: what it is worth is what the hold of that sum in a sandbox is worth. -/
noncomputable def Try.pinned : Pinned := { name := "ytaahibjpncpdoaa", sum := "ecaa3d56b861aed600f12500fb7098117331d8122b8b84d39a4d7e64e8d9a104", checked := Try.checked }
namespace Rows
def none {H : Type} : Left H := { results := [], args := [] }

/-- 'laws.FnExactBedOk': WHATEVER THE INPUT: true; the input reads as it did. -/
def fnExactBedOkSpec : ChangeSpec := { name := "fnExactBedOk", fn := fun _ => fun
  | [d] => { results := [.lit (.bool true)], args := [d] }
  | _ => none }
def fnExactBedOkRow : OpenClaim := { program := "ytaahibjpncpdoaa", sum := "ecaa3d56b861aed600f12500fb7098117331d8122b8b84d39a4d7e64e8d9a104", func := "loop.example/g03301/laws.FnExactBedOk", spec := "fnExactBedOk", apart := false }
def FnExactBedOkSaid : Prop := fnExactBedOkRow.holds Try.pinned (OpenSpec.ofChange fnExactBedOkSpec)

/-- ITS FALSE NEIGHBOUR: 'it returns false'. Refute it at one input. -/
def fnExactBedOkWrong : ChangeSpec := { name := "fnExactBedOk", fn := fun _ => fun
  | [d] => { results := [.lit (.bool false)], args := [d] }
  | _ => none }
def FnExactBedOkWrongFalsely : Prop := fnExactBedOkRow.holds Try.pinned (OpenSpec.ofChange fnExactBedOkWrong)

/-- 'laws.FnExactIsFrost': WHATEVER THE INPUT: true; the input reads as it did. -/
def fnExactIsFrostSpec : ChangeSpec := { name := "fnExactIsFrost", fn := fun _ => fun
  | [d1, d2] => { results := [.lit (.bool true)], args := [d1, d2] }
  | _ => none }
def fnExactIsFrostRow : OpenClaim := { program := "ytaahibjpncpdoaa", sum := "ecaa3d56b861aed600f12500fb7098117331d8122b8b84d39a4d7e64e8d9a104", func := "loop.example/g03301/laws.FnExactIsFrost", spec := "fnExactIsFrost", unfollowed := true, recurses := true, apart := false }
def FnExactIsFrostSaid : Prop := fnExactIsFrostRow.holds Try.pinned (OpenSpec.ofChange fnExactIsFrostSpec)

/-- ITS FALSE NEIGHBOUR: 'it returns false'. Refute it at one input. -/
def fnExactIsFrostWrong : ChangeSpec := { name := "fnExactIsFrost", fn := fun _ => fun
  | [d1, d2] => { results := [.lit (.bool false)], args := [d1, d2] }
  | _ => none }
def FnExactIsFrostWrongFalsely : Prop := fnExactIsFrostRow.holds Try.pinned (OpenSpec.ofChange fnExactIsFrostWrong)

/-- 'laws.FnExactActOk': WHATEVER THE INPUT: true; the input reads as it did. -/
def fnExactActOkSpec : ChangeSpec := { name := "fnExactActOk", fn := fun _ => fun
  | [d] => { results := [.lit (.bool true)], args := [d] }
  | _ => none }
def fnExactActOkRow : OpenClaim := { program := "ytaahibjpncpdoaa", sum := "ecaa3d56b861aed600f12500fb7098117331d8122b8b84d39a4d7e64e8d9a104", func := "loop.example/g03301/laws.FnExactActOk", spec := "fnExactActOk", apart := false }
def FnExactActOkSaid : Prop := fnExactActOkRow.holds Try.pinned (OpenSpec.ofChange fnExactActOkSpec)

/-- ITS FALSE NEIGHBOUR: 'it returns false'. Refute it at one input. -/
def fnExactActOkWrong : ChangeSpec := { name := "fnExactActOk", fn := fun _ => fun
  | [d] => { results := [.lit (.bool false)], args := [d] }
  | _ => none }
def FnExactActOkWrongFalsely : Prop := fnExactActOkRow.holds Try.pinned (OpenSpec.ofChange fnExactActOkWrong)

/-- 'laws.FnExactSetDay': WHATEVER THE INPUT: true; the input reads as it did. -/
def fnExactSetDaySpec : ChangeSpec := { name := "fnExactSetDay", fn := fun _ => fun
  | [d1, d2] => { results := [.lit (.bool true)], args := [d1, d2] }
  | _ => none }
def fnExactSetDayRow : OpenClaim := { program := "ytaahibjpncpdoaa", sum := "ecaa3d56b861aed600f12500fb7098117331d8122b8b84d39a4d7e64e8d9a104", func := "loop.example/g03301/laws.FnExactSetDay", spec := "fnExactSetDay", unfollowed := true, recurses := true, apart := false }
def FnExactSetDaySaid : Prop := fnExactSetDayRow.holds Try.pinned (OpenSpec.ofChange fnExactSetDaySpec)

/-- ITS FALSE NEIGHBOUR: 'it returns false'. Refute it at one input. -/
def fnExactSetDayWrong : ChangeSpec := { name := "fnExactSetDay", fn := fun _ => fun
  | [d1, d2] => { results := [.lit (.bool false)], args := [d1, d2] }
  | _ => none }
def FnExactSetDayWrongFalsely : Prop := fnExactSetDayRow.holds Try.pinned (OpenSpec.ofChange fnExactSetDayWrong)

/-- 'laws.FnExactBeginsLaying': WHATEVER THE INPUT: true; the input reads as it did. -/
def fnExactBeginsLayingSpec : ChangeSpec := { name := "fnExactBeginsLaying", fn := fun _ => fun
  | [d1, d2] => { results := [.lit (.bool true)], args := [d1, d2] }
  | _ => none }
def fnExactBeginsLayingRow : OpenClaim := { program := "ytaahibjpncpdoaa", sum := "ecaa3d56b861aed600f12500fb7098117331d8122b8b84d39a4d7e64e8d9a104", func := "loop.example/g03301/laws.FnExactBeginsLaying", spec := "fnExactBeginsLaying", unfollowed := true, recurses := true, apart := false }
def FnExactBeginsLayingSaid : Prop := fnExactBeginsLayingRow.holds Try.pinned (OpenSpec.ofChange fnExactBeginsLayingSpec)

/-- ITS FALSE NEIGHBOUR: 'it returns false'. Refute it at one input. -/
def fnExactBeginsLayingWrong : ChangeSpec := { name := "fnExactBeginsLaying", fn := fun _ => fun
  | [d1, d2] => { results := [.lit (.bool false)], args := [d1, d2] }
  | _ => none }
def FnExactBeginsLayingWrongFalsely : Prop := fnExactBeginsLayingRow.holds Try.pinned (OpenSpec.ofChange fnExactBeginsLayingWrong)

/-- 'laws.FnExactStagesOk': WHATEVER THE INPUT: true; the input reads as it did. -/
def fnExactStagesOkSpec : ChangeSpec := { name := "fnExactStagesOk", fn := fun _ => fun
  | [d] => { results := [.lit (.bool true)], args := [d] }
  | _ => none }
def fnExactStagesOkRow : OpenClaim := { program := "ytaahibjpncpdoaa", sum := "ecaa3d56b861aed600f12500fb7098117331d8122b8b84d39a4d7e64e8d9a104", func := "loop.example/g03301/laws.FnExactStagesOk", spec := "fnExactStagesOk", apart := false }
def FnExactStagesOkSaid : Prop := fnExactStagesOkRow.holds Try.pinned (OpenSpec.ofChange fnExactStagesOkSpec)

/-- ITS FALSE NEIGHBOUR: 'it returns false'. Refute it at one input. -/
def fnExactStagesOkWrong : ChangeSpec := { name := "fnExactStagesOk", fn := fun _ => fun
  | [d] => { results := [.lit (.bool false)], args := [d] }
  | _ => none }
def FnExactStagesOkWrongFalsely : Prop := fnExactStagesOkRow.holds Try.pinned (OpenSpec.ofChange fnExactStagesOkWrong)

/-- 'laws.FnExactNextStage': WHATEVER THE INPUT: true; the input reads as it did. -/
def fnExactNextStageSpec : ChangeSpec := { name := "fnExactNextStage", fn := fun _ => fun
  | [d] => { results := [.lit (.bool true)], args := [d] }
  | _ => none }
def fnExactNextStageRow : OpenClaim := { program := "ytaahibjpncpdoaa", sum := "ecaa3d56b861aed600f12500fb7098117331d8122b8b84d39a4d7e64e8d9a104", func := "loop.example/g03301/laws.FnExactNextStage", spec := "fnExactNextStage", unfollowed := true, recurses := true, apart := false }
def FnExactNextStageSaid : Prop := fnExactNextStageRow.holds Try.pinned (OpenSpec.ofChange fnExactNextStageSpec)

/-- ITS FALSE NEIGHBOUR: 'it returns false'. Refute it at one input. -/
def fnExactNextStageWrong : ChangeSpec := { name := "fnExactNextStage", fn := fun _ => fun
  | [d] => { results := [.lit (.bool false)], args := [d] }
  | _ => none }
def FnExactNextStageWrongFalsely : Prop := fnExactNextStageRow.holds Try.pinned (OpenSpec.ofChange fnExactNextStageWrong)

/-- 'laws.FnExactEarnedBy': WHATEVER THE INPUT: true; the input reads as it did. -/
def fnExactEarnedBySpec : ChangeSpec := { name := "fnExactEarnedBy", fn := fun _ => fun
  | [d1, d2, d3] => { results := [.lit (.bool true)], args := [d1, d2, d3] }
  | _ => none }
def fnExactEarnedByRow : OpenClaim := { program := "ytaahibjpncpdoaa", sum := "ecaa3d56b861aed600f12500fb7098117331d8122b8b84d39a4d7e64e8d9a104", func := "loop.example/g03301/laws.FnExactEarnedBy", spec := "fnExactEarnedBy", apart := false }
def FnExactEarnedBySaid : Prop := fnExactEarnedByRow.holds Try.pinned (OpenSpec.ofChange fnExactEarnedBySpec)

/-- ITS FALSE NEIGHBOUR: 'it returns false'. Refute it at one input. -/
def fnExactEarnedByWrong : ChangeSpec := { name := "fnExactEarnedBy", fn := fun _ => fun
  | [d1, d2, d3] => { results := [.lit (.bool false)], args := [d1, d2, d3] }
  | _ => none }
def FnExactEarnedByWrongFalsely : Prop := fnExactEarnedByRow.holds Try.pinned (OpenSpec.ofChange fnExactEarnedByWrong)

/-- 'laws.FnExactAllSet': WHATEVER THE INPUT: true; the input reads as it did. -/
def fnExactAllSetSpec : ChangeSpec := { name := "fnExactAllSet", fn := fun _ => fun
  | [d1, d2] => { results := [.lit (.bool true)], args := [d1, d2] }
  | _ => none }
def fnExactAllSetRow : OpenClaim := { program := "ytaahibjpncpdoaa", sum := "ecaa3d56b861aed600f12500fb7098117331d8122b8b84d39a4d7e64e8d9a104", func := "loop.example/g03301/laws.FnExactAllSet", spec := "fnExactAllSet", unfollowed := true, recurses := true, apart := false }
def FnExactAllSetSaid : Prop := fnExactAllSetRow.holds Try.pinned (OpenSpec.ofChange fnExactAllSetSpec)

/-- ITS FALSE NEIGHBOUR: 'it returns false'. Refute it at one input. -/
def fnExactAllSetWrong : ChangeSpec := { name := "fnExactAllSet", fn := fun _ => fun
  | [d1, d2] => { results := [.lit (.bool false)], args := [d1, d2] }
  | _ => none }
def FnExactAllSetWrongFalsely : Prop := fnExactAllSetRow.holds Try.pinned (OpenSpec.ofChange fnExactAllSetWrong)

/-- 'laws.FnMortar': WHATEVER THE INPUT: true; the input reads as it did. -/
def fnMortarSpec : ChangeSpec := { name := "fnMortar", fn := fun _ => fun
  | [d] => { results := [.lit (.bool true)], args := [d] }
  | _ => none }
def fnMortarRow : OpenClaim := { program := "ytaahibjpncpdoaa", sum := "ecaa3d56b861aed600f12500fb7098117331d8122b8b84d39a4d7e64e8d9a104", func := "loop.example/g03301/laws.FnMortar", spec := "fnMortar", unfollowed := true, recurses := true, apart := false }
def FnMortarSaid : Prop := fnMortarRow.holds Try.pinned (OpenSpec.ofChange fnMortarSpec)

/-- ITS FALSE NEIGHBOUR: 'it returns false'. Refute it at one input. -/
def fnMortarWrong : ChangeSpec := { name := "fnMortar", fn := fun _ => fun
  | [d] => { results := [.lit (.bool false)], args := [d] }
  | _ => none }
def FnMortarWrongFalsely : Prop := fnMortarRow.holds Try.pinned (OpenSpec.ofChange fnMortarWrong)

/-- 'laws.FnExactLateStages': WHATEVER THE INPUT: true; the input reads as it did. -/
def fnExactLateStagesSpec : ChangeSpec := { name := "fnExactLateStages", fn := fun _ => fun
  | [d1, d2] => { results := [.lit (.bool true)], args := [d1, d2] }
  | _ => none }
def fnExactLateStagesRow : OpenClaim := { program := "ytaahibjpncpdoaa", sum := "ecaa3d56b861aed600f12500fb7098117331d8122b8b84d39a4d7e64e8d9a104", func := "loop.example/g03301/laws.FnExactLateStages", spec := "fnExactLateStages", apart := false }
def FnExactLateStagesSaid : Prop := fnExactLateStagesRow.holds Try.pinned (OpenSpec.ofChange fnExactLateStagesSpec)

/-- ITS FALSE NEIGHBOUR: 'it returns false'. Refute it at one input. -/
def fnExactLateStagesWrong : ChangeSpec := { name := "fnExactLateStages", fn := fun _ => fun
  | [d1, d2] => { results := [.lit (.bool false)], args := [d1, d2] }
  | _ => none }
def FnExactLateStagesWrongFalsely : Prop := fnExactLateStagesRow.holds Try.pinned (OpenSpec.ofChange fnExactLateStagesWrong)

/-- 'laws.FnContracts': WHATEVER THE INPUT: true; the input reads as it did. -/
def fnContractsSpec : ChangeSpec := { name := "fnContracts", fn := fun _ => fun
  | [d] => { results := [.lit (.bool true)], args := [d] }
  | _ => none }
def fnContractsRow : OpenClaim := { program := "ytaahibjpncpdoaa", sum := "ecaa3d56b861aed600f12500fb7098117331d8122b8b84d39a4d7e64e8d9a104", func := "loop.example/g03301/laws.FnContracts", spec := "fnContracts", unfollowed := true, recurses := true, apart := false }
def FnContractsSaid : Prop := fnContractsRow.holds Try.pinned (OpenSpec.ofChange fnContractsSpec)

/-- ITS FALSE NEIGHBOUR: 'it returns false'. Refute it at one input. -/
def fnContractsWrong : ChangeSpec := { name := "fnContracts", fn := fun _ => fun
  | [d] => { results := [.lit (.bool false)], args := [d] }
  | _ => none }
def FnContractsWrongFalsely : Prop := fnContractsRow.holds Try.pinned (OpenSpec.ofChange fnContractsWrong)

/- THE SECOND FORM. 'bulk': how many values and letters a reading holds, each counted each time it is reached (what is shared counts as often as it is met; a slice's spare places count too). A statement '..UptoSaid' is the law's where the arguments, and the package variables that the reading takes, are together of bulk at most 1048576: NARROWER than '..Said'. Prove '..Said' where nothing that the law and all that it calls make is longer than what came in: it says more and counts as full. Else prove '..UptoSaid'. A law counts once. -/
mutual
def uptoBulk {H : Type} : DataW H → Nat
  | .lit (.string bytes) => bytes.length + 1
  | .lit _ => 1
  | .nil => 1
  | .ptr d => uptoBulk d + 1
  | .slice elems spare => uptoBulkAll elems + uptoBulkAll spare + 1
  | .agg parts => uptoBulkAll parts + 1
  | .iface _ d => uptoBulk d + 1
  | .map entries => uptoBulkEntries entries + 1
  | .held _ => 1
def uptoBulkAll {H : Type} : List (DataW H) → Nat
  | [] => 0
  | d :: r => uptoBulk d + uptoBulkAll r
def uptoBulkEntries {H : Type} : List (Lit × DataW H) → Nat
  | [] => 0
  | x :: r => uptoBulkEntry x + uptoBulkEntries r
def uptoBulkEntry {H : Type} : Lit × DataW H → Nat
  | (.string bytes, d) => bytes.length + uptoBulk d + 1
  | (_, d) => uptoBulk d + 1
 end
def uptoSmall : (H : Type) → List (DataW H) → Bool := fun _ ds => decide (uptoBulkAll ds ≤ 1048576)
def OpenSpec.upto (s : _root_.Go.ChangeSpec) : _root_.Go.OpenSpec := { _root_.Go.OpenSpec.ofChange s with cond := some uptoSmall }

/-- 'laws.FnExactBedOk', WHERE WHAT IT READS IS OF BULK AT MOST 1048576: true; the input reads as it did. -/
def fnExactBedOkUptoRow : OpenClaim := { program := "ytaahibjpncpdoaa", sum := "ecaa3d56b861aed600f12500fb7098117331d8122b8b84d39a4d7e64e8d9a104", func := "loop.example/g03301/laws.FnExactBedOk", spec := "fnExactBedOk", apart := false, narrowed := true }
def FnExactBedOkUptoSaid : Prop := fnExactBedOkUptoRow.holds Try.pinned (OpenSpec.upto fnExactBedOkSpec)

/-- 'laws.FnExactIsFrost', WHERE WHAT IT READS IS OF BULK AT MOST 1048576: true; the input reads as it did. -/
def fnExactIsFrostUptoRow : OpenClaim := { program := "ytaahibjpncpdoaa", sum := "ecaa3d56b861aed600f12500fb7098117331d8122b8b84d39a4d7e64e8d9a104", func := "loop.example/g03301/laws.FnExactIsFrost", spec := "fnExactIsFrost", unfollowed := true, recurses := true, apart := false, narrowed := true }
def FnExactIsFrostUptoSaid : Prop := fnExactIsFrostUptoRow.holds Try.pinned (OpenSpec.upto fnExactIsFrostSpec)

/-- 'laws.FnExactActOk', WHERE WHAT IT READS IS OF BULK AT MOST 1048576: true; the input reads as it did. -/
def fnExactActOkUptoRow : OpenClaim := { program := "ytaahibjpncpdoaa", sum := "ecaa3d56b861aed600f12500fb7098117331d8122b8b84d39a4d7e64e8d9a104", func := "loop.example/g03301/laws.FnExactActOk", spec := "fnExactActOk", apart := false, narrowed := true }
def FnExactActOkUptoSaid : Prop := fnExactActOkUptoRow.holds Try.pinned (OpenSpec.upto fnExactActOkSpec)

/-- 'laws.FnExactSetDay', WHERE WHAT IT READS IS OF BULK AT MOST 1048576: true; the input reads as it did. -/
def fnExactSetDayUptoRow : OpenClaim := { program := "ytaahibjpncpdoaa", sum := "ecaa3d56b861aed600f12500fb7098117331d8122b8b84d39a4d7e64e8d9a104", func := "loop.example/g03301/laws.FnExactSetDay", spec := "fnExactSetDay", unfollowed := true, recurses := true, apart := false, narrowed := true }
def FnExactSetDayUptoSaid : Prop := fnExactSetDayUptoRow.holds Try.pinned (OpenSpec.upto fnExactSetDaySpec)

/-- 'laws.FnExactBeginsLaying', WHERE WHAT IT READS IS OF BULK AT MOST 1048576: true; the input reads as it did. -/
def fnExactBeginsLayingUptoRow : OpenClaim := { program := "ytaahibjpncpdoaa", sum := "ecaa3d56b861aed600f12500fb7098117331d8122b8b84d39a4d7e64e8d9a104", func := "loop.example/g03301/laws.FnExactBeginsLaying", spec := "fnExactBeginsLaying", unfollowed := true, recurses := true, apart := false, narrowed := true }
def FnExactBeginsLayingUptoSaid : Prop := fnExactBeginsLayingUptoRow.holds Try.pinned (OpenSpec.upto fnExactBeginsLayingSpec)

/-- 'laws.FnExactStagesOk', WHERE WHAT IT READS IS OF BULK AT MOST 1048576: true; the input reads as it did. -/
def fnExactStagesOkUptoRow : OpenClaim := { program := "ytaahibjpncpdoaa", sum := "ecaa3d56b861aed600f12500fb7098117331d8122b8b84d39a4d7e64e8d9a104", func := "loop.example/g03301/laws.FnExactStagesOk", spec := "fnExactStagesOk", apart := false, narrowed := true }
def FnExactStagesOkUptoSaid : Prop := fnExactStagesOkUptoRow.holds Try.pinned (OpenSpec.upto fnExactStagesOkSpec)

/-- 'laws.FnExactNextStage', WHERE WHAT IT READS IS OF BULK AT MOST 1048576: true; the input reads as it did. -/
def fnExactNextStageUptoRow : OpenClaim := { program := "ytaahibjpncpdoaa", sum := "ecaa3d56b861aed600f12500fb7098117331d8122b8b84d39a4d7e64e8d9a104", func := "loop.example/g03301/laws.FnExactNextStage", spec := "fnExactNextStage", unfollowed := true, recurses := true, apart := false, narrowed := true }
def FnExactNextStageUptoSaid : Prop := fnExactNextStageUptoRow.holds Try.pinned (OpenSpec.upto fnExactNextStageSpec)

/-- 'laws.FnExactEarnedBy', WHERE WHAT IT READS IS OF BULK AT MOST 1048576: true; the input reads as it did. -/
def fnExactEarnedByUptoRow : OpenClaim := { program := "ytaahibjpncpdoaa", sum := "ecaa3d56b861aed600f12500fb7098117331d8122b8b84d39a4d7e64e8d9a104", func := "loop.example/g03301/laws.FnExactEarnedBy", spec := "fnExactEarnedBy", apart := false, narrowed := true }
def FnExactEarnedByUptoSaid : Prop := fnExactEarnedByUptoRow.holds Try.pinned (OpenSpec.upto fnExactEarnedBySpec)

/-- 'laws.FnExactAllSet', WHERE WHAT IT READS IS OF BULK AT MOST 1048576: true; the input reads as it did. -/
def fnExactAllSetUptoRow : OpenClaim := { program := "ytaahibjpncpdoaa", sum := "ecaa3d56b861aed600f12500fb7098117331d8122b8b84d39a4d7e64e8d9a104", func := "loop.example/g03301/laws.FnExactAllSet", spec := "fnExactAllSet", unfollowed := true, recurses := true, apart := false, narrowed := true }
def FnExactAllSetUptoSaid : Prop := fnExactAllSetUptoRow.holds Try.pinned (OpenSpec.upto fnExactAllSetSpec)

/-- 'laws.FnMortar', WHERE WHAT IT READS IS OF BULK AT MOST 1048576: true; the input reads as it did. -/
def fnMortarUptoRow : OpenClaim := { program := "ytaahibjpncpdoaa", sum := "ecaa3d56b861aed600f12500fb7098117331d8122b8b84d39a4d7e64e8d9a104", func := "loop.example/g03301/laws.FnMortar", spec := "fnMortar", unfollowed := true, recurses := true, apart := false, narrowed := true }
def FnMortarUptoSaid : Prop := fnMortarUptoRow.holds Try.pinned (OpenSpec.upto fnMortarSpec)

/-- 'laws.FnExactLateStages', WHERE WHAT IT READS IS OF BULK AT MOST 1048576: true; the input reads as it did. -/
def fnExactLateStagesUptoRow : OpenClaim := { program := "ytaahibjpncpdoaa", sum := "ecaa3d56b861aed600f12500fb7098117331d8122b8b84d39a4d7e64e8d9a104", func := "loop.example/g03301/laws.FnExactLateStages", spec := "fnExactLateStages", apart := false, narrowed := true }
def FnExactLateStagesUptoSaid : Prop := fnExactLateStagesUptoRow.holds Try.pinned (OpenSpec.upto fnExactLateStagesSpec)

/-- 'laws.FnContracts', WHERE WHAT IT READS IS OF BULK AT MOST 1048576: true; the input reads as it did. -/
def fnContractsUptoRow : OpenClaim := { program := "ytaahibjpncpdoaa", sum := "ecaa3d56b861aed600f12500fb7098117331d8122b8b84d39a4d7e64e8d9a104", func := "loop.example/g03301/laws.FnContracts", spec := "fnContracts", unfollowed := true, recurses := true, apart := false, narrowed := true }
def FnContractsUptoSaid : Prop := fnContractsUptoRow.holds Try.pinned (OpenSpec.upto fnContractsSpec)

end Rows
end Go.Proofs.Ytaahibjpncpdoaa
