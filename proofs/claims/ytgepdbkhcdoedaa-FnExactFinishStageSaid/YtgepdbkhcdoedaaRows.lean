/-
  No cell of these rows narrows 'for every input' (looked for: loops, veiled, ifaces, maps, wideKeys, modest, calm, conditions, laid).
  DERIVED. THE GIVEN ROWS OF THIS SEAT. 6 by the template 'for every input the law returns true; each argument reads behind the call as it read before'; 0 by the template 'total and deterministic' (their statements: YtgepdbkhcdoedaaTotals.lean).
  GIVEN WITH THE SEED: the statements are not yours to turn. If you find one false, say at which input.
  Laid BY PROGRAM, IN A SANDBOX (cutbox-rows.mjs): the forced cells as the released guide's own fill.sh prints them over the translation efc36569fd3983fc… (all of the seat's roots in one cut). By AI agents, Wed Nov 11 2026. No macro, syntax, notation, axiom, sorry.
-/
import Derived.Test.YtgepdbkhcdoedaaChecked
import GoSem.Claim
import GoSem.ClaimJoined
import GoSem.ClaimMapViews
import Derived.JoinedTies
import Derived.KernelRfl
namespace Go.Proofs.Ytgepdbkhcdoedaa
/- THE CELL 'sum', in the pinned program and in every row, IS THE sha256 OF THE DUMP (.gsa) THAT YtgepdbkhcdoedaaProg.lean LOADS. Nothing in Lean hashes anything: it is a label: what it is worth is what the hold of that sum in a sandbox is worth. -/
noncomputable def Try.pinned : Pinned := { name := "ytgepdbkhcdoedaa", sum := "efc36569fd3983fcc0261c08510af29a1fa96f0438e3988a99311863cec876b5", checked := Try.checked }
namespace Rows
def none {H : Type} : Left H := { results := [], args := [] }

/-- 'laws.FnExactSetOn': WHATEVER THE INPUT: true; the input reads as it did. -/
def fnExactSetOnSpec : ChangeSpec := { name := "fnExactSetOn", fn := fun _ => fun
  | [d1, d2, d3] => { results := [.lit (.bool true)], args := [d1, d2, d3] }
  | _ => none }
def fnExactSetOnRow : OpenClaim := { program := "ytgepdbkhcdoedaa", sum := "efc36569fd3983fcc0261c08510af29a1fa96f0438e3988a99311863cec876b5", func := "loop.example/g03301/laws.FnExactSetOn", spec := "fnExactSetOn", unfollowed := true, recurses := true, apart := false }
def FnExactSetOnSaid : Prop := fnExactSetOnRow.holds Try.pinned (OpenSpec.ofChange fnExactSetOnSpec)

/-- ITS FALSE NEIGHBOUR: 'it returns false'. Refute it at one input. -/
def fnExactSetOnWrong : ChangeSpec := { name := "fnExactSetOn", fn := fun _ => fun
  | [d1, d2, d3] => { results := [.lit (.bool false)], args := [d1, d2, d3] }
  | _ => none }
def FnExactSetOnWrongFalsely : Prop := fnExactSetOnRow.holds Try.pinned (OpenSpec.ofChange fnExactSetOnWrong)

/-- 'laws.FnExactFinishStage': WHATEVER THE INPUT: true; the input reads as it did. -/
def fnExactFinishStageSpec : ChangeSpec := { name := "fnExactFinishStage", fn := fun _ => fun
  | [d1, d2] => { results := [.lit (.bool true)], args := [d1, d2] }
  | _ => none }
def fnExactFinishStageRow : OpenClaim := { program := "ytgepdbkhcdoedaa", sum := "efc36569fd3983fcc0261c08510af29a1fa96f0438e3988a99311863cec876b5", func := "loop.example/g03301/laws.FnExactFinishStage", spec := "fnExactFinishStage", unfollowed := true, recurses := true, apart := false }
def FnExactFinishStageSaid : Prop := fnExactFinishStageRow.holds Try.pinned (OpenSpec.ofChange fnExactFinishStageSpec)

/-- ITS FALSE NEIGHBOUR: 'it returns false'. Refute it at one input. -/
def fnExactFinishStageWrong : ChangeSpec := { name := "fnExactFinishStage", fn := fun _ => fun
  | [d1, d2] => { results := [.lit (.bool false)], args := [d1, d2] }
  | _ => none }
def FnExactFinishStageWrongFalsely : Prop := fnExactFinishStageRow.holds Try.pinned (OpenSpec.ofChange fnExactFinishStageWrong)

/-- 'laws.FnExactFormatAct': WHATEVER THE INPUT: true; the input reads as it did. -/
def fnExactFormatActSpec : ChangeSpec := { name := "fnExactFormatAct", fn := fun _ => fun
  | [d] => { results := [.lit (.bool true)], args := [d] }
  | _ => none }
def fnExactFormatActRow : OpenClaim := { program := "ytgepdbkhcdoedaa", sum := "efc36569fd3983fcc0261c08510af29a1fa96f0438e3988a99311863cec876b5", func := "loop.example/g03301/laws.FnExactFormatAct", spec := "fnExactFormatAct", apart := false }
def FnExactFormatActSaid : Prop := fnExactFormatActRow.holds Try.pinned (OpenSpec.ofChange fnExactFormatActSpec)

/-- ITS FALSE NEIGHBOUR: 'it returns false'. Refute it at one input. -/
def fnExactFormatActWrong : ChangeSpec := { name := "fnExactFormatAct", fn := fun _ => fun
  | [d] => { results := [.lit (.bool false)], args := [d] }
  | _ => none }
def FnExactFormatActWrongFalsely : Prop := fnExactFormatActRow.holds Try.pinned (OpenSpec.ofChange fnExactFormatActWrong)

/-- 'laws.FnExactScriptText': WHATEVER THE INPUT: true; the input reads as it did. -/
def fnExactScriptTextSpec : ChangeSpec := { name := "fnExactScriptText", fn := fun _ => fun
  | [d] => { results := [.lit (.bool true)], args := [d] }
  | _ => none }
def fnExactScriptTextRow : OpenClaim := { program := "ytgepdbkhcdoedaa", sum := "efc36569fd3983fcc0261c08510af29a1fa96f0438e3988a99311863cec876b5", func := "loop.example/g03301/laws.FnExactScriptText", spec := "fnExactScriptText", inPlace := ["internal/abi.NoEscape"], apart := false }
def FnExactScriptTextSaid : Prop := fnExactScriptTextRow.holds Try.pinned (OpenSpec.ofChange fnExactScriptTextSpec)

/-- ITS FALSE NEIGHBOUR: 'it returns false'. Refute it at one input. -/
def fnExactScriptTextWrong : ChangeSpec := { name := "fnExactScriptText", fn := fun _ => fun
  | [d] => { results := [.lit (.bool false)], args := [d] }
  | _ => none }
def FnExactScriptTextWrongFalsely : Prop := fnExactScriptTextRow.holds Try.pinned (OpenSpec.ofChange fnExactScriptTextWrong)

/-- 'laws.FnExactSameArch': WHATEVER THE INPUT: true; the input reads as it did. -/
def fnExactSameArchSpec : ChangeSpec := { name := "fnExactSameArch", fn := fun _ => fun
  | [d1, d2] => { results := [.lit (.bool true)], args := [d1, d2] }
  | _ => none }
def fnExactSameArchRow : OpenClaim := { program := "ytgepdbkhcdoedaa", sum := "efc36569fd3983fcc0261c08510af29a1fa96f0438e3988a99311863cec876b5", func := "loop.example/g03301/laws.FnExactSameArch", spec := "fnExactSameArch", apart := false }
def FnExactSameArchSaid : Prop := fnExactSameArchRow.holds Try.pinned (OpenSpec.ofChange fnExactSameArchSpec)

/-- ITS FALSE NEIGHBOUR: 'it returns false'. Refute it at one input. -/
def fnExactSameArchWrong : ChangeSpec := { name := "fnExactSameArch", fn := fun _ => fun
  | [d1, d2] => { results := [.lit (.bool false)], args := [d1, d2] }
  | _ => none }
def FnExactSameArchWrongFalsely : Prop := fnExactSameArchRow.holds Try.pinned (OpenSpec.ofChange fnExactSameArchWrong)

/-- 'laws.FnExactParseAct': WHATEVER THE INPUT: true; the input reads as it did. -/
def fnExactParseActSpec : ChangeSpec := { name := "fnExactParseAct", fn := fun _ => fun
  | [d] => { results := [.lit (.bool true)], args := [d] }
  | _ => none }
def fnExactParseActRow : OpenClaim := { program := "ytgepdbkhcdoedaa", sum := "efc36569fd3983fcc0261c08510af29a1fa96f0438e3988a99311863cec876b5", func := "loop.example/g03301/laws.FnExactParseAct", spec := "fnExactParseAct", unfollowed := true, recurses := true, apart := false }
def FnExactParseActSaid : Prop := fnExactParseActRow.holds Try.pinned (OpenSpec.ofChange fnExactParseActSpec)

/-- ITS FALSE NEIGHBOUR: 'it returns false'. Refute it at one input. -/
def fnExactParseActWrong : ChangeSpec := { name := "fnExactParseAct", fn := fun _ => fun
  | [d] => { results := [.lit (.bool false)], args := [d] }
  | _ => none }
def FnExactParseActWrongFalsely : Prop := fnExactParseActRow.holds Try.pinned (OpenSpec.ofChange fnExactParseActWrong)

/- THE SECOND FORM. 'bulk': how many values and letters a reading holds, each counted each time it is reached (what is shared counts as often as it is met; a slice's spare places count too). A statement '..UptoSaid' is the law's where the arguments, and the package variables that the reading takes, are together of bulk at most 1048576: NARROWER than '..Said'. Prove '..Said' where nothing that the law and all that it calls make is longer than what came in: it says more and counts as full. Else prove '..UptoSaid'. A law counts once. -/
mutual
def uptoBulk {H : Type} : DataW H → Nat
  | .lit (.string bytes) => bytes.length + 1
  | .lit _ => 1
  | .nil => 1
  | .ptr d => uptoBulk d + 1
  | .slice elems spare => uptoBulkAll elems + uptoBulkAll spare + 1
  | .agg parts => uptoBulkAll parts + 1
  | .iface _ d => uptoBulk d + 1
  | .map entries => uptoBulkEntries entries + 1
  | .held _ => 1
def uptoBulkAll {H : Type} : List (DataW H) → Nat
  | [] => 0
  | d :: r => uptoBulk d + uptoBulkAll r
def uptoBulkEntries {H : Type} : List (Lit × DataW H) → Nat
  | [] => 0
  | x :: r => uptoBulkEntry x + uptoBulkEntries r
def uptoBulkEntry {H : Type} : Lit × DataW H → Nat
  | (.string bytes, d) => bytes.length + uptoBulk d + 1
  | (_, d) => uptoBulk d + 1
 end
def uptoSmall : (H : Type) → List (DataW H) → Bool := fun _ ds => decide (uptoBulkAll ds ≤ 1048576)
def OpenSpec.upto (s : _root_.Go.ChangeSpec) : _root_.Go.OpenSpec := { _root_.Go.OpenSpec.ofChange s with cond := some uptoSmall }

/-- 'laws.FnExactSetOn', WHERE WHAT IT READS IS OF BULK AT MOST 1048576: true; the input reads as it did. -/
def fnExactSetOnUptoRow : OpenClaim := { program := "ytgepdbkhcdoedaa", sum := "efc36569fd3983fcc0261c08510af29a1fa96f0438e3988a99311863cec876b5", func := "loop.example/g03301/laws.FnExactSetOn", spec := "fnExactSetOn", unfollowed := true, recurses := true, apart := false, narrowed := true }
def FnExactSetOnUptoSaid : Prop := fnExactSetOnUptoRow.holds Try.pinned (OpenSpec.upto fnExactSetOnSpec)

/-- 'laws.FnExactFinishStage', WHERE WHAT IT READS IS OF BULK AT MOST 1048576: true; the input reads as it did. -/
def fnExactFinishStageUptoRow : OpenClaim := { program := "ytgepdbkhcdoedaa", sum := "efc36569fd3983fcc0261c08510af29a1fa96f0438e3988a99311863cec876b5", func := "loop.example/g03301/laws.FnExactFinishStage", spec := "fnExactFinishStage", unfollowed := true, recurses := true, apart := false, narrowed := true }
def FnExactFinishStageUptoSaid : Prop := fnExactFinishStageUptoRow.holds Try.pinned (OpenSpec.upto fnExactFinishStageSpec)

/-- 'laws.FnExactFormatAct', WHERE WHAT IT READS IS OF BULK AT MOST 1048576: true; the input reads as it did. -/
def fnExactFormatActUptoRow : OpenClaim := { program := "ytgepdbkhcdoedaa", sum := "efc36569fd3983fcc0261c08510af29a1fa96f0438e3988a99311863cec876b5", func := "loop.example/g03301/laws.FnExactFormatAct", spec := "fnExactFormatAct", apart := false, narrowed := true }
def FnExactFormatActUptoSaid : Prop := fnExactFormatActUptoRow.holds Try.pinned (OpenSpec.upto fnExactFormatActSpec)

/-- 'laws.FnExactScriptText', WHERE WHAT IT READS IS OF BULK AT MOST 1048576: true; the input reads as it did. -/
def fnExactScriptTextUptoRow : OpenClaim := { program := "ytgepdbkhcdoedaa", sum := "efc36569fd3983fcc0261c08510af29a1fa96f0438e3988a99311863cec876b5", func := "loop.example/g03301/laws.FnExactScriptText", spec := "fnExactScriptText", inPlace := ["internal/abi.NoEscape"], apart := false, narrowed := true }
def FnExactScriptTextUptoSaid : Prop := fnExactScriptTextUptoRow.holds Try.pinned (OpenSpec.upto fnExactScriptTextSpec)

/-- 'laws.FnExactSameArch', WHERE WHAT IT READS IS OF BULK AT MOST 1048576: true; the input reads as it did. -/
def fnExactSameArchUptoRow : OpenClaim := { program := "ytgepdbkhcdoedaa", sum := "efc36569fd3983fcc0261c08510af29a1fa96f0438e3988a99311863cec876b5", func := "loop.example/g03301/laws.FnExactSameArch", spec := "fnExactSameArch", apart := false, narrowed := true }
def FnExactSameArchUptoSaid : Prop := fnExactSameArchUptoRow.holds Try.pinned (OpenSpec.upto fnExactSameArchSpec)

/-- 'laws.FnExactParseAct', WHERE WHAT IT READS IS OF BULK AT MOST 1048576: true; the input reads as it did. -/
def fnExactParseActUptoRow : OpenClaim := { program := "ytgepdbkhcdoedaa", sum := "efc36569fd3983fcc0261c08510af29a1fa96f0438e3988a99311863cec876b5", func := "loop.example/g03301/laws.FnExactParseAct", spec := "fnExactParseAct", unfollowed := true, recurses := true, apart := false, narrowed := true }
def FnExactParseActUptoSaid : Prop := fnExactParseActUptoRow.holds Try.pinned (OpenSpec.upto fnExactParseActSpec)

end Rows
end Go.Proofs.Ytgepdbkhcdoedaa
