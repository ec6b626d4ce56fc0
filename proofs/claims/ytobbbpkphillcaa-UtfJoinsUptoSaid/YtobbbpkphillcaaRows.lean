/-
  No cell of these rows narrows 'for every input' (looked for: loops, veiled, ifaces, maps, wideKeys, modest, calm, conditions, laid).
  DERIVED. THE GIVEN ROWS OF THIS SEAT. 8 by the template 'for every input the law returns true; each argument reads behind the call as it read before'; 0 by the template 'total and deterministic' (their statements: YtobbbpkphillcaaTotals.lean).
  GIVEN WITH THE SEED: the statements are not yours to turn. If you find one false, say at which input.
  Laid BY PROGRAM, IN A SANDBOX (cutbox-rows.mjs): the forced cells as the released guide's own fill.sh prints them over the translation c6bc0653261f7688… (all of the seat's roots in one cut). By AI agents, Wed Nov 11 2026. No macro, syntax, notation, axiom, sorry.
-/
import Derived.Test.YtobbbpkphillcaaChecked
import GoSem.Claim
import GoSem.ClaimJoined
import GoSem.ClaimMapViews
import Derived.JoinedTies
import Derived.KernelRfl
namespace Go.Proofs.Ytobbbpkphillcaa
/- THE CELL 'sum', in the pinned program and in every row, IS THE sha256 OF THE DUMP (.gsa) THAT YtobbbpkphillcaaProg.lean LOADS. Nothing in Lean hashes anything: it is a label: what it is worth is what the hold of that sum in a sandbox is worth. -/
noncomputable def Try.pinned : Pinned := { name := "ytobbbpkphillcaa", sum := "c6bc0653261f7688c9aa9a829985a25ccc63f55c4badeeef4e361d3a6676d3f1", checked := Try.checked }
namespace Rows
def none {H : Type} : Left H := { results := [], args := [] }

/-- 'rubricatorlaw01.UtfEncodes': WHATEVER THE INPUT: true; the input reads as it did. -/
def utfEncodesSpec : ChangeSpec := { name := "utfEncodes", fn := fun _ => fun
  | [d] => { results := [.lit (.bool true)], args := [d] }
  | _ => none }
def utfEncodesRow : OpenClaim := { program := "ytobbbpkphillcaa", sum := "c6bc0653261f7688c9aa9a829985a25ccc63f55c4badeeef4e361d3a6676d3f1", func := "rubricator/rubricatorlaw01.UtfEncodes", spec := "utfEncodes", apart := false }
def UtfEncodesSaid : Prop := utfEncodesRow.holds Try.pinned (OpenSpec.ofChange utfEncodesSpec)

/-- ITS FALSE NEIGHBOUR: 'it returns false'. Refute it at one input. -/
def utfEncodesWrong : ChangeSpec := { name := "utfEncodes", fn := fun _ => fun
  | [d] => { results := [.lit (.bool false)], args := [d] }
  | _ => none }
def UtfEncodesWrongFalsely : Prop := utfEncodesRow.holds Try.pinned (OpenSpec.ofChange utfEncodesWrong)

/-- 'rubricatorlaw01.UtfStands': WHATEVER THE INPUT: true; the input reads as it did. -/
def utfStandsSpec : ChangeSpec := { name := "utfStands", fn := fun _ => fun
  | [d] => { results := [.lit (.bool true)], args := [d] }
  | _ => none }
def utfStandsRow : OpenClaim := { program := "ytobbbpkphillcaa", sum := "c6bc0653261f7688c9aa9a829985a25ccc63f55c4badeeef4e361d3a6676d3f1", func := "rubricator/rubricatorlaw01.UtfStands", spec := "utfStands", apart := false }
def UtfStandsSaid : Prop := utfStandsRow.holds Try.pinned (OpenSpec.ofChange utfStandsSpec)

/-- ITS FALSE NEIGHBOUR: 'it returns false'. Refute it at one input. -/
def utfStandsWrong : ChangeSpec := { name := "utfStands", fn := fun _ => fun
  | [d] => { results := [.lit (.bool false)], args := [d] }
  | _ => none }
def UtfStandsWrongFalsely : Prop := utfStandsRow.holds Try.pinned (OpenSpec.ofChange utfStandsWrong)

/-- 'rubricatorlaw01.UtfAgain': WHATEVER THE INPUT: true; the input reads as it did. -/
def utfAgainSpec : ChangeSpec := { name := "utfAgain", fn := fun _ => fun
  | [d] => { results := [.lit (.bool true)], args := [d] }
  | _ => none }
def utfAgainRow : OpenClaim := { program := "ytobbbpkphillcaa", sum := "c6bc0653261f7688c9aa9a829985a25ccc63f55c4badeeef4e361d3a6676d3f1", func := "rubricator/rubricatorlaw01.UtfAgain", spec := "utfAgain", apart := false }
def UtfAgainSaid : Prop := utfAgainRow.holds Try.pinned (OpenSpec.ofChange utfAgainSpec)

/-- ITS FALSE NEIGHBOUR: 'it returns false'. Refute it at one input. -/
def utfAgainWrong : ChangeSpec := { name := "utfAgain", fn := fun _ => fun
  | [d] => { results := [.lit (.bool false)], args := [d] }
  | _ => none }
def UtfAgainWrongFalsely : Prop := utfAgainRow.holds Try.pinned (OpenSpec.ofChange utfAgainWrong)

/-- 'rubricatorlaw01.UtfSteps': WHATEVER THE INPUT: true; the input reads as it did. -/
def utfStepsSpec : ChangeSpec := { name := "utfSteps", fn := fun _ => fun
  | [d1, d2] => { results := [.lit (.bool true)], args := [d1, d2] }
  | _ => none }
def utfStepsRow : OpenClaim := { program := "ytobbbpkphillcaa", sum := "c6bc0653261f7688c9aa9a829985a25ccc63f55c4badeeef4e361d3a6676d3f1", func := "rubricator/rubricatorlaw01.UtfSteps", spec := "utfSteps", apart := false }
def UtfStepsSaid : Prop := utfStepsRow.holds Try.pinned (OpenSpec.ofChange utfStepsSpec)

/-- ITS FALSE NEIGHBOUR: 'it returns false'. Refute it at one input. -/
def utfStepsWrong : ChangeSpec := { name := "utfSteps", fn := fun _ => fun
  | [d1, d2] => { results := [.lit (.bool false)], args := [d1, d2] }
  | _ => none }
def UtfStepsWrongFalsely : Prop := utfStepsRow.holds Try.pinned (OpenSpec.ofChange utfStepsWrong)

/-- 'rubricatorlaw01.UtfForward': WHATEVER THE INPUT: true; the input reads as it did. -/
def utfForwardSpec : ChangeSpec := { name := "utfForward", fn := fun _ => fun
  | [d] => { results := [.lit (.bool true)], args := [d] }
  | _ => none }
def utfForwardRow : OpenClaim := { program := "ytobbbpkphillcaa", sum := "c6bc0653261f7688c9aa9a829985a25ccc63f55c4badeeef4e361d3a6676d3f1", func := "rubricator/rubricatorlaw01.UtfForward", spec := "utfForward", apart := false }
def UtfForwardSaid : Prop := utfForwardRow.holds Try.pinned (OpenSpec.ofChange utfForwardSpec)

/-- ITS FALSE NEIGHBOUR: 'it returns false'. Refute it at one input. -/
def utfForwardWrong : ChangeSpec := { name := "utfForward", fn := fun _ => fun
  | [d] => { results := [.lit (.bool false)], args := [d] }
  | _ => none }
def UtfForwardWrongFalsely : Prop := utfForwardRow.holds Try.pinned (OpenSpec.ofChange utfForwardWrong)

/-- 'rubricatorlaw01.UtfBack': WHATEVER THE INPUT: true; the input reads as it did. -/
def utfBackSpec : ChangeSpec := { name := "utfBack", fn := fun _ => fun
  | [d] => { results := [.lit (.bool true)], args := [d] }
  | _ => none }
def utfBackRow : OpenClaim := { program := "ytobbbpkphillcaa", sum := "c6bc0653261f7688c9aa9a829985a25ccc63f55c4badeeef4e361d3a6676d3f1", func := "rubricator/rubricatorlaw01.UtfBack", spec := "utfBack", apart := false }
def UtfBackSaid : Prop := utfBackRow.holds Try.pinned (OpenSpec.ofChange utfBackSpec)

/-- ITS FALSE NEIGHBOUR: 'it returns false'. Refute it at one input. -/
def utfBackWrong : ChangeSpec := { name := "utfBack", fn := fun _ => fun
  | [d] => { results := [.lit (.bool false)], args := [d] }
  | _ => none }
def UtfBackWrongFalsely : Prop := utfBackRow.holds Try.pinned (OpenSpec.ofChange utfBackWrong)

/-- 'rubricatorlaw01.UtfDecodes': WHATEVER THE INPUT: true; the input reads as it did. -/
def utfDecodesSpec : ChangeSpec := { name := "utfDecodes", fn := fun _ => fun
  | [d] => { results := [.lit (.bool true)], args := [d] }
  | _ => none }
def utfDecodesRow : OpenClaim := { program := "ytobbbpkphillcaa", sum := "c6bc0653261f7688c9aa9a829985a25ccc63f55c4badeeef4e361d3a6676d3f1", func := "rubricator/rubricatorlaw01.UtfDecodes", spec := "utfDecodes", apart := false }
def UtfDecodesSaid : Prop := utfDecodesRow.holds Try.pinned (OpenSpec.ofChange utfDecodesSpec)

/-- ITS FALSE NEIGHBOUR: 'it returns false'. Refute it at one input. -/
def utfDecodesWrong : ChangeSpec := { name := "utfDecodes", fn := fun _ => fun
  | [d] => { results := [.lit (.bool false)], args := [d] }
  | _ => none }
def UtfDecodesWrongFalsely : Prop := utfDecodesRow.holds Try.pinned (OpenSpec.ofChange utfDecodesWrong)

/-- 'rubricatorlaw01.UtfJoins': WHATEVER THE INPUT: true; the input reads as it did. -/
def utfJoinsSpec : ChangeSpec := { name := "utfJoins", fn := fun _ => fun
  | [d1, d2] => { results := [.lit (.bool true)], args := [d1, d2] }
  | _ => none }
def utfJoinsRow : OpenClaim := { program := "ytobbbpkphillcaa", sum := "c6bc0653261f7688c9aa9a829985a25ccc63f55c4badeeef4e361d3a6676d3f1", func := "rubricator/rubricatorlaw01.UtfJoins", spec := "utfJoins", apart := false }
def UtfJoinsSaid : Prop := utfJoinsRow.holds Try.pinned (OpenSpec.ofChange utfJoinsSpec)

/-- ITS FALSE NEIGHBOUR: 'it returns false'. Refute it at one input. -/
def utfJoinsWrong : ChangeSpec := { name := "utfJoins", fn := fun _ => fun
  | [d1, d2] => { results := [.lit (.bool false)], args := [d1, d2] }
  | _ => none }
def UtfJoinsWrongFalsely : Prop := utfJoinsRow.holds Try.pinned (OpenSpec.ofChange utfJoinsWrong)

/- THE SECOND FORM. 'bulk': how many values and letters a reading holds, each counted each time it is reached (what is shared counts as often as it is met; a slice's spare places count too). A statement '..UptoSaid' is the law's where the arguments, and the package variables that the reading takes, are together of bulk at most 1048576: NARROWER than '..Said'. Prove '..Said' where nothing that the law and all that it calls make is longer than what came in: it says more and counts as full. Else prove '..UptoSaid'. A law counts once. -/
mutual
def uptoBulk {H : Type} : DataW H → Nat
  | .lit (.string bytes) => bytes.length + 1
  | .lit _ => 1
  | .nil => 1
  | .ptr d => uptoBulk d + 1
  | .slice elems spare => uptoBulkAll elems + uptoBulkAll spare + 1
  | .agg parts => uptoBulkAll parts + 1
  | .iface _ d => uptoBulk d + 1
  | .map entries => uptoBulkEntries entries + 1
  | .held _ => 1
def uptoBulkAll {H : Type} : List (DataW H) → Nat
  | [] => 0
  | d :: r => uptoBulk d + uptoBulkAll r
def uptoBulkEntries {H : Type} : List (Lit × DataW H) → Nat
  | [] => 0
  | x :: r => uptoBulkEntry x + uptoBulkEntries r
def uptoBulkEntry {H : Type} : Lit × DataW H → Nat
  | (.string bytes, d) => bytes.length + uptoBulk d + 1
  | (_, d) => uptoBulk d + 1
 end
def uptoSmall : (H : Type) → List (DataW H) → Bool := fun _ ds => decide (uptoBulkAll ds ≤ 1048576)
def OpenSpec.upto (s : _root_.Go.ChangeSpec) : _root_.Go.OpenSpec := { _root_.Go.OpenSpec.ofChange s with cond := some uptoSmall }

/-- 'rubricatorlaw01.UtfEncodes', WHERE WHAT IT READS IS OF BULK AT MOST 1048576: true; the input reads as it did. -/
def utfEncodesUptoRow : OpenClaim := { program := "ytobbbpkphillcaa", sum := "c6bc0653261f7688c9aa9a829985a25ccc63f55c4badeeef4e361d3a6676d3f1", func := "rubricator/rubricatorlaw01.UtfEncodes", spec := "utfEncodes", apart := false, narrowed := true }
def UtfEncodesUptoSaid : Prop := utfEncodesUptoRow.holds Try.pinned (OpenSpec.upto utfEncodesSpec)

/-- 'rubricatorlaw01.UtfStands', WHERE WHAT IT READS IS OF BULK AT MOST 1048576: true; the input reads as it did. -/
def utfStandsUptoRow : OpenClaim := { program := "ytobbbpkphillcaa", sum := "c6bc0653261f7688c9aa9a829985a25ccc63f55c4badeeef4e361d3a6676d3f1", func := "rubricator/rubricatorlaw01.UtfStands", spec := "utfStands", apart := false, narrowed := true }
def UtfStandsUptoSaid : Prop := utfStandsUptoRow.holds Try.pinned (OpenSpec.upto utfStandsSpec)

/-- 'rubricatorlaw01.UtfAgain', WHERE WHAT IT READS IS OF BULK AT MOST 1048576: true; the input reads as it did. -/
def utfAgainUptoRow : OpenClaim := { program := "ytobbbpkphillcaa", sum := "c6bc0653261f7688c9aa9a829985a25ccc63f55c4badeeef4e361d3a6676d3f1", func := "rubricator/rubricatorlaw01.UtfAgain", spec := "utfAgain", apart := false, narrowed := true }
def UtfAgainUptoSaid : Prop := utfAgainUptoRow.holds Try.pinned (OpenSpec.upto utfAgainSpec)

/-- 'rubricatorlaw01.UtfSteps', WHERE WHAT IT READS IS OF BULK AT MOST 1048576: true; the input reads as it did. -/
def utfStepsUptoRow : OpenClaim := { program := "ytobbbpkphillcaa", sum := "c6bc0653261f7688c9aa9a829985a25ccc63f55c4badeeef4e361d3a6676d3f1", func := "rubricator/rubricatorlaw01.UtfSteps", spec := "utfSteps", apart := false, narrowed := true }
def UtfStepsUptoSaid : Prop := utfStepsUptoRow.holds Try.pinned (OpenSpec.upto utfStepsSpec)

/-- 'rubricatorlaw01.UtfForward', WHERE WHAT IT READS IS OF BULK AT MOST 1048576: true; the input reads as it did. -/
def utfForwardUptoRow : OpenClaim := { program := "ytobbbpkphillcaa", sum := "c6bc0653261f7688c9aa9a829985a25ccc63f55c4badeeef4e361d3a6676d3f1", func := "rubricator/rubricatorlaw01.UtfForward", spec := "utfForward", apart := false, narrowed := true }
def UtfForwardUptoSaid : Prop := utfForwardUptoRow.holds Try.pinned (OpenSpec.upto utfForwardSpec)

/-- 'rubricatorlaw01.UtfBack', WHERE WHAT IT READS IS OF BULK AT MOST 1048576: true; the input reads as it did. -/
def utfBackUptoRow : OpenClaim := { program := "ytobbbpkphillcaa", sum := "c6bc0653261f7688c9aa9a829985a25ccc63f55c4badeeef4e361d3a6676d3f1", func := "rubricator/rubricatorlaw01.UtfBack", spec := "utfBack", apart := false, narrowed := true }
def UtfBackUptoSaid : Prop := utfBackUptoRow.holds Try.pinned (OpenSpec.upto utfBackSpec)

/-- 'rubricatorlaw01.UtfDecodes', WHERE WHAT IT READS IS OF BULK AT MOST 1048576: true; the input reads as it did. -/
def utfDecodesUptoRow : OpenClaim := { program := "ytobbbpkphillcaa", sum := "c6bc0653261f7688c9aa9a829985a25ccc63f55c4badeeef4e361d3a6676d3f1", func := "rubricator/rubricatorlaw01.UtfDecodes", spec := "utfDecodes", apart := false, narrowed := true }
def UtfDecodesUptoSaid : Prop := utfDecodesUptoRow.holds Try.pinned (OpenSpec.upto utfDecodesSpec)

/-- 'rubricatorlaw01.UtfJoins', WHERE WHAT IT READS IS OF BULK AT MOST 1048576: true; the input reads as it did. -/
def utfJoinsUptoRow : OpenClaim := { program := "ytobbbpkphillcaa", sum := "c6bc0653261f7688c9aa9a829985a25ccc63f55c4badeeef4e361d3a6676d3f1", func := "rubricator/rubricatorlaw01.UtfJoins", spec := "utfJoins", apart := false, narrowed := true }
def UtfJoinsUptoSaid : Prop := utfJoinsUptoRow.holds Try.pinned (OpenSpec.upto utfJoinsSpec)

end Rows
end Go.Proofs.Ytobbbpkphillcaa
