/-
  No cell of these rows narrows 'for every input' (looked for: loops, veiled, ifaces, maps, wideKeys, modest, calm, conditions, laid).
  DERIVED. THE GIVEN ROWS OF THIS SEAT. 5 by the template 'for every input the law returns true; each argument reads behind the call as it read before'; 0 by the template 'total and deterministic' (their statements: YtebboloogedceaaTotals.lean).
  GIVEN WITH THE SEED: the statements are not yours to turn. If you find one false, say at which input.
  Laid BY PROGRAM, IN A SANDBOX (cutbox-rows.mjs): the forced cells as the released guide's own fill.sh prints them over the translation f9fcc7e43e5c6d4e… (all of the seat's roots in one cut). By AI agents, Wed Nov 11 2026. No macro, syntax, notation, axiom, sorry.
-/
import Derived.Test.YtebboloogedceaaChecked
import GoSem.Claim
import GoSem.ClaimJoined
import GoSem.ClaimMapViews
import Derived.JoinedTies
import Derived.KernelRfl
namespace Go.Proofs.Ytebboloogedceaa
/- THE CELL 'sum', in the pinned program and in every row, IS THE sha256 OF THE DUMP (.gsa) THAT YtebboloogedceaaProg.lean LOADS. Nothing in Lean hashes anything: it is a label: what it is worth is what the hold of that sum in a sandbox is worth. -/
noncomputable def Try.pinned : Pinned := { name := "ytebboloogedceaa", sum := "f9fcc7e43e5c6d4e661154eca4f7e5463225dfbee0ca13aad924791a094b3ebf", checked := Try.checked }
namespace Rows
def none {H : Type} : Left H := { results := [], args := [] }

/-- 'rubricatorlaw24.AuditOrdered': WHATEVER THE INPUT: true; the input reads as it did. -/
def auditOrderedSpec : ChangeSpec := { name := "auditOrdered", fn := fun _ => fun
  | [d1, d2] => { results := [.lit (.bool true)], args := [d1, d2] }
  | _ => none }
def auditOrderedRow : OpenClaim := { program := "ytebboloogedceaa", sum := "f9fcc7e43e5c6d4e661154eca4f7e5463225dfbee0ca13aad924791a094b3ebf", func := "rubricator/rubricatorlaw24.AuditOrdered", spec := "auditOrdered", apart := false }
def AuditOrderedSaid : Prop := auditOrderedRow.holds Try.pinned (OpenSpec.ofChange auditOrderedSpec)

/-- ITS FALSE NEIGHBOUR: 'it returns false'. Refute it at one input. -/
def auditOrderedWrong : ChangeSpec := { name := "auditOrdered", fn := fun _ => fun
  | [d1, d2] => { results := [.lit (.bool false)], args := [d1, d2] }
  | _ => none }
def AuditOrderedWrongFalsely : Prop := auditOrderedRow.holds Try.pinned (OpenSpec.ofChange auditOrderedWrong)

/-- 'rubricatorlaw24.AuditTwo': WHATEVER THE INPUT: true; the input reads as it did. -/
def auditTwoSpec : ChangeSpec := { name := "auditTwo", fn := fun _ => fun
  | [d1, d2, d3] => { results := [.lit (.bool true)], args := [d1, d2, d3] }
  | _ => none }
def auditTwoRow : OpenClaim := { program := "ytebboloogedceaa", sum := "f9fcc7e43e5c6d4e661154eca4f7e5463225dfbee0ca13aad924791a094b3ebf", func := "rubricator/rubricatorlaw24.AuditTwo", spec := "auditTwo", unfollowed := true, recurses := true, apart := false }
def AuditTwoSaid : Prop := auditTwoRow.holds Try.pinned (OpenSpec.ofChange auditTwoSpec)

/-- ITS FALSE NEIGHBOUR: 'it returns false'. Refute it at one input. -/
def auditTwoWrong : ChangeSpec := { name := "auditTwo", fn := fun _ => fun
  | [d1, d2, d3] => { results := [.lit (.bool false)], args := [d1, d2, d3] }
  | _ => none }
def AuditTwoWrongFalsely : Prop := auditTwoRow.holds Try.pinned (OpenSpec.ofChange auditTwoWrong)

/-- 'rubricatorlaw24.AuditEdges': WHATEVER THE INPUT: true; the input reads as it did. -/
def auditEdgesSpec : ChangeSpec := { name := "auditEdges", fn := fun _ => fun
  | [d1, d2] => { results := [.lit (.bool true)], args := [d1, d2] }
  | _ => none }
def auditEdgesRow : OpenClaim := { program := "ytebboloogedceaa", sum := "f9fcc7e43e5c6d4e661154eca4f7e5463225dfbee0ca13aad924791a094b3ebf", func := "rubricator/rubricatorlaw24.AuditEdges", spec := "auditEdges", apart := false }
def AuditEdgesSaid : Prop := auditEdgesRow.holds Try.pinned (OpenSpec.ofChange auditEdgesSpec)

/-- ITS FALSE NEIGHBOUR: 'it returns false'. Refute it at one input. -/
def auditEdgesWrong : ChangeSpec := { name := "auditEdges", fn := fun _ => fun
  | [d1, d2] => { results := [.lit (.bool false)], args := [d1, d2] }
  | _ => none }
def AuditEdgesWrongFalsely : Prop := auditEdgesRow.holds Try.pinned (OpenSpec.ofChange auditEdgesWrong)

/-- 'rubricatorlaw24.AuditRebuilt': WHATEVER THE INPUT: true; the input reads as it did. -/
def auditRebuiltSpec : ChangeSpec := { name := "auditRebuilt", fn := fun _ => fun
  | [d1, d2, d3] => { results := [.lit (.bool true)], args := [d1, d2, d3] }
  | _ => none }
def auditRebuiltRow : OpenClaim := { program := "ytebboloogedceaa", sum := "f9fcc7e43e5c6d4e661154eca4f7e5463225dfbee0ca13aad924791a094b3ebf", func := "rubricator/rubricatorlaw24.AuditRebuilt", spec := "auditRebuilt", inPlace := ["internal/bytealg.MakeNoZero"], apart := false }
def AuditRebuiltSaid : Prop := auditRebuiltRow.holds Try.pinned (OpenSpec.ofChange auditRebuiltSpec)

/-- ITS FALSE NEIGHBOUR: 'it returns false'. Refute it at one input. -/
def auditRebuiltWrong : ChangeSpec := { name := "auditRebuilt", fn := fun _ => fun
  | [d1, d2, d3] => { results := [.lit (.bool false)], args := [d1, d2, d3] }
  | _ => none }
def AuditRebuiltWrongFalsely : Prop := auditRebuiltRow.holds Try.pinned (OpenSpec.ofChange auditRebuiltWrong)

/-- 'rubricatorlaw24.AuditItems': WHATEVER THE INPUT: true; the input reads as it did. -/
def auditItemsSpec : ChangeSpec := { name := "auditItems", fn := fun _ => fun
  | [d1, d2] => { results := [.lit (.bool true)], args := [d1, d2] }
  | _ => none }
def auditItemsRow : OpenClaim := { program := "ytebboloogedceaa", sum := "f9fcc7e43e5c6d4e661154eca4f7e5463225dfbee0ca13aad924791a094b3ebf", func := "rubricator/rubricatorlaw24.AuditItems", spec := "auditItems", inPlace := ["internal/bytealg.MakeNoZero"], apart := false }
def AuditItemsSaid : Prop := auditItemsRow.holds Try.pinned (OpenSpec.ofChange auditItemsSpec)

/-- ITS FALSE NEIGHBOUR: 'it returns false'. Refute it at one input. -/
def auditItemsWrong : ChangeSpec := { name := "auditItems", fn := fun _ => fun
  | [d1, d2] => { results := [.lit (.bool false)], args := [d1, d2] }
  | _ => none }
def AuditItemsWrongFalsely : Prop := auditItemsRow.holds Try.pinned (OpenSpec.ofChange auditItemsWrong)

/- THE SECOND FORM. 'bulk': how many values and letters a reading holds, each counted each time it is reached (what is shared counts as often as it is met; a slice's spare places count too). A statement '..UptoSaid' is the law's where the arguments, and the package variables that the reading takes, are together of bulk at most 1048576: NARROWER than '..Said'. Prove '..Said' where nothing that the law and all that it calls make is longer than what came in: it says more and counts as full. Else prove '..UptoSaid'. A law counts once. -/
mutual
def uptoBulk {H : Type} : DataW H → Nat
  | .lit (.string bytes) => bytes.length + 1
  | .lit _ => 1
  | .nil => 1
  | .ptr d => uptoBulk d + 1
  | .slice elems spare => uptoBulkAll elems + uptoBulkAll spare + 1
  | .agg parts => uptoBulkAll parts + 1
  | .iface _ d => uptoBulk d + 1
  | .map entries => uptoBulkEntries entries + 1
  | .held _ => 1
def uptoBulkAll {H : Type} : List (DataW H) → Nat
  | [] => 0
  | d :: r => uptoBulk d + uptoBulkAll r
def uptoBulkEntries {H : Type} : List (Lit × DataW H) → Nat
  | [] => 0
  | x :: r => uptoBulkEntry x + uptoBulkEntries r
def uptoBulkEntry {H : Type} : Lit × DataW H → Nat
  | (.string bytes, d) => bytes.length + uptoBulk d + 1
  | (_, d) => uptoBulk d + 1
 end
def uptoSmall : (H : Type) → List (DataW H) → Bool := fun _ ds => decide (uptoBulkAll ds ≤ 1048576)
def OpenSpec.upto (s : _root_.Go.ChangeSpec) : _root_.Go.OpenSpec := { _root_.Go.OpenSpec.ofChange s with cond := some uptoSmall }

/-- 'rubricatorlaw24.AuditOrdered', WHERE WHAT IT READS IS OF BULK AT MOST 1048576: true; the input reads as it did. -/
def auditOrderedUptoRow : OpenClaim := { program := "ytebboloogedceaa", sum := "f9fcc7e43e5c6d4e661154eca4f7e5463225dfbee0ca13aad924791a094b3ebf", func := "rubricator/rubricatorlaw24.AuditOrdered", spec := "auditOrdered", apart := false, narrowed := true }
def AuditOrderedUptoSaid : Prop := auditOrderedUptoRow.holds Try.pinned (OpenSpec.upto auditOrderedSpec)

/-- 'rubricatorlaw24.AuditTwo', WHERE WHAT IT READS IS OF BULK AT MOST 1048576: true; the input reads as it did. -/
def auditTwoUptoRow : OpenClaim := { program := "ytebboloogedceaa", sum := "f9fcc7e43e5c6d4e661154eca4f7e5463225dfbee0ca13aad924791a094b3ebf", func := "rubricator/rubricatorlaw24.AuditTwo", spec := "auditTwo", unfollowed := true, recurses := true, apart := false, narrowed := true }
def AuditTwoUptoSaid : Prop := auditTwoUptoRow.holds Try.pinned (OpenSpec.upto auditTwoSpec)

/-- 'rubricatorlaw24.AuditEdges', WHERE WHAT IT READS IS OF BULK AT MOST 1048576: true; the input reads as it did. -/
def auditEdgesUptoRow : OpenClaim := { program := "ytebboloogedceaa", sum := "f9fcc7e43e5c6d4e661154eca4f7e5463225dfbee0ca13aad924791a094b3ebf", func := "rubricator/rubricatorlaw24.AuditEdges", spec := "auditEdges", apart := false, narrowed := true }
def AuditEdgesUptoSaid : Prop := auditEdgesUptoRow.holds Try.pinned (OpenSpec.upto auditEdgesSpec)

/-- 'rubricatorlaw24.AuditRebuilt', WHERE WHAT IT READS IS OF BULK AT MOST 1048576: true; the input reads as it did. -/
def auditRebuiltUptoRow : OpenClaim := { program := "ytebboloogedceaa", sum := "f9fcc7e43e5c6d4e661154eca4f7e5463225dfbee0ca13aad924791a094b3ebf", func := "rubricator/rubricatorlaw24.AuditRebuilt", spec := "auditRebuilt", inPlace := ["internal/bytealg.MakeNoZero"], apart := false, narrowed := true }
def AuditRebuiltUptoSaid : Prop := auditRebuiltUptoRow.holds Try.pinned (OpenSpec.upto auditRebuiltSpec)

/-- 'rubricatorlaw24.AuditItems', WHERE WHAT IT READS IS OF BULK AT MOST 1048576: true; the input reads as it did. -/
def auditItemsUptoRow : OpenClaim := { program := "ytebboloogedceaa", sum := "f9fcc7e43e5c6d4e661154eca4f7e5463225dfbee0ca13aad924791a094b3ebf", func := "rubricator/rubricatorlaw24.AuditItems", spec := "auditItems", inPlace := ["internal/bytealg.MakeNoZero"], apart := false, narrowed := true }
def AuditItemsUptoSaid : Prop := auditItemsUptoRow.holds Try.pinned (OpenSpec.upto auditItemsSpec)

end Rows
end Go.Proofs.Ytebboloogedceaa
