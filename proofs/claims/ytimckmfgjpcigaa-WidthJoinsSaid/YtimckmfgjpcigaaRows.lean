/-
  NARROWER THAN 'FOR EVERY INPUT', by the rows' own cells (each row's printed sentence says how): WidthOf: loops · WidthOrder: loops · WidthJoins: loops · WidthTimes: loops.
  DERIVED. THE GIVEN ROWS OF THIS SEAT. 4 by the template 'for every input the law returns true; each argument reads behind the call as it read before'; 0 by the template 'total and deterministic' (their statements: YtimckmfgjpcigaaTotals.lean).
  GIVEN WITH THE SEED: the statements are not yours to turn. If you find one false, say at which input.
  Laid BY PROGRAM, IN A SANDBOX (cutbox-rows.mjs): the forced cells as the released guide's own fill.sh prints them over the translation 55c4f0b5889181c7… (all of the seat's roots in one cut). By AI agents, Wed Nov 11 2026. No macro, syntax, notation, axiom, sorry.
-/
import Derived.Test.YtimckmfgjpcigaaChecked
import GoSem.Claim
import GoSem.ClaimJoined
import GoSem.ClaimMapViews
import Derived.JoinedTies
import Derived.KernelRfl
namespace Go.Proofs.Ytimckmfgjpcigaa
/- THE CELL 'sum', in the pinned program and in every row, IS THE sha256 OF THE DUMP (.gsa) THAT YtimckmfgjpcigaaProg.lean LOADS. Nothing in Lean hashes anything: it is a label: what it is worth is what the hold of that sum in a sandbox is worth. -/
noncomputable def Try.pinned : Pinned := { name := "ytimckmfgjpcigaa", sum := "55c4f0b5889181c78d3367aa16dbe91a87d4e056221d03a74fa84ee4a019478f", checked := Try.checked }
namespace Rows
def none {H : Type} : Left H := { results := [], args := [] }

/-- 'rubricatorlaw18.WidthOf': WHATEVER THE INPUT: true; the input reads as it did. -/
def widthOfSpec : ChangeSpec := { name := "widthOf", fn := fun _ => fun
  | [d] => { results := [.lit (.bool true)], args := [d] }
  | _ => none }
def widthOfRow : OpenClaim := { program := "ytimckmfgjpcigaa", sum := "55c4f0b5889181c78d3367aa16dbe91a87d4e056221d03a74fa84ee4a019478f", func := "rubricator/rubricatorlaw18.WidthOf", spec := "widthOf", unfollowed := true, recurses := true, loops := true, apart := false }
def WidthOfSaid : Prop := widthOfRow.holds Try.pinned (OpenSpec.ofChange widthOfSpec)

/-- ITS FALSE NEIGHBOUR: 'it returns false'. Refute it at one input. -/
def widthOfWrong : ChangeSpec := { name := "widthOf", fn := fun _ => fun
  | [d] => { results := [.lit (.bool false)], args := [d] }
  | _ => none }
def WidthOfWrongFalsely : Prop := widthOfRow.holds Try.pinned (OpenSpec.ofChange widthOfWrong)

/-- 'rubricatorlaw18.WidthOrder': WHATEVER THE INPUT: true; the input reads as it did. -/
def widthOrderSpec : ChangeSpec := { name := "widthOrder", fn := fun _ => fun
  | [d] => { results := [.lit (.bool true)], args := [d] }
  | _ => none }
def widthOrderRow : OpenClaim := { program := "ytimckmfgjpcigaa", sum := "55c4f0b5889181c78d3367aa16dbe91a87d4e056221d03a74fa84ee4a019478f", func := "rubricator/rubricatorlaw18.WidthOrder", spec := "widthOrder", unfollowed := true, recurses := true, loops := true, apart := false }
def WidthOrderSaid : Prop := widthOrderRow.holds Try.pinned (OpenSpec.ofChange widthOrderSpec)

/-- ITS FALSE NEIGHBOUR: 'it returns false'. Refute it at one input. -/
def widthOrderWrong : ChangeSpec := { name := "widthOrder", fn := fun _ => fun
  | [d] => { results := [.lit (.bool false)], args := [d] }
  | _ => none }
def WidthOrderWrongFalsely : Prop := widthOrderRow.holds Try.pinned (OpenSpec.ofChange widthOrderWrong)

/-- 'rubricatorlaw18.WidthJoins': WHATEVER THE INPUT: true; the input reads as it did. -/
def widthJoinsSpec : ChangeSpec := { name := "widthJoins", fn := fun _ => fun
  | [d1, d2] => { results := [.lit (.bool true)], args := [d1, d2] }
  | _ => none }
def widthJoinsRow : OpenClaim := { program := "ytimckmfgjpcigaa", sum := "55c4f0b5889181c78d3367aa16dbe91a87d4e056221d03a74fa84ee4a019478f", func := "rubricator/rubricatorlaw18.WidthJoins", spec := "widthJoins", unfollowed := true, recurses := true, loops := true, apart := false }
def WidthJoinsSaid : Prop := widthJoinsRow.holds Try.pinned (OpenSpec.ofChange widthJoinsSpec)

/-- ITS FALSE NEIGHBOUR: 'it returns false'. Refute it at one input. -/
def widthJoinsWrong : ChangeSpec := { name := "widthJoins", fn := fun _ => fun
  | [d1, d2] => { results := [.lit (.bool false)], args := [d1, d2] }
  | _ => none }
def WidthJoinsWrongFalsely : Prop := widthJoinsRow.holds Try.pinned (OpenSpec.ofChange widthJoinsWrong)

/-- 'rubricatorlaw18.WidthTimes': WHATEVER THE INPUT: true; the input reads as it did. -/
def widthTimesSpec : ChangeSpec := { name := "widthTimes", fn := fun _ => fun
  | [d1, d2] => { results := [.lit (.bool true)], args := [d1, d2] }
  | _ => none }
def widthTimesRow : OpenClaim := { program := "ytimckmfgjpcigaa", sum := "55c4f0b5889181c78d3367aa16dbe91a87d4e056221d03a74fa84ee4a019478f", func := "rubricator/rubricatorlaw18.WidthTimes", spec := "widthTimes", unfollowed := true, recurses := true, loops := true, apart := false }
def WidthTimesSaid : Prop := widthTimesRow.holds Try.pinned (OpenSpec.ofChange widthTimesSpec)

/-- ITS FALSE NEIGHBOUR: 'it returns false'. Refute it at one input. -/
def widthTimesWrong : ChangeSpec := { name := "widthTimes", fn := fun _ => fun
  | [d1, d2] => { results := [.lit (.bool false)], args := [d1, d2] }
  | _ => none }
def WidthTimesWrongFalsely : Prop := widthTimesRow.holds Try.pinned (OpenSpec.ofChange widthTimesWrong)

/- THE SECOND FORM. 'bulk': how many values and letters a reading holds, each counted each time it is reached (what is shared counts as often as it is met; a slice's spare places count too). A statement '..UptoSaid' is the law's where the arguments, and the package variables that the reading takes, are together of bulk at most 1048576: NARROWER than '..Said'. Prove '..Said' where nothing that the law and all that it calls make is longer than what came in: it says more and counts as full. Else prove '..UptoSaid'. A law counts once. -/
mutual
def uptoBulk {H : Type} : DataW H → Nat
  | .lit (.string bytes) => bytes.length + 1
  | .lit _ => 1
  | .nil => 1
  | .ptr d => uptoBulk d + 1
  | .slice elems spare => uptoBulkAll elems + uptoBulkAll spare + 1
  | .agg parts => uptoBulkAll parts + 1
  | .iface _ d => uptoBulk d + 1
  | .map entries => uptoBulkEntries entries + 1
  | .held _ => 1
def uptoBulkAll {H : Type} : List (DataW H) → Nat
  | [] => 0
  | d :: r => uptoBulk d + uptoBulkAll r
def uptoBulkEntries {H : Type} : List (Lit × DataW H) → Nat
  | [] => 0
  | x :: r => uptoBulkEntry x + uptoBulkEntries r
def uptoBulkEntry {H : Type} : Lit × DataW H → Nat
  | (.string bytes, d) => bytes.length + uptoBulk d + 1
  | (_, d) => uptoBulk d + 1
 end
def uptoSmall : (H : Type) → List (DataW H) → Bool := fun _ ds => decide (uptoBulkAll ds ≤ 1048576)
def OpenSpec.upto (s : _root_.Go.ChangeSpec) : _root_.Go.OpenSpec := { _root_.Go.OpenSpec.ofChange s with cond := some uptoSmall }

/-- 'rubricatorlaw18.WidthOf', WHERE WHAT IT READS IS OF BULK AT MOST 1048576: true; the input reads as it did. -/
def widthOfUptoRow : OpenClaim := { program := "ytimckmfgjpcigaa", sum := "55c4f0b5889181c78d3367aa16dbe91a87d4e056221d03a74fa84ee4a019478f", func := "rubricator/rubricatorlaw18.WidthOf", spec := "widthOf", unfollowed := true, recurses := true, loops := true, apart := false, narrowed := true }
def WidthOfUptoSaid : Prop := widthOfUptoRow.holds Try.pinned (OpenSpec.upto widthOfSpec)

/-- 'rubricatorlaw18.WidthOrder', WHERE WHAT IT READS IS OF BULK AT MOST 1048576: true; the input reads as it did. -/
def widthOrderUptoRow : OpenClaim := { program := "ytimckmfgjpcigaa", sum := "55c4f0b5889181c78d3367aa16dbe91a87d4e056221d03a74fa84ee4a019478f", func := "rubricator/rubricatorlaw18.WidthOrder", spec := "widthOrder", unfollowed := true, recurses := true, loops := true, apart := false, narrowed := true }
def WidthOrderUptoSaid : Prop := widthOrderUptoRow.holds Try.pinned (OpenSpec.upto widthOrderSpec)

/-- 'rubricatorlaw18.WidthJoins', WHERE WHAT IT READS IS OF BULK AT MOST 1048576: true; the input reads as it did. -/
def widthJoinsUptoRow : OpenClaim := { program := "ytimckmfgjpcigaa", sum := "55c4f0b5889181c78d3367aa16dbe91a87d4e056221d03a74fa84ee4a019478f", func := "rubricator/rubricatorlaw18.WidthJoins", spec := "widthJoins", unfollowed := true, recurses := true, loops := true, apart := false, narrowed := true }
def WidthJoinsUptoSaid : Prop := widthJoinsUptoRow.holds Try.pinned (OpenSpec.upto widthJoinsSpec)

/-- 'rubricatorlaw18.WidthTimes', WHERE WHAT IT READS IS OF BULK AT MOST 1048576: true; the input reads as it did. -/
def widthTimesUptoRow : OpenClaim := { program := "ytimckmfgjpcigaa", sum := "55c4f0b5889181c78d3367aa16dbe91a87d4e056221d03a74fa84ee4a019478f", func := "rubricator/rubricatorlaw18.WidthTimes", spec := "widthTimes", unfollowed := true, recurses := true, loops := true, apart := false, narrowed := true }
def WidthTimesUptoSaid : Prop := widthTimesUptoRow.holds Try.pinned (OpenSpec.upto widthTimesSpec)

end Rows
end Go.Proofs.Ytimckmfgjpcigaa
