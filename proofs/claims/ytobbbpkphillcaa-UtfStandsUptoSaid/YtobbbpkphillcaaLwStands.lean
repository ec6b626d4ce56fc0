/- The plain law of UtfStands: its printed function answers true for every list of bytes of length at most 1048576. -/
import Derived.Test.YtobbbpkphillcaaPlain5
namespace Go.Proofs.Ytobbbpkphillcaa.Pure
open Go Go.RowKit Go.Proofs.Ytobbbpkphillcaa.PU
theorem UtfStands_true (l : List Int) (hw : ∀ x ∈ l, (Lit.int .u8 x).wf = true) (hl : l.length ≤ 1048576) : ∃ k, rubricatorlaw01_UtfStands.f k l = some true :=
  ⟨_, stands (byt_of hw) (by omega)⟩
end Go.Proofs.Ytobbbpkphillcaa.Pure
