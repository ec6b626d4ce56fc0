/- For every int r: if utf.Encode gives bytes, they are valid and one item, of r; else r is no code point that has bytes. No condition. -/
import Derived.Test.YtobbbpkphillcaaPlain6
namespace Go.Proofs.Ytobbbpkphillcaa.Pure
open Go Go.RowKit Go.Proofs.Ytobbbpkphillcaa.PU
theorem UtfBack : rubricatorlaw01_UtfBack.Pure := fun r _ => ⟨60, back_true r⟩
end Go.Proofs.Ytobbbpkphillcaa.Pure
