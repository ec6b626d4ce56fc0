/- Plain law of UtfDecodes: the items of any bytes, and whether they are UTF-8; they stay. -/
import Derived.Test.YtobbbpkphillcaaPlain7
import Derived.Test.YtobbbpkphillcaaDec
namespace Go.Proofs.Ytobbbpkphillcaa.Pure
open Go Go.RowKit Go.Proofs.Ytobbbpkphillcaa.PU Go.Proofs.YtobbbpkphillcaaW.PrintWords Go.Proofs.YtobbbpkphillcaaW.PrintLast Go.Proofs.YtobbbpkphillcaaW.PrintMore

theorem item_loop (xs : List S31) (hx : xs.length ≤ 8000000) (d : Nat) : ∀ (k : Nat) (i : Int), 0 ≤ i → (xs.length : Int) - i ≤ d → d + 1 ≤ k → api_Item.l0 k xs xs (xs.length : Int) i = some true := by
  induction d with
  | zero =>
    intro k i h0 h1 hk
    obtain ⟨k, rfl⟩ : ∃ m, k = m + 1 := ⟨k - 1, by omega⟩
    rw [api_Item.l0, if_neg (by omega)]
  | succ d ih =>
    intro k i h0 h1 hk
    obtain ⟨k, rfl⟩ : ∃ m, k = m + 1 := ⟨k - 1, by omega⟩
    rw [api_Item.l0]
    by_cases h : i < (xs.length : Int)
    · rw [if_pos h, if_pos h0, if_pos h, if_pos h, if_neg (by simp), w64 (by omega) (by omega)]
      exact ih k (i + 1) (by omega) (by omega) (by omega)
    · rw [if_neg h]

theorem item_refl (xs : List S31) (hx : xs.length ≤ 8000000) (k : Nat) (hk : xs.length + 1 ≤ k) : api_Item.f k xs xs = some true := by
  unfold api_Item.f
  rw [if_pos rfl]
  exact item_loop xs hx xs.length k 0 (by omega) (by omega) hk

theorem clone_spec {l : List Int} (h : l.length < 140737488355328) : bytes_Clone.f l = some l := by
  unfold bytes_Clone.f
  rw [Option.bind_some, if_pos (by simpa using h)]
  rfl

theorem UtfDecodes_true (l : List Int) (hw : ∀ x ∈ l, (Lit.int .u8 x).wf = true) (hl : l.length ≤ 1048576) : ∃ k, rubricatorlaw01_UtfDecodes.f k l = some true := by
  have hb := byt_of hw
  have hn := itemsF_len l.length l 0
  refine ⟨l.length + 60, ?_⟩
  unfold rubricatorlaw01_UtfDecodes.f
  rw [clone_spec (by omega), Option.bind_some, decode_spec hb (by omega) _ (by omega), Option.bind_some, ref_decode_spec hb (by omega) _ (by omega), Option.bind_some, item_refl _ (by omega) _ (by omega), Option.bind_some, if_pos rfl,
    valid_spec hb _ (by omega), ref_valid_spec hb _ (by omega), Option.bind_some, Option.bind_some, if_pos (by simp), awake_ge (by omega)]
  simp only [bytes_Equal.f, Option.bind_some, beq_self_eq_true, if_true]

end Go.Proofs.Ytobbbpkphillcaa.Pure
