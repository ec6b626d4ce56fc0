/- Plain facts: Valid; a code point's bytes are one item, of it. -/
import Derived.Test.YtobbbpkphillcaaPlain5
import Derived.Test.YtobbbpkphillcaaPU9
namespace Go.Proofs.Ytobbbpkphillcaa.Pure
open Go Go.RowKit Go.Proofs.Ytobbbpkphillcaa.PU Go.Proofs.YtobbbpkphillcaaW.PrintWords Go.Proofs.YtobbbpkphillcaaW.PrintLast Go.Proofs.YtobbbpkphillcaaW.PrintMore

/-- Are all items well-formed. -/
def validF : Nat → List Int → Bool
  | 0, _ => true
  | f + 1, b => if 0 < (b.length : Int) then (dec1 b).2.2 && validF f (b.drop (dec1 b).2.1.toNat) else true

theorem validF_nil (f : Nat) : validF f [] = true := by cases f <;> simp [validF]

theorem validF_fuel (f : Nat) : ∀ g b, b.length ≤ f → b.length ≤ g → validF f b = validF g b := by
  induction f with
  | zero =>
    intro g b h _
    have : b = [] := List.eq_nil_of_length_eq_zero (by omega)
    subst this
    rw [validF_nil, validF_nil]
  | succ f ih =>
    intro g b h1 h2
    by_cases hb : 0 < (b.length : Int)
    · obtain ⟨g, rfl⟩ : ∃ m, g = m + 1 := ⟨g - 1, by omega⟩
      have n := dec1_n hb
      rw [validF, validF, if_pos hb, if_pos hb, ih g _ (by rw [List.length_drop]; omega) (by rw [List.length_drop]; omega)]
    · have : b = [] := List.eq_nil_of_length_eq_zero (by omega)
      subst this
      rw [validF_nil, validF_nil]

theorem valid_loop (f : Nat) : ∀ (k : Nat) (b : List Int), Byt b → b.length ≤ f → f + 12 ≤ k → utf_Valid.l0 k b = some (validF f b) := by
  induction f with
  | zero =>
    intro k b hb h hk
    obtain ⟨k, rfl⟩ : ∃ m, k = m + 1 := ⟨k - 1, by omega⟩
    rw [utf_Valid.l0, if_neg (by omega), validF]
  | succ f ih =>
    intro k b hb h hk
    obtain ⟨k, rfl⟩ : ∃ m, k = m + 1 := ⟨k - 1, by omega⟩
    rw [utf_Valid.l0, validF]
    by_cases hp : 0 < (b.length : Int)
    · obtain ⟨m, rfl⟩ : ∃ m, k = m + 10 := ⟨k - 10, by omega⟩
      have n := dec1_n hp
      rw [if_pos hp, if_pos hp, read_spec m hb hp, Option.bind_some]
      cases hv : (dec1 b).2.2 with
      | true =>
        rw [if_pos rfl, if_pos (by omega), if_pos (by omega), ih _ _ (hb.drop _) (by rw [List.length_drop]; omega) (by omega)]
        simp
      | false => rw [if_neg (by decide)]; simp
    · rw [if_neg hp, if_neg hp]

theorem valid_spec {b : List Int} (hb : Byt b) (k : Nat) (hk : b.length + 12 ≤ k) : utf_Valid.f k b = some (validF b.length b) := by
  unfold utf_Valid.f
  exact valid_loop b.length k b hb (Nat.le_refl _) hk

theorem ref_valid_loop (f : Nat) : ∀ (k : Nat) (b : List Int), Byt b → b.length ≤ f → f + 26 ≤ k → rubricatorref01_Valid.l0 k b = some (validF f b) := by
  induction f with
  | zero =>
    intro k b hb h hk
    obtain ⟨k, rfl⟩ : ∃ m, k = m + 1 := ⟨k - 1, by omega⟩
    rw [rubricatorref01_Valid.l0, if_neg (by omega), validF]
  | succ f ih =>
    intro k b hb h hk
    obtain ⟨k, rfl⟩ : ∃ m, k = m + 1 := ⟨k - 1, by omega⟩
    rw [rubricatorref01_Valid.l0, validF]
    by_cases hp : 0 < (b.length : Int)
    · obtain ⟨m, rfl⟩ : ∃ m, k = m + 24 := ⟨k - 24, by omega⟩
      have n := dec1_n hp
      rw [if_pos hp, if_pos hp, first_spec m hb hp, Option.bind_some]
      dsimp only
      cases hv : (dec1 b).2.2 with
      | true =>
        rw [if_pos rfl, if_pos (by omega), if_pos (by omega), ih _ _ (hb.drop _) (by rw [List.length_drop]; omega) (by omega)]
        simp
      | false => rw [if_neg (by decide)]; simp
    · rw [if_neg hp, if_neg hp]

theorem ref_valid_spec {b : List Int} (hb : Byt b) (k : Nat) (hk : b.length + 26 ≤ k) : rubricatorref01_Valid.f k b = some (validF b.length b) := by
  unfold rubricatorref01_Valid.f
  exact ref_valid_loop b.length k b hb (Nat.le_refl _) hk

theorem byt_iff {b : List Int} : (∀ x ∈ b, 0 ≤ x ∧ x < 256) → Byt b := by
  intro h i
  unfold rd
  by_cases hi : i.toNat < b.length
  · rw [List.getD_eq_getElem?_getD, List.getElem?_eq_getElem hi]
    exact h _ (List.getElem_mem hi)
  · rw [List.getD_eq_getElem?_getD, List.getElem?_eq_none (by omega)]
    simp

theorem encL_byt (r : Int) : ∀ x ∈ (encL r).1, 0 ≤ x ∧ x < 256 := by
  unfold encL
  split
  · intro x h; cases h
  split
  · intro x h; simp at h; omega
  split
  · intro x h; simp at h; omega
  split
  · intro x h; simp at h; omega
  · intro x h; simp at h; omega

theorem encL_len (r : Int) (h : (encL r).2 = true) : 1 ≤ (encL r).1.length ∧ (encL r).1.length ≤ 4 := by
  unfold encL at h ⊢
  split
  · rename_i q; rw [if_pos q] at h; cases h
  split
  · exact ⟨by simp, by simp⟩
  split
  · exact ⟨by simp, by simp⟩
  split
  · exact ⟨by simp, by simp⟩
  · exact ⟨by simp, by simp⟩

/-- UtfBack: a code point's bytes are one item, of it. -/
theorem back_true (r : Int) : rubricatorlaw01_UtfBack.f 60 r = some true := by
  unfold rubricatorlaw01_UtfBack.f
  rw [utf_enc 48 r, Option.bind_some]
  cases h : (encL r).2 with
  | true =>
    have hb := byt_iff (encL_byt r)
    have hl := encL_len r h
    have hd := dec1_of_enc h
    have hv : validF (encL r).1.length (encL r).1 = true := by
      obtain ⟨m, hm⟩ : ∃ m, (encL r).1.length = m + 1 := ⟨(encL r).1.length - 1, by omega⟩
      rw [hm, validF, if_pos (by omega), hd]
      dsimp only
      rw [Int.toNat_natCast, List.drop_length, validF_nil]
      rfl
    have hi : itemsF (encL r).1.length (encL r).1 0 = [⟨r, 0, ((encL r).1.length : Int)⟩] := by
      obtain ⟨m, hm⟩ : ∃ m, (encL r).1.length = m + 1 := ⟨(encL r).1.length - 1, by omega⟩
      rw [hm, itemsF, if_pos (by omega), hd]
      dsimp only
      rw [Int.toNat_natCast, List.drop_length, itemsF_nil, Int.zero_add, hm]
    rw [if_pos rfl, valid_spec hb _ (by omega), hv, Option.bind_some, if_pos rfl, decode_spec hb (by omega) _ (by omega), hi, Option.bind_some]
    unfold api_Item.f
    rw [if_pos (by simp)]
    show (api_Item.l0 60 [⟨r, 0, ((encL r).1.length : Int)⟩] [⟨r, 0, ((encL r).1.length : Int)⟩] 1 0).bind _ = _
    rw [api_Item.l0, if_pos (by decide), if_pos (by decide), if_pos (by simp), if_pos (by simp), if_neg (by simp), w64 (by decide) (by decide), api_Item.l0, if_neg (by decide)]
    rfl
  | false =>
    rw [if_neg (by decide), awake_ge (by decide)]
    simp only [Option.bind_some]
    have hr : r < 0 ∨ r > 1114111 ∨ (55296 ≤ r ∧ r ≤ 57343) := by
      unfold encL at h
      split at h
      · assumption
      · exfalso
        revert h
        split <;> (try split) <;> (try split) <;> simp
    split
    · rfl
    split
    · rfl
    rw [if_pos (by omega), if_pos (by omega)]

end Go.Proofs.Ytobbbpkphillcaa.Pure
