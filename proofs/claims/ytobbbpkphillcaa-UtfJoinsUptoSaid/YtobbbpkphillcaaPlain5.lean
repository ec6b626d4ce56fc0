/- Plain facts: the items stand one behind the other; a code point is written as its bytes. -/
import Derived.Test.YtobbbpkphillcaaPlain4
namespace Go.Proofs.Ytobbbpkphillcaa.Pure
open Go Go.RowKit Go.Proofs.Ytobbbpkphillcaa.PU Go.Proofs.YtobbbpkphillcaaW.PrintWords Go.Proofs.YtobbbpkphillcaaW.PrintLast Go.Proofs.YtobbbpkphillcaaW.PrintMore

theorem and63 {x : Int} (h0 : 0 ≤ x) (h1 : x ≤ 1114111) : Go.bits .and .i64 x 63 = x % 64 := by
  have := bits_mask .i64 63 (by decide) (by intro n a b; rw [IntKind.wrap_i64]; omega) 6 (by decide) x h0 (by omega)
  simpa using this

theorem or128 {x : Int} (h0 : 0 ≤ x) (h1 : x ≤ 1114111) : Go.bits .or .u8 128 ((Go.bits .and .i64 x 63) % 256) = 128 + x % 64 := by
  rw [and63 h0 h1, Int.emod_eq_of_lt (by omega) (by omega), u8_or128 _ (by omega) (by omega)]

theorem head2 : (Go.bits .and .i64 (shr .i64 3968 1) 255) % 256 = 192 := by decide
theorem head3 : (Go.bits .and .i64 (shr .i64 3968 2) 255) % 256 = 224 := by decide
theorem head4 : (Go.bits .and .i64 (shr .i64 3968 3) 255) % 256 = 240 := by decide

theorem utf_enc (k : Nat) (r : Int) : utf_Encode.f (k + 12) r = some (encL r) := by
  unfold utf_Encode.f encL
  by_cases h0 : r < 0
  · rw [if_pos h0, if_pos (.inl h0)]; simp [utf_Encode.j0]
  by_cases h1 : r > 1114111
  · rw [if_neg h0, if_pos h1, if_pos (.inr (.inl h1))]; simp [utf_Encode.j0]
  rw [if_neg h0, if_neg h1]
  by_cases h2 : 55296 ≤ r ∧ r ≤ 57343
  · rw [if_pos (.inr (.inr h2))]
    have : (r / 2048 == 27) = true := by rw [beq_iff_eq]; omega
    rw [this]; simp [utf_Encode.j0]
  rw [if_neg (by omega : ¬ (r < 0 ∨ r > 1114111 ∨ (55296 ≤ r ∧ r ≤ 57343)))]
  have : (r / 2048 == 27) = false := by rw [beq_eq_false_iff_ne]; omega
  rw [this, utf_Encode.j0, if_neg (by decide)]
  by_cases a : r < 128
  · rw [if_pos a, if_pos a, Int.emod_eq_of_lt (by omega) (by omega)]
  rw [if_neg a, if_neg a, utf_Encode.l0]
  by_cases b : r < 2048
  · rw [if_pos b, if_neg (by omega), utf_Encode.j2, w64 (by omega) (by omega), if_pos (by omega), if_pos (by decide), utf_Encode.l1, if_pos (by decide), if_pos (by decide), if_pos (by simp), or128 (by omega) (by omega), w64 (by omega) (by omega),
      utf_Encode.l1, if_neg (by decide), if_pos (by decide), if_pos (by simp), head2, Int.emod_eq_of_lt (a := r / 64) (by omega) (by omega), bits_join .u8 8 (by decide) wraps_u8 5 192 (r / 64) (by omega) (by omega) (by omega) (by omega) (by omega) (by omega)]
    rfl
  rw [if_neg b, if_pos (by omega), if_pos (by decide), w64 (by omega) (by omega), w64 (by omega) (by omega), utf_Encode.l0]
  by_cases c : r < 65536
  · rw [if_pos c, if_neg (by omega), utf_Encode.j2, w64 (by omega) (by omega), if_pos (by omega), if_pos (by decide), utf_Encode.l1, if_pos (by decide), if_pos (by decide), if_pos (by simp), or128 (by omega) (by omega), w64 (by omega) (by omega),
      utf_Encode.l1, if_pos (by decide), if_pos (by decide), if_pos (by simp), or128 (by omega) (by omega), w64 (by omega) (by omega),
      utf_Encode.l1, if_neg (by decide), if_pos (by decide), if_pos (by simp), show (1 : Int) + 1 = 2 from rfl, head3, Int.emod_eq_of_lt (a := r / 64 / 64) (by omega) (by omega), bits_join .u8 8 (by decide) wraps_u8 4 224 (r / 64 / 64) (by omega) (by omega) (by omega) (by omega) (by omega) (by omega), show r / 64 / 64 = r / 4096 from by omega]
    rfl
  rw [if_neg c, if_pos (by omega), if_pos (by decide), w64 (by omega) (by omega), w64 (by omega) (by omega), utf_Encode.l0]
  rw [show (1 : Int) + 1 + 1 = 3 from rfl]
  have hj : utf_Encode.j2 (k + 8) r 3 = some ([240 + r / 262144, 128 + r / 4096 % 64, 128 + r / 64 % 64, 128 + r % 64], true) := by
    rw [utf_Encode.j2, w64 (by omega) (by omega), if_pos (by omega), if_pos (by decide), utf_Encode.l1, if_pos (by decide), if_pos (by decide), if_pos (by simp), or128 (by omega) (by omega), w64 (by omega) (by omega),
      utf_Encode.l1, if_pos (by decide), if_pos (by decide), if_pos (by simp), or128 (by omega) (by omega), w64 (by omega) (by omega),
      utf_Encode.l1, if_pos (by decide), if_pos (by decide), if_pos (by simp), or128 (by omega) (by omega), w64 (by omega) (by omega),
      utf_Encode.l1, if_neg (by decide), if_pos (by decide), if_pos (by simp), head4, Int.emod_eq_of_lt (a := r / 64 / 64 / 64) (by omega) (by omega), bits_join .u8 8 (by decide) wraps_u8 3 240 (r / 64 / 64 / 64) (by omega) (by omega) (by omega) (by omega) (by omega) (by omega), show r / 64 / 64 / 64 = r / 262144 from by omega, show r / 64 / 64 % 64 = r / 4096 % 64 from by omega]
    rfl
  split
  · rw [if_neg (by decide)]; exact hj
  · exact hj


theorem awake_true (k : Nat) : rubricatorlaw01_awake.f (k + 12) = some true := by
  unfold rubricatorlaw01_awake.f
  rw [utf_enc, show encL 8364 = ([226, 130, 172], true) from by decide]
  simp only [Option.bind_some, bytes_Equal.f, beq_self_eq_true, if_true]

theorem awake_ge {k : Nat} (h : 12 ≤ k) : rubricatorlaw01_awake.f k = some true := by
  obtain ⟨m, rfl⟩ : ∃ m, k = m + 12 := ⟨k - 12, by omega⟩
  exact awake_true m

/-- UtfStands: the items stand one behind the other. -/
theorem stands_loop (f : Nat) : ∀ (k : Nat) (l : List Int) (xs : List S31) (p i : Int), 0 ≤ p → p ≤ l.length → (l.length : Int) < 4611686018427387904 → (l.length : Int) - p ≤ f → 0 ≤ i → (xs.length : Int) < 4611686018427387904 →
    xs.drop i.toNat = itemsF f (l.drop p.toNat) p → f + 14 ≤ k → rubricatorlaw01_UtfStands.l0 k l p xs (xs.length : Int) i = some true := by
  induction f with
  | zero =>
    intro k l xs p i h0 h1 hl h2 hi hx e hk
    obtain ⟨k, rfl⟩ : ∃ m, k = m + 1 := ⟨k - 1, by omega⟩
    have : xs.length ≤ i.toNat := by
      rcases Nat.lt_or_ge i.toNat xs.length with q | q
      · rw [itemsF, List.drop_eq_getElem_cons q] at e; cases e
      · exact q
    rw [rubricatorlaw01_UtfStands.l0, if_neg (by omega), if_pos (by omega), awake_ge (by omega)]
    rfl
  | succ f ih =>
    intro k l xs p i h0 h1 hl h2 hi hx e hk
    obtain ⟨k, rfl⟩ : ∃ m, k = m + 1 := ⟨k - 1, by omega⟩
    by_cases hp : p < (l.length : Int)
    · have hd : 0 < ((l.drop p.toNat).length : Int) := by rw [drop_len p h0 h1]; omega
      have n := dec1_n hd
      rw [drop_len p h0 h1] at n
      rw [itemsF, if_pos hd] at e
      obtain ⟨e1, e2, e3⟩ := rd31_of_drop hi e
      rw [rubricatorlaw01_UtfStands.l0, if_pos e2, if_pos hi, if_pos e2, e1]
      dsimp only
      rw [if_pos rfl, if_neg (by omega), if_neg (by omega), if_neg (by rw [w64 (by omega) (by omega)]; omega), w64 (by omega) (by omega)]
      refine ih k l xs _ _ (by omega) (by omega) hl (by omega) (by omega) hx ?_ (by omega)
      rw [e3, List.drop_drop, show (p + (dec1 (l.drop p.toNat)).2.1).toNat = p.toNat + (dec1 (l.drop p.toNat)).2.1.toNat from by omega]
    · have : l.drop p.toNat = [] := List.drop_eq_nil_of_le (by omega)
      rw [this, itemsF_nil] at e
      have : xs.length ≤ i.toNat := by
        rcases Nat.lt_or_ge i.toNat xs.length with q | q
        · rw [List.drop_eq_getElem_cons q] at e; cases e
        · exact q
      rw [rubricatorlaw01_UtfStands.l0, if_neg (by omega), if_pos (by omega), awake_ge (by omega)]
      rfl

theorem stands {l : List Int} (hb : Byt l) (hl : l.length ≤ 2000000) : rubricatorlaw01_UtfStands.f (l.length + 40) l = some true := by
  unfold rubricatorlaw01_UtfStands.f
  rw [decode_spec hb hl _ (by omega), Option.bind_some]
  have := itemsF_len l.length l 0
  exact stands_loop l.length _ l _ 0 0 (by omega) (by omega) (by omega) (by omega) (by omega) (by omega) (by simp) (by omega)

end Go.Proofs.Ytobbbpkphillcaa.Pure
