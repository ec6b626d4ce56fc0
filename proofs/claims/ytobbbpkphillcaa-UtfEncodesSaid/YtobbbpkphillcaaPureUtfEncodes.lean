/- For every int r, the bytes and the verdict that utf.Encode gives are those of the reference's Encode (and the law's awake holds): no condition. -/
import Derived.Test.YtobbbpkphillcaaPUtfEncodesx1
namespace Go.Proofs.Ytobbbpkphillcaa.Pure
open Go Go.RowKit Go.Proofs.Ytobbbpkphillcaa.PUtfEncodes Go.Proofs.YtobbbpkphillcaaW.PrintWords Go.Proofs.YtobbbpkphillcaaW.PrintLast Go.Proofs.YtobbbpkphillcaaW.PrintMore

/-- The bytes of a code point, and whether it has some. -/
def encL (r : Int) : List Int × Bool :=
  if r < 0 ∨ r > 1114111 ∨ (55296 ≤ r ∧ r ≤ 57343) then ([], false)
  else if r < 128 then ([r], true)
  else if r < 2048 then ([192 + r / 64, 128 + r % 64], true)
  else if r < 65536 then ([224 + r / 4096, 128 + r / 64 % 64, 128 + r % 64], true)
  else ([240 + r / 262144, 128 + r / 4096 % 64, 128 + r / 64 % 64, 128 + r % 64], true)

theorem w64 {x : Int} (h0 : -9223372036854775808 ≤ x) (h1 : x ≤ 9223372036854775807) : wrap64 x = x := by
  unfold wrap64; omega

theorem and63 {x : Int} (h0 : 0 ≤ x) (h1 : x ≤ 1114111) : Go.bits .and .i64 x 63 = x % 64 := by
  have := bits_mask .i64 63 (by decide) (by intro n a b; rw [IntKind.wrap_i64]; omega) 6 (by decide) x h0 (by omega)
  simpa using this

theorem or128 {x : Int} (h0 : 0 ≤ x) (h1 : x ≤ 1114111) : Go.bits .or .u8 128 ((Go.bits .and .i64 x 63) % 256) = 128 + x % 64 := by
  rw [and63 h0 h1, Int.emod_eq_of_lt (by omega) (by omega), u8_or128 _ (by omega) (by omega)]

theorem head2 : (Go.bits .and .i64 (shr .i64 3968 1) 255) % 256 = 192 := by decide
theorem head3 : (Go.bits .and .i64 (shr .i64 3968 2) 255) % 256 = 224 := by decide
theorem head4 : (Go.bits .and .i64 (shr .i64 3968 3) 255) % 256 = 240 := by decide

theorem ref_enc (k : Nat) (r : Int) : rubricatorref01_Encode.f (k + 1) r = some (encL r) := by
  unfold rubricatorref01_Encode.f encL
  by_cases h0 : r < 0
  · rw [if_pos h0, if_pos (.inl h0)]; simp [rubricatorref01_Encode.j0]
  by_cases h1 : r > 1114111
  · rw [if_neg h0, if_pos h1, if_pos (.inr (.inl h1))]; simp [rubricatorref01_Encode.j0]
  rw [if_neg h0, if_neg h1]
  by_cases h2 : 55296 ≤ r ∧ r ≤ 57343
  · rw [if_pos h2.1, if_pos (.inr (.inr h2))]; simp [rubricatorref01_Encode.j0, h2.2]
  rw [if_neg (by omega : ¬ (r < 0 ∨ r > 1114111 ∨ (55296 ≤ r ∧ r ≤ 57343)))]
  have hj : ∀ b, b = false → rubricatorref01_Encode.j0 (k + 1) r b = some (if r < 128 then ([r], true) else if r < 2048 then ([192 + r / 64, 128 + r % 64], true) else if r < 65536 then ([224 + r / 4096, 128 + r / 64 % 64, 128 + r % 64], true) else ([240 + r / 262144, 128 + r / 4096 % 64, 128 + r / 64 % 64, 128 + r % 64], true)) := by
    rintro b rfl
    have e64 : Int.tdiv r 64 = r / 64 := Int.tdiv_eq_ediv_of_nonneg (by omega)
    have e4096 : Int.tdiv r 4096 = r / 4096 := Int.tdiv_eq_ediv_of_nonneg (by omega)
    have e26 : Int.tdiv r 262144 = r / 262144 := Int.tdiv_eq_ediv_of_nonneg (by omega)
    have m64 : Int.tmod r 64 = r % 64 := Int.tmod_eq_emod_of_nonneg (by omega)
    rw [rubricatorref01_Encode.j0, if_neg (by decide), e64, e4096, e26, m64, w64 (x := r / 64) (by omega) (by omega), w64 (x := r / 4096) (by omega) (by omega), w64 (x := r / 262144) (by omega) (by omega),
      Int.tmod_eq_emod_of_nonneg (a := r / 64) (by omega), Int.tmod_eq_emod_of_nonneg (a := r / 4096) (by omega)]
    by_cases a : r < 128
    · rw [if_pos a, if_pos a, Int.emod_eq_of_lt (by omega) (by omega)]
    rw [if_neg a, if_neg a]
    by_cases b : r < 2048
    · rw [if_pos b, if_pos b, w64 (by omega) (by omega), w64 (by omega) (by omega), Int.emod_eq_of_lt (by omega) (by omega), Int.emod_eq_of_lt (a := 128 + r % 64) (by omega) (by omega)]
    rw [if_neg b, if_neg b]
    by_cases c : r < 65536
    · rw [if_pos c, if_pos c, w64 (by omega) (by omega), w64 (by omega) (by omega), w64 (by omega) (by omega), Int.emod_eq_of_lt (a := 224 + _) (by omega) (by omega), Int.emod_eq_of_lt (a := 128 + r % 64) (by omega) (by omega), Int.emod_eq_of_lt (a := 128 + r / 64 % 64) (by omega) (by omega)]
    rw [if_neg c, if_neg c, w64 (by omega) (by omega), w64 (by omega) (by omega), w64 (by omega) (by omega), w64 (by omega) (by omega), Int.emod_eq_of_lt (a := 240 + _) (by omega) (by omega), Int.emod_eq_of_lt (a := 128 + r % 64) (by omega) (by omega), Int.emod_eq_of_lt (a := 128 + r / 64 % 64) (by omega) (by omega), Int.emod_eq_of_lt (a := 128 + r / 4096 % 64) (by omega) (by omega)]
  by_cases h3 : r ≥ 55296
  · rw [if_pos h3]; exact hj _ (decide_eq_false (by omega))
  · rw [if_neg h3]; exact hj _ rfl

theorem utf_enc (k : Nat) (r : Int) : utf_Encode.f (k + 12) r = some (encL r) := by
  unfold utf_Encode.f encL
  by_cases h0 : r < 0
  · rw [if_pos h0, if_pos (.inl h0)]; simp [utf_Encode.j0]
  by_cases h1 : r > 1114111
  · rw [if_neg h0, if_pos h1, if_pos (.inr (.inl h1))]; simp [utf_Encode.j0]
  rw [if_neg h0, if_neg h1]
  by_cases h2 : 55296 ≤ r ∧ r ≤ 57343
  · rw [if_pos (.inr (.inr h2))]
    have : (r / 2048 == 27) = true := by rw [beq_iff_eq]; omega
    rw [this]; simp [utf_Encode.j0]
  rw [if_neg (by omega : ¬ (r < 0 ∨ r > 1114111 ∨ (55296 ≤ r ∧ r ≤ 57343)))]
  have : (r / 2048 == 27) = false := by rw [beq_eq_false_iff_ne]; omega
  rw [this, utf_Encode.j0, if_neg (by decide)]
  by_cases a : r < 128
  · rw [if_pos a, if_pos a, Int.emod_eq_of_lt (by omega) (by omega)]
  rw [if_neg a, if_neg a, utf_Encode.l0]
  by_cases b : r < 2048
  · rw [if_pos b, if_neg (by omega), utf_Encode.j2, w64 (by omega) (by omega), if_pos (by omega), if_pos (by decide), utf_Encode.l1, if_pos (by decide), if_pos (by decide), if_pos (by simp), or128 (by omega) (by omega), w64 (by omega) (by omega),
      utf_Encode.l1, if_neg (by decide), if_pos (by decide), if_pos (by simp), head2, Int.emod_eq_of_lt (a := r / 64) (by omega) (by omega), bits_join .u8 8 (by decide) wraps_u8 5 192 (r / 64) (by omega) (by omega) (by omega) (by omega) (by omega) (by omega)]
    rfl
  rw [if_neg b, if_pos (by omega), if_pos (by decide), w64 (by omega) (by omega), w64 (by omega) (by omega), utf_Encode.l0]
  by_cases c : r < 65536
  · rw [if_pos c, if_neg (by omega), utf_Encode.j2, w64 (by omega) (by omega), if_pos (by omega), if_pos (by decide), utf_Encode.l1, if_pos (by decide), if_pos (by decide), if_pos (by simp), or128 (by omega) (by omega), w64 (by omega) (by omega),
      utf_Encode.l1, if_pos (by decide), if_pos (by decide), if_pos (by simp), or128 (by omega) (by omega), w64 (by omega) (by omega),
      utf_Encode.l1, if_neg (by decide), if_pos (by decide), if_pos (by simp), show (1 : Int) + 1 = 2 from rfl, head3, Int.emod_eq_of_lt (a := r / 64 / 64) (by omega) (by omega), bits_join .u8 8 (by decide) wraps_u8 4 224 (r / 64 / 64) (by omega) (by omega) (by omega) (by omega) (by omega) (by omega), show r / 64 / 64 = r / 4096 from by omega]
    rfl
  rw [if_neg c, if_pos (by omega), if_pos (by decide), w64 (by omega) (by omega), w64 (by omega) (by omega), utf_Encode.l0]
  rw [show (1 : Int) + 1 + 1 = 3 from rfl]
  have hj : utf_Encode.j2 (k + 8) r 3 = some ([240 + r / 262144, 128 + r / 4096 % 64, 128 + r / 64 % 64, 128 + r % 64], true) := by
    rw [utf_Encode.j2, w64 (by omega) (by omega), if_pos (by omega), if_pos (by decide), utf_Encode.l1, if_pos (by decide), if_pos (by decide), if_pos (by simp), or128 (by omega) (by omega), w64 (by omega) (by omega),
      utf_Encode.l1, if_pos (by decide), if_pos (by decide), if_pos (by simp), or128 (by omega) (by omega), w64 (by omega) (by omega),
      utf_Encode.l1, if_pos (by decide), if_pos (by decide), if_pos (by simp), or128 (by omega) (by omega), w64 (by omega) (by omega),
      utf_Encode.l1, if_neg (by decide), if_pos (by decide), if_pos (by simp), head4, Int.emod_eq_of_lt (a := r / 64 / 64 / 64) (by omega) (by omega), bits_join .u8 8 (by decide) wraps_u8 3 240 (r / 64 / 64 / 64) (by omega) (by omega) (by omega) (by omega) (by omega) (by omega), show r / 64 / 64 / 64 = r / 262144 from by omega, show r / 64 / 64 % 64 = r / 4096 % 64 from by omega]
    rfl
  split
  · rw [if_neg (by decide)]; exact hj
  · exact hj

theorem awake_true (k : Nat) : rubricatorlaw01_awake.f (k + 12) = some true := by
  unfold rubricatorlaw01_awake.f
  rw [utf_enc, show encL 8364 = ([226, 130, 172], true) from by decide]
  simp only [Option.bind_some, bytes_Equal.f, beq_self_eq_true, if_true]

theorem UtfEncodes : rubricatorlaw01_UtfEncodes.Pure := by
  intro r _
  refine ⟨12, ?_⟩
  unfold rubricatorlaw01_UtfEncodes.f
  rw [utf_enc 0 r, ref_enc 11 r]
  simp only [Option.bind_some, bytes_Equal.f, beq_self_eq_true, if_true, awake_true 0]

end Go.Proofs.Ytobbbpkphillcaa.Pure
