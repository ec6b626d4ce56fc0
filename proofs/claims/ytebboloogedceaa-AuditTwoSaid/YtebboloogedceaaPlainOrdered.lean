/- Plain law of AuditOrdered: both loops tell the same, whatever the matches. -/
import Derived.Test.YtebboloogedceaaPAuditOrderedx2
namespace Go.Proofs.Ytebboloogedceaa.Pure
open Go Go.RowKit Go.Proofs.Ytebboloogedceaa.PAuditOrdered Go.Proofs.YtebboloogedceaaW.PrintWords Go.Proofs.YtebboloogedceaaW.PrintLast Go.Proofs.YtebboloogedceaaW.PrintMore

theorem w64 {x : Int} (h0 : -9223372036854775808 ≤ x) (h1 : x ≤ 9223372036854775807) : wrap64 x = x := by
  unfold wrap64; omega

theorem ordered_loops (xs : List S29) (hx : (xs.length : Int) ≤ 9223372036854775807) (size : Int) (d : Nat) : ∀ (k1 k2 : Nat) (i a e ls le : Int), 0 ≤ i → (xs.length : Int) - i ≤ d → 2 * d + 2 ≤ k1 → d + 1 ≤ k2 → 0 ≤ a → a = le → e = (if ls = le then le else -1) →
    ∃ r, audit_Ordered.l0 k1 size a e xs (xs.length : Int) i = some r ∧ rubricatorref24_Ordered.l0 k2 size xs (xs.length : Int) i ls le = some r := by
  induction d with
  | zero =>
    intro k1 k2 i a e ls le h0 h1 hk1 hk2 ha hae he
    obtain ⟨k1, rfl⟩ : ∃ m, k1 = m + 1 := ⟨k1 - 1, by omega⟩
    obtain ⟨k2, rfl⟩ : ∃ m, k2 = m + 1 := ⟨k2 - 1, by omega⟩
    rw [audit_Ordered.l0, rubricatorref24_Ordered.l0, if_neg (by omega), if_neg (by omega)]
    exact ⟨true, rfl, rfl⟩
  | succ d ih =>
    intro k1 k2 i a e ls le h0 h1 hk1 hk2 ha hae he
    obtain ⟨k1, rfl⟩ : ∃ m, k1 = m + 2 := ⟨k1 - 2, by omega⟩
    obtain ⟨k2, rfl⟩ : ∃ m, k2 = m + 1 := ⟨k2 - 1, by omega⟩
    rw [audit_Ordered.l0, rubricatorref24_Ordered.l0]
    by_cases hi : i < (xs.length : Int)
    · rw [if_pos hi, if_pos hi, if_pos h0, if_pos h0, if_pos hi, if_pos hi]
      by_cases hl : (((rd_T29 xs i).f0).length : Int) = 0
      · rw [if_pos hl, if_pos hl]; exact ⟨false, rfl, rfl⟩
      have hp : 0 < (((rd_T29 xs i).f0).length : Int) := by omega
      simp only [if_neg hl, if_pos hp]
      generalize (rd_T26 (rd_T29 xs i).f0 0).f0 = s
      generalize (rd_T26 (rd_T29 xs i).f0 0).f1 = t
      subst hae
      simp only [audit_Ordered.j1]
      by_cases c1 : s < a
      · rw [if_pos c1, if_pos c1]; exact ⟨false, rfl, rfl⟩
      rw [if_neg c1, if_neg c1]
      by_cases c2 : t < s
      · rw [if_pos c2, if_pos c2]; exact ⟨false, rfl, rfl⟩
      rw [if_neg c2, if_neg c2]
      by_cases c3 : t > size
      · rw [if_pos c3, if_pos c3]; exact ⟨false, rfl, rfl⟩
      rw [if_neg c3, if_neg c3]
      have hw : wrap64 (i + 1) = i + 1 := w64 (by omega) (by omega)
      rw [hw]
      by_cases c4 : t = s
      · subst c4
        rw [if_pos rfl]
        by_cases c5 : ls = a
        · rw [if_pos c5] at he
          rw [he, c5]
          by_cases c6 : t = a
          · rw [c6]
            exact ⟨false, by simp, by simp⟩
          · obtain ⟨r, q1, q2⟩ := ih k1 k2 (i + 1) t t t t (by omega) (by omega) (by omega) (by omega) (by omega) rfl (by rw [if_pos rfl])
            refine ⟨r, ?_, ?_⟩
            · rw [if_neg (by simpa using c6), if_pos rfl]; exact q1
            · rw [if_neg (by simpa using c6)]; exact q2
        · rw [if_neg c5] at he
          rw [he]
          obtain ⟨r, q1, q2⟩ := ih k1 k2 (i + 1) t t t t (by omega) (by omega) (by omega) (by omega) (by omega) rfl (by rw [if_pos rfl])
          refine ⟨r, ?_, ?_⟩
          · rw [if_neg (by simp; omega), if_pos rfl]; exact q1
          · rw [if_neg (by simp; omega)]; exact q2
      · rw [if_neg c4]
        obtain ⟨r, q1, q2⟩ := ih k1 k2 (i + 1) t (-1) s t (by omega) (by omega) (by omega) (by omega) (by omega) rfl (by rw [if_neg (by omega)])
        refine ⟨r, ?_, ?_⟩
        · rw [if_neg (by decide), if_neg (by omega)]; exact q1
        · by_cases c7 : ((s == ls) && (t == a)) = true
          · rw [if_pos c7, if_neg (by omega)]; exact q2
          · rw [if_neg c7]; exact q2
    · rw [if_neg hi, if_neg hi]
      exact ⟨true, rfl, rfl⟩

theorem AuditOrdered_true (xs : List S29) (size : Int) (hx : xs.length ≤ 9223372036854775807) (_hw : ∀ x ∈ xs, True) (_hs : (Lit.int .i64 size).wf = true) : ∃ k, rubricatorlaw24_AuditOrdered.f k xs size = some true := by
  refine ⟨2 * xs.length + 20, ?_⟩
  unfold rubricatorlaw24_AuditOrdered.f audit_Ordered.f rubricatorref24_Ordered.f
  obtain ⟨r, h1, h2⟩ := ordered_loops xs (by omega) size xs.length (2 * xs.length + 20) (2 * xs.length + 20) 0 0 (-1) (-1) 0 (by omega) (by omega) (by omega) (by omega) (by omega) rfl (by decide)
  rw [h1, h2, Option.bind_some, Option.bind_some, if_pos (by simp)]
  have ha : ∀ k, rubricatorlaw24_awake.f (k + 20) = some true := by
    intro k
    unfold rubricatorlaw24_awake.f audit_Ordered.f
    simp [audit_Ordered.l0, audit_Ordered.j1, rd_T29, rd_T26, wrap64]
  rw [ha (2 * xs.length)]
  rfl

end Go.Proofs.Ytebboloogedceaa.Pure
