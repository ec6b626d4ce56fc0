/- Plain law of AuditTwo: two matches, each of one place, stand in order where the four tests say so. -/
import Derived.Test.YtebboloogedceaaPlainOrdered
import Derived.Test.YtebboloogedceaaWalkTwo
namespace Go.Proofs.Ytebboloogedceaa.Pure
open Go Go.RowKit Go.Proofs.Ytebboloogedceaa.PAuditOrdered Go.Proofs.Ytebboloogedceaa.PTwo Go.Proofs.YtebboloogedceaaW.PrintWords Go.Proofs.YtebboloogedceaaW.PrintLast Go.Proofs.YtebboloogedceaaW.PrintMore

def wanted (a0 a1 b0 b1 size : Int) : Bool := fits a0 a1 size && (fits b0 b1 size && (decide (a1 ≤ b0) && (!(a0 == b0 && a1 == b1) || decide (a0 < a1))))

/-- One round over a match of one place. -/
theorem round {k : Nat} {xs : List S29} {i : Nat} {s t size a e : Int} (hi : i < xs.length) (hx : (rd_T29 xs (i : Int)).f0 = [⟨s, t⟩]) (hl : xs.length ≤ 1000) :
    audit_Ordered.l0 (k + 2) size a e xs (xs.length : Int) (i : Int) =
      if s < a then some false else if t < s then some false else if t > size then some false else if t = s ∧ s = e then some false else audit_Ordered.l0 k size t (if s = t then t else -1) xs (xs.length : Int) ((i + 1 : Nat) : Int) := by
  have hw : wrap64 ((i : Int) + 1) = ((i + 1 : Nat) : Int) := by rw [w64 (by omega) (by omega)]; omega
  rw [audit_Ordered.l0, if_pos (by omega), if_pos (by omega), if_pos (by omega), hx]
  have h0 : (rd_T26 [(⟨s, t⟩ : S26)] 0) = ⟨s, t⟩ := rfl
  rw [if_neg (by simp), if_pos (by simp), h0]
  simp only [audit_Ordered.j1, hw]
  by_cases c1 : s < a
  · simp [c1]
  simp only [if_neg c1]
  by_cases c2 : t < s
  · simp [c2]
  simp only [if_neg c2]
  by_cases c3 : t > size
  · simp [c3]
  simp only [if_neg c3]
  by_cases c4 : t = s
  · subst c4
    by_cases c5 : t = e
    · subst c5; simp
    · simp [c5]
  · have c5 : ¬ s = t := fun q => c4 q.symm
    simp [c4, c5]

theorem two (a0 a1 b0 b1 size : Int) : audit_Ordered.f 20 [⟨[⟨a0, a1⟩]⟩, ⟨[⟨b0, b1⟩]⟩] size = some (wanted a0 a1 b0 b1 size) := by
  unfold audit_Ordered.f
  have r0 := round (k := 18) (xs := [⟨[⟨a0, a1⟩]⟩, ⟨[⟨b0, b1⟩]⟩]) (i := 0) (s := a0) (t := a1) (size := size) (a := 0) (e := -1) (by simp) rfl (by simp)
  have r1 := fun a e => round (k := 16) (xs := [⟨[⟨a0, a1⟩]⟩, ⟨[⟨b0, b1⟩]⟩]) (i := 1) (s := b0) (t := b1) (size := size) (a := a) (e := e) (by simp) rfl (by simp)
  have r2 : ∀ a e, audit_Ordered.l0 16 size a e [⟨[⟨a0, a1⟩]⟩, ⟨[⟨b0, b1⟩]⟩] ((([⟨[⟨a0, a1⟩]⟩, ⟨[⟨b0, b1⟩]⟩] : List S29).length : Nat) : Int) ((1 + 1 : Nat) : Int) = some true := fun a e => by rw [audit_Ordered.l0, if_neg (by simp)]
  refine Eq.trans r0 ?_
  unfold wanted fits
  by_cases c1 : a0 < 0
  · simp [c1]; omega
  by_cases c2 : a1 < a0
  · simp [c1, c2]; omega
  by_cases c3 : a1 > size
  · simp [c1, c2, c3]; omega
  have c4 : ¬ (a1 = a0 ∧ a0 = -1) := by omega
  simp only [if_neg c1, if_neg c2, if_neg c3, if_neg c4]
  refine Eq.trans (r1 _ _) ?_
  by_cases d1 : b0 < a1
  · simp [d1]; omega
  by_cases d2 : b1 < b0
  · simp [d1, d2]; omega
  by_cases d3 : b1 > size
  · simp [d1, d2, d3]; omega
  rw [if_neg d1, if_neg d2, if_neg d3, r2]
  by_cases d4 : b1 = b0 ∧ b0 = (if a0 = a1 then a1 else -1)
  · rw [if_pos d4]
    obtain ⟨q1, q2⟩ := d4
    by_cases q3 : a0 = a1
    · rw [if_pos q3] at q2
      have z : a0 = b0 ∧ a1 = b1 ∧ ¬ a0 < a1 := by omega
      simp [z]
    · rw [if_neg q3] at q2; omega
  · rw [if_neg d4]
    have z : ¬ (a0 = b0 ∧ a1 = b1) ∨ a0 < a1 := by
      by_cases q3 : a0 = a1
      · rw [if_pos q3] at d4; omega
      · omega
    have y : 0 ≤ a0 ∧ a0 ≤ a1 ∧ a1 ≤ size ∧ 0 ≤ b0 ∧ b0 ≤ b1 ∧ b1 ≤ size ∧ a1 ≤ b0 := by omega
    simp [y]
    omega
theorem two_all (a0 a1 b0 b1 size : Int) : ∃ k, audit_Ordered.f k [⟨[⟨a0, a1⟩]⟩, ⟨[⟨b0, b1⟩]⟩] size = some (wanted a0 a1 b0 b1 size) ∧ rubricatorlaw24_awake.f k = some true := by
  refine ⟨20, two a0 a1 b0 b1 size, ?_⟩
  unfold rubricatorlaw24_awake.f audit_Ordered.f
  simp [audit_Ordered.l0, audit_Ordered.j1, rd_T29, rd_T26, wrap64]
end Go.Proofs.Ytebboloogedceaa.Pure
