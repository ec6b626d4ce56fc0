-- Written by a program of this session (a turn of the kit's print); Lean checks it.
import Derived.Test.YtebboloogedceaaPA0
import Derived.Test.YtebboloogedceaaPRA
import Derived.Test.YtebboloogedceaaJoin
namespace Go.Proofs.Ytebboloogedceaa.PA
open Go.RowKit Go.Proofs.YtebboloogedceaaW.PrintWords Go.Proofs.YtebboloogedceaaW.PrintLast Go.Proofs.YtebboloogedceaaW.PrintMore
attribute [local go_sem] max2_int min2_int max_two min_two max_three min_three max_four min_four   -- for this text's walks alone
set_option linter.unusedVariables false
set_option linter.unusedSimpArgs false

/-! ### bytes_Join: function 21 -/
open Go.Proofs.Ytebboloogedceaa
def bytes_Join.f (ls : List (List Int)) : Option (List Int) := if (0 < ls.length ∧ ls.length ≤ 140737488355328) ∧ (∀ l ∈ ls, ∀ x ∈ l, 0 ≤ x ∧ x < 256) ∧ ls.flatten.length ≤ 140737488355328 then some ls.flatten else none
theorem N_addr {α : Type} {d : Kd α} {e base : Nat} {ok : Nat → Prop} {w : World} {A : Option Addr} {n c : Nat} {xs : List α} (h : Kd.N d e w base ok (.slice A n c) xs) (hp : 0 < n) : ∃ g, A = some ⟨g, 0, none⟩ := by
  obtain ⟨_, rows, _, ⟨_, inner, ho, _⟩, _⟩ := h
  rcases ho.2 with ⟨e1, e2⟩ | ⟨g, cap, cur, e1, _⟩
  · injection e1 with q1 q2 q3; omega
  · injection e1 with q1 q2 q3; exact ⟨g, q1⟩
theorem bytes_Join.calls (g : Nat) (c0 : Nat) (l0 : List (List Int)) (r : List Int) (w : World) (hr0 : Kd.C (Kd.slice 5 (Kd.int .u8)) w (some ⟨g, 0, none⟩) l0.length l0) (hc0 : l0.length ≤ c0) (h : bytes_Join.f l0 = some r) :
    Calls Try.prog 21 #[.slice (some ⟨g, 0, none⟩) l0.length c0, .slice none 0 0] w fun e w' => ∃ A c, e = .returned (.slice A r.length c) ∧ r.length ≤ c ∧ Kd.C (Kd.int .u8) w' A r.length r ∧ Below w.heap.size w w' := by
  unfold bytes_Join.f at h
  split at h
  · next hc =>
    obtain ⟨⟨h1, h2⟩, h3, h4⟩ := hc
    obtain rfl := Option.some.inj h
    rcases Nat.lt_or_ge 1 l0.length with q | q
    · exact Bridge.join_many l0 g 0 c0 w hr0 hc0 h3 q h2 h4
    · obtain ⟨l, rfl⟩ : ∃ l, l0 = [l] := by
        match l0, h1, q with
        | [l], _, _ => exact ⟨l, rfl⟩
        | _ :: _ :: _, _, q => simp at q
      have e : [l].flatten = l := by simp
      rw [e] at h4 ⊢
      exact Bridge.join_one l g 0 c0 w hr0 (h3 l (by simp)) h4
  · cases h

end Go.Proofs.Ytebboloogedceaa.PA
