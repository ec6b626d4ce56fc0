/- Plain facts: the reference reads an item as dec1 says. -/
import Derived.Test.YtebboloogedceaaPl2
namespace Go.Proofs.Ytebboloogedceaa.Pure
open Go Go.RowKit Go.Proofs.Ytebboloogedceaa.PA Go.Proofs.YtebboloogedceaaW.PrintWords Go.Proofs.YtebboloogedceaaW.PrintLast Go.Proofs.YtebboloogedceaaW.PrintMore

def sizeN (a : Int) : Int := if a < 128 then 1 else if tailN a = 0 then 0 else tailN a + 1

theorem size_spec (k : Nat) (a : Int) : rubricatorref01_Size.f (k + 2) a = some (sizeN a) := by
  unfold rubricatorref01_Size.f sizeN
  by_cases h : a < 128
  · rw [if_pos (by omega), if_pos h]
  rw [if_neg (by omega), if_neg h]
  have hj : ∀ b, rubricatorref01_Size.j1 (k + 1) a b = if b = true then some 3 else if a ≥ 240 then (if a ≤ 244 then some 4 else some 0) else some 0 := fun b => by rw [rubricatorref01_Size.j1]
  rcases tailN_cases a with ⟨t, q⟩ | ⟨t, q⟩ | ⟨t, q⟩ | ⟨t, q⟩
  · rw [if_pos t]
    rcases q with q | q
    · rw [if_neg (by omega), rubricatorref01_Size.j0, if_neg (by decide), if_neg (by omega), hj, if_neg (by decide), if_neg (by omega)]
    · rw [if_pos (by omega), rubricatorref01_Size.j0, if_neg (by simp; omega), if_pos (by omega), hj, if_neg (by simp; omega), if_pos (by omega), if_neg (by omega)]
  · rw [if_neg (show ¬ tailN a = 0 by omega), t, if_pos (by omega), rubricatorref01_Size.j0, if_pos (by simp; omega)]; rfl
  · rw [if_neg (show ¬ tailN a = 0 by omega), t, if_pos (by omega), rubricatorref01_Size.j0, if_neg (by simp; omega), if_pos (by omega), hj, if_pos (by simp; omega)]; rfl
  · rw [if_neg (show ¬ tailN a = 0 by omega), t, if_pos (by omega), rubricatorref01_Size.j0, if_neg (by simp; omega), if_pos (by omega), hj, if_neg (by simp; omega), if_pos (by omega), if_pos (by omega)]; rfl

def loN (a i : Int) : Int := if i = 1 then loB a else 128
def hiN (a i : Int) : Int := if i = 1 then hiB a else 191

theorem bounds_spec (k : Nat) {a i : Int} (h1 : 1 ≤ i) (h2 : i < sizeN a) : rubricatorref01_bounds.f (k + 3) a i = some (loN a i, hiN a i, true) := by
  unfold rubricatorref01_bounds.f
  rw [size_spec, Option.bind_some, if_neg (by omega), rubricatorref01_bounds.j0, if_neg (by simp; omega)]
  unfold loN hiN
  by_cases e : i = 1
  · rw [if_pos e, if_pos e, if_pos e]
    unfold loB hiB
    by_cases c1 : a = 224
    · subst c1; decide
    by_cases c2 : a = 237
    · subst c2; decide
    by_cases c3 : a = 240
    · subst c3; decide
    by_cases c4 : a = 244
    · subst c4; decide
    simp [c1, c2, c3, c4]
  · rw [if_neg e, if_neg e, if_neg e]

theorem first_step (k : Nat) {b : List Int} {i : Int} (hne : 0 < (b.length : Int)) (h1 : 1 ≤ i) :
    rubricatorref01_first.l0 (k + 5) b (sizeN (rd b 0)) i = if i < sizeN (rd b 0) then (if cont b i (loN (rd b 0) i) (hiN (rd b 0) i) = true then rubricatorref01_first.l0 (k + 3) b (sizeN (rd b 0)) (wrap64 (i + 1)) else some (65533, 0, i, false)) else rubricatorref01_first.j2 (k + 3) b (sizeN (rd b 0)) i := by
  rw [rubricatorref01_first.l0]
  by_cases hs : i < sizeN (rd b 0)
  · rw [if_pos hs, if_pos hs, rubricatorref01_first.j1]
    have hj2 : rubricatorref01_first.j2 (k + 3) b (sizeN (rd b 0)) i = some (65533, 0, i, false) := by
      rw [rubricatorref01_first.j2, if_pos hs]
    by_cases hl : i < (b.length : Int)
    · rw [if_pos (decide_eq_true hl), if_pos hne, bounds_spec k h1 hs, Option.bind_some, if_pos (by omega), if_pos hl]
      dsimp only
      by_cases a1 : rd b i < loN (rd b 0) i
      · rw [if_pos a1, hj2, if_neg (by intro h; have := cont_true h; omega)]
      rw [if_neg a1]
      by_cases a2 : rd b i > hiN (rd b 0) i
      · rw [if_pos a2, hj2, if_neg (by intro h; have := cont_true h; omega)]
      rw [if_neg a2, if_pos (by simp [cont]; omega)]
    · rw [if_neg (by simp [hl]), hj2, if_neg (by intro h; have := cont_true h; omega)]
  · rw [if_neg hs, if_neg hs, rubricatorref01_first.j1, if_neg (by decide)]

theorem l1_end (k : Nat) {s r i : Int} {xs : List Int} (h : (xs.length : Int) ≤ i) : rubricatorref01_first.l1 (k + 1) s r xs (xs.length : Int) i = some (r, 0, s, true) := by
  rw [rubricatorref01_first.l1, if_neg (by omega)]

theorem l1_step (k : Nat) {s r i : Int} {xs : List Int} (h0 : 0 ≤ i) (h : i < (xs.length : Int)) (hx : 0 ≤ rd xs i ∧ rd xs i < 256) (hr : 0 ≤ r ∧ r < 1048576) (hl : (xs.length : Int) ≤ 10) :
    rubricatorref01_first.l1 (k + 1) s r xs (xs.length : Int) i = rubricatorref01_first.l1 k s (r * 64 + rd xs i % 64) xs (xs.length : Int) (i + 1) := by
  rw [rubricatorref01_first.l1, if_pos h, if_pos h0, if_pos h, u8_and63 _ hx.1 hx.2, w64 (x := r * 64) (by omega) (by omega), w64 (x := rd xs i % 64) (by omega) (by omega), w64 (x := r * 64 + rd xs i % 64) (by omega) (by omega), w64 (by omega) (by omega)]

theorem sizeN_cases (a : Int) : (a < 128 ∧ sizeN a = 1) ∨ (128 ≤ a ∧ sizeN a = 0 ∧ tailN a = 0) ∨ (128 ≤ a ∧ tailN a ≠ 0 ∧ sizeN a = tailN a + 1) := by
  unfold sizeN
  by_cases h : a < 128
  · exact .inl ⟨h, by rw [if_pos h]⟩
  by_cases t : tailN a = 0
  · exact .inr (.inl ⟨by omega, by rw [if_neg h, if_pos t], t⟩)
  · exact .inr (.inr ⟨by omega, t, by rw [if_neg h, if_neg t]⟩)

theorem first_spec (k : Nat) {b : List Int} (hb : Byt b) (hne : 0 < (b.length : Int)) :
    rubricatorref01_first.f (k + 24) b = some ((dec1 b).1, 0, (dec1 b).2.1, (dec1 b).2.2) := by
  have b0 := hb 0
  have b1 := hb 1
  have b2 := hb 2
  have b3 := hb 3
  unfold rubricatorref01_first.f
  rw [if_pos hne, size_spec, Option.bind_some]
  rcases sizeN_cases (rd b 0) with ⟨h, s⟩ | ⟨h, s, t⟩ | ⟨h, t, s⟩
  · have hd : dec1 b = (rd b 0, 1, true) := by unfold dec1; simp only; rw [if_pos h]
    rw [if_neg (by omega), hd, first_step _ hne (by decide), if_neg (by omega), rubricatorref01_first.j2, if_neg (by omega), if_pos hne, if_neg (by omega), rubricatorref01_first.j3, s, if_pos (by decide), if_pos (by omega), show (1 : Int).toNat = 1 from rfl, take1 hne]
    exact (l1_end (xs := ([] : List Int)) _ (by decide)).trans (by rw [w64 (by omega) (by omega)])
  · have hd : dec1 b = (65533, 1, false) := by unfold dec1; simp only; rw [if_neg (by omega), if_pos t]
    rw [if_pos s, hd]
  · rw [if_neg (by have := tailN_cases (rd b 0); omega)]
    have tc := tailN_cases (rd b 0)
    rw [first_step _ hne (by decide), if_pos (by omega)]
    have hl1 : loN (rd b 0) 1 = loB (rd b 0) := if_pos rfl
    have hh1 : hiN (rd b 0) 1 = hiB (rd b 0) := if_pos rfl
    have hl2 : loN (rd b 0) 2 = 128 := if_neg (by decide)
    have hh2 : hiN (rd b 0) 2 = 191 := if_neg (by decide)
    have hl3 : loN (rd b 0) 3 = 128 := if_neg (by decide)
    have hh3 : hiN (rd b 0) 3 = 191 := if_neg (by decide)
    rw [hl1, hh1]
    by_cases c1 : cont b 1 (loB (rd b 0)) (hiB (rd b 0)) = true
    · rw [if_pos c1, w64 (by decide) (by decide), show (1 : Int) + 1 = 2 from rfl, first_step _ hne (by decide), hl2, hh2]
      have k1 := cont_true c1
      rcases tc with ⟨t', q⟩ | ⟨t', q⟩ | ⟨t', q⟩ | ⟨t', q⟩
      · exact absurd t' t
      · have hd : dec1 b = (rd b 0 % 32 * 64 + rd b 1 % 64, 2, true) := by
          unfold dec1; simp only; rw [if_neg (by omega), if_neg t, if_neg (by rw [c1]; decide), if_pos t']
        rw [if_neg (by omega), hd, rubricatorref01_first.j2, if_neg (by omega), if_pos hne, if_pos (by omega), if_pos (by omega), rubricatorref01_first.j3, if_pos (by omega), if_pos (by omega), s, t', show (1 + 1 : Int).toNat = 2 from rfl, take2 (by omega), show shr .i64 127 (1 + 1) = 2 ^ 5 - 1 from by decide, w64 (by omega) (by omega), and_i64 5 (by decide) b0.1 b0.2]
        show rubricatorref01_first.l1 _ _ _ [rd b 1] (([rd b 1].length : Nat) : Int) 0 = _
        rw [l1_step (xs := [rd b 1]) (i := 0) (r := rd b 0 % 2 ^ 5) _ (by decide) (by simp) b1 (by omega) (by simp), l1_end (xs := [rd b 1]) _ (by simp)]
        rfl
      · rw [if_pos (by omega)]
        by_cases c2 : cont b 2 128 191 = true
        · have k2 := cont_true c2
          have hd : dec1 b = ((rd b 0 % 16 * 64 + rd b 1 % 64) * 64 + rd b 2 % 64, 3, true) := by
            unfold dec1; simp only; rw [if_neg (by omega), if_neg t, if_neg (by rw [c1]; decide), if_neg (by omega), if_neg (by rw [c2]; decide), if_pos t']
          rw [if_pos c2, w64 (by decide) (by decide), show (2 : Int) + 1 = 3 from rfl, first_step _ hne (by decide), if_neg (by omega), hd, rubricatorref01_first.j2, if_neg (by omega), if_pos hne, if_pos (by omega), if_pos (by omega), rubricatorref01_first.j3, if_pos (by omega), if_pos (by omega), s, t', show (2 + 1 : Int).toNat = 3 from rfl, take3 (by omega), show shr .i64 127 (2 + 1) = 2 ^ 4 - 1 from by decide, w64 (by omega) (by omega), and_i64 4 (by decide) b0.1 b0.2]
          show rubricatorref01_first.l1 _ _ _ [rd b 1, rd b 2] (([rd b 1, rd b 2].length : Nat) : Int) 0 = _
          rw [l1_step (xs := [rd b 1, rd b 2]) (i := 0) (r := rd b 0 % 2 ^ 4) _ (by decide) (by simp) b1 (by omega) (by simp), l1_step (xs := [rd b 1, rd b 2]) (i := 0 + 1) (r := rd b 0 % 2 ^ 4 * 64 + rd [rd b 1, rd b 2] 0 % 64) _ (by decide) (by simp) (by have : rd [rd b 1, rd b 2] (0 + 1) = rd b 2 := rfl; rw [this]; exact b2) (by have : rd [rd b 1, rd b 2] 0 = rd b 1 := rfl; rw [this]; omega) (by simp), l1_end (xs := [rd b 1, rd b 2]) _ (by simp)]
          rfl
        · have hd : dec1 b = (65533, 2, false) := by
            unfold dec1; simp only; rw [if_neg (by omega), if_neg t, if_neg (by rw [c1]; decide), if_neg (by omega), if_pos (by simpa using c2)]
          rw [if_neg c2, hd]
      · rw [if_pos (by omega)]
        by_cases c2 : cont b 2 128 191 = true
        · have k2 := cont_true c2
          rw [if_pos c2, w64 (by decide) (by decide), show (2 : Int) + 1 = 3 from rfl, first_step _ hne (by decide), if_pos (by omega), hl3, hh3]
          by_cases c3 : cont b 3 128 191 = true
          · have k3 := cont_true c3
            have hd : dec1 b = (((rd b 0 % 8 * 64 + rd b 1 % 64) * 64 + rd b 2 % 64) * 64 + rd b 3 % 64, 4, true) := by
              unfold dec1; simp only; rw [if_neg (by omega), if_neg t, if_neg (by rw [c1]; decide), if_neg (by omega), if_neg (by rw [c2]; decide), if_neg (by omega), if_neg (by rw [c3]; decide)]
            rw [if_pos c3, w64 (by decide) (by decide), show (3 : Int) + 1 = 4 from rfl, first_step _ hne (by decide), if_neg (by omega), hd, rubricatorref01_first.j2, if_neg (by omega), if_pos hne, if_pos (by omega), if_pos (by omega), rubricatorref01_first.j3, if_pos (by omega), if_pos (by omega), s, t', show (3 + 1 : Int).toNat = 4 from rfl, take4 (by omega), show shr .i64 127 (3 + 1) = 2 ^ 3 - 1 from by decide, w64 (by omega) (by omega), and_i64 3 (by decide) b0.1 b0.2]
            show rubricatorref01_first.l1 _ _ _ [rd b 1, rd b 2, rd b 3] (([rd b 1, rd b 2, rd b 3].length : Nat) : Int) 0 = _
            have e0 : rd [rd b 1, rd b 2, rd b 3] 0 = rd b 1 := rfl
            have e1 : rd [rd b 1, rd b 2, rd b 3] (0 + 1) = rd b 2 := rfl
            rw [l1_step (xs := [rd b 1, rd b 2, rd b 3]) (i := 0) (r := rd b 0 % 2 ^ 3) _ (by decide) (by simp) b1 (by omega) (by simp), l1_step (xs := [rd b 1, rd b 2, rd b 3]) (i := 0 + 1) (r := rd b 0 % 2 ^ 3 * 64 + rd [rd b 1, rd b 2, rd b 3] 0 % 64) _ (by decide) (by simp) (by rw [e1]; exact b2) (by rw [e0]; omega) (by simp), l1_step (xs := [rd b 1, rd b 2, rd b 3]) (i := 0 + 1 + 1) (r := (rd b 0 % 2 ^ 3 * 64 + rd [rd b 1, rd b 2, rd b 3] 0 % 64) * 64 + rd [rd b 1, rd b 2, rd b 3] (0 + 1) % 64) _ (by decide) (by simp) (by have : rd [rd b 1, rd b 2, rd b 3] (0 + 1 + 1) = rd b 3 := rfl; rw [this]; exact b3) (by rw [e0, e1]; omega) (by simp), l1_end (xs := [rd b 1, rd b 2, rd b 3]) _ (by simp)]
            rfl
          · have hd : dec1 b = (65533, 3, false) := by
              unfold dec1; simp only; rw [if_neg (by omega), if_neg t, if_neg (by rw [c1]; decide), if_neg (by omega), if_neg (by rw [c2]; decide), if_neg (by omega), if_pos (by simpa using c3)]
            rw [if_neg c3, hd]
        · have hd : dec1 b = (65533, 2, false) := by
            unfold dec1; simp only; rw [if_neg (by omega), if_neg t, if_neg (by rw [c1]; decide), if_neg (by omega), if_pos (by simpa using c2)]
          rw [if_neg c2, hd]
    · have hd : dec1 b = (65533, 1, false) := by
        unfold dec1; simp only; rw [if_neg (by omega), if_neg t, if_pos (by simpa using c1)]
      rw [if_neg c1, hd]

end Go.Proofs.Ytebboloogedceaa.Pure
