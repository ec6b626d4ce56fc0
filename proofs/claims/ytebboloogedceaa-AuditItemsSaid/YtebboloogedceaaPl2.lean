/- Plain facts on one item: its cases, its bytes, what stands behind. -/
import Derived.Test.YtebboloogedceaaPl1
namespace Go.Proofs.Ytebboloogedceaa.Pure
open Go Go.RowKit Go.Proofs.Ytebboloogedceaa.PA Go.Proofs.YtebboloogedceaaW.PrintWords Go.Proofs.YtebboloogedceaaW.PrintLast Go.Proofs.YtebboloogedceaaW.PrintMore

/-- The bytes of a code point, and whether it has some. -/
def encL (r : Int) : List Int × Bool :=
  if r < 0 ∨ r > 1114111 ∨ (55296 ≤ r ∧ r ≤ 57343) then ([], false)
  else if r < 128 then ([r], true)
  else if r < 2048 then ([192 + r / 64, 128 + r % 64], true)
  else if r < 65536 then ([224 + r / 4096, 128 + r / 64 % 64, 128 + r % 64], true)
  else ([240 + r / 262144, 128 + r / 4096 % 64, 128 + r / 64 % 64, 128 + r % 64], true)

/-- dec1's cases, told as one. -/
inductive Dec (b : List Int) : Int × Int × Bool → Prop
  | one (h : rd b 0 < 128) : Dec b (rd b 0, 1, true)
  | bad0 (h : 128 ≤ rd b 0) (t : tailN (rd b 0) = 0) : Dec b (65533, 1, false)
  | bad1 (h : 128 ≤ rd b 0) (t : 1 ≤ tailN (rd b 0)) (c : cont b 1 (loB (rd b 0)) (hiB (rd b 0)) = false) : Dec b (65533, 1, false)
  | two (h : 194 ≤ rd b 0) (h' : rd b 0 < 224) (c : cont b 1 128 191 = true) : Dec b (rd b 0 % 32 * 64 + rd b 1 % 64, 2, true)
  | bad2 (h : 224 ≤ rd b 0) (h' : rd b 0 ≤ 244) (c : cont b 1 (loB (rd b 0)) (hiB (rd b 0)) = true) (d : cont b 2 128 191 = false) : Dec b (65533, 2, false)
  | three (h : 224 ≤ rd b 0) (h' : rd b 0 < 240) (c : cont b 1 (loB (rd b 0)) (hiB (rd b 0)) = true) (d : cont b 2 128 191 = true) : Dec b ((rd b 0 % 16 * 64 + rd b 1 % 64) * 64 + rd b 2 % 64, 3, true)
  | bad3 (h : 240 ≤ rd b 0) (h' : rd b 0 ≤ 244) (c : cont b 1 (loB (rd b 0)) (hiB (rd b 0)) = true) (d : cont b 2 128 191 = true) (e : cont b 3 128 191 = false) : Dec b (65533, 3, false)
  | four (h : 240 ≤ rd b 0) (h' : rd b 0 ≤ 244) (c : cont b 1 (loB (rd b 0)) (hiB (rd b 0)) = true) (d : cont b 2 128 191 = true) (e : cont b 3 128 191 = true) : Dec b (((rd b 0 % 8 * 64 + rd b 1 % 64) * 64 + rd b 2 % 64) * 64 + rd b 3 % 64, 4, true)

theorem lohi_two {a : Int} (h : a < 224) : loB a = 128 ∧ hiB a = 191 := by
  unfold loB hiB
  rw [if_neg (by omega), if_neg (by omega), if_neg (by omega), if_neg (by omega)]; exact ⟨rfl, rfl⟩

theorem lohi_bd (a : Int) : 128 ≤ loB a ∧ hiB a ≤ 191 := by
  unfold loB hiB; constructor <;> (split <;> (try split) <;> omega)

theorem dec1_dec (b : List Int) : Dec b (dec1 b) := by
  unfold dec1
  simp only
  by_cases h1 : rd b 0 < 128
  · rw [if_pos h1]; exact .one h1
  rw [if_neg h1]
  by_cases t0 : tailN (rd b 0) = 0
  · rw [if_pos t0]; exact .bad0 (by omega) t0
  rw [if_neg t0]
  have tc := tailN_cases (rd b 0)
  by_cases c1 : cont b 1 (loB (rd b 0)) (hiB (rd b 0)) = false
  · rw [if_pos c1]; exact .bad1 (by omega) (by omega) c1
  rw [if_neg c1]
  have c1 : cont b 1 (loB (rd b 0)) (hiB (rd b 0)) = true := by simpa using c1
  by_cases t1 : tailN (rd b 0) = 1
  · rw [if_pos t1]
    have : 194 ≤ rd b 0 ∧ rd b 0 < 224 := by omega
    refine .two this.1 this.2 ?_
    rw [(lohi_two this.2).1, (lohi_two this.2).2] at c1; exact c1
  rw [if_neg t1]
  by_cases c2 : cont b 2 128 191 = false
  · rw [if_pos c2]; exact .bad2 (by omega) (by omega) c1 c2
  rw [if_neg c2]
  have c2 : cont b 2 128 191 = true := by simpa using c2
  by_cases t2 : tailN (rd b 0) = 2
  · rw [if_pos t2]; exact .three (by omega) (by omega) c1 c2
  rw [if_neg t2]
  by_cases c3 : cont b 3 128 191 = false
  · rw [if_pos c3]; exact .bad3 (by omega) (by omega) c1 c2 c3
  rw [if_neg c3]
  exact .four (by omega) (by omega) c1 c2 (by simpa using c3)

theorem lo_224 {a : Int} (h : a = 224) : loB a = 160 := by subst h; decide
theorem hi_237 {a : Int} (h : a = 237) : hiB a = 159 := by subst h; decide
theorem lo_240 {a : Int} (h : a = 240) : loB a = 144 := by subst h; decide
theorem hi_244 {a : Int} (h : a = 244) : hiB a = 143 := by subst h; decide

theorem dec1_n {b : List Int} (hne : 0 < (b.length : Int)) : 1 ≤ (dec1 b).2.1 ∧ (dec1 b).2.1 ≤ 4 ∧ (dec1 b).2.1 ≤ b.length := by
  generalize e : dec1 b = d
  have h : Dec b d := e ▸ dec1_dec b
  cases h with
  | one | bad0 | bad1 => refine ⟨?_, ?_, ?_⟩ <;> dsimp only <;> omega
  | two h h' c => have := cont_true c; refine ⟨?_, ?_, ?_⟩ <;> dsimp only <;> omega
  | bad2 h h' c d => have := cont_true c; refine ⟨?_, ?_, ?_⟩ <;> dsimp only <;> omega
  | three h h' c d => have := cont_true d; refine ⟨?_, ?_, ?_⟩ <;> dsimp only <;> omega
  | bad3 h h' c d => have := cont_true d; refine ⟨?_, ?_, ?_⟩ <;> dsimp only <;> omega
  | four h h' c d m => have := cont_true m; refine ⟨?_, ?_, ?_⟩ <;> dsimp only <;> omega

/-- What stands inside an item, behind its first byte. -/
theorem dec1_conts {b : List Int} {i : Int} (h1 : 1 ≤ i) (h2 : i < (dec1 b).2.1) : 128 ≤ rd b i ∧ rd b i ≤ 191 := by
  revert h2
  generalize e : dec1 b = d
  have h : Dec b d := e ▸ dec1_dec b
  have lh := lohi_bd (rd b 0)
  cases h with
  | one | bad0 | bad1 => intro h2; exact absurd h2 (by dsimp only; omega)
  | two h h' c =>
    intro h2; have := cont_true c
    obtain rfl : i = 1 := by dsimp only at h2; omega
    omega
  | bad2 h h' c d =>
    intro h2; have := cont_true c
    obtain rfl : i = 1 := by dsimp only at h2; omega
    omega
  | three h h' c d =>
    intro h2; have := cont_true c; have := cont_true d
    rcases (by dsimp only at h2; omega : i = 1 ∨ i = 2) with rfl | rfl <;> omega
  | bad3 h h' c d =>
    intro h2; have := cont_true c; have := cont_true d
    rcases (by dsimp only at h2; omega : i = 1 ∨ i = 2) with rfl | rfl <;> omega
  | four h h' c d m =>
    intro h2; have := cont_true c; have := cont_true d; have := cont_true m
    rcases (by dsimp only at h2; omega : i = 1 ∨ i = 2 ∨ i = 3) with rfl | rfl | rfl <;> omega

theorem dec1_bad {b : List Int} (h : (dec1 b).2.2 = false) : (dec1 b).1 = 65533 := by
  revert h
  generalize e : dec1 b = d
  have h : Dec b d := e ▸ dec1_dec b
  cases h <;> simp

theorem take1 {b : List Int} (h : 0 < (b.length : Int)) : b.take 1 = [rd b 0] := by
  match b, h with
  | x :: _, _ => rfl
theorem take2 {b : List Int} (h : 1 < (b.length : Int)) : b.take 2 = [rd b 0, rd b 1] := by
  match b, h with
  | [_], h => exact absurd h (by simp)
  | x :: y :: _, _ => rfl
theorem take3 {b : List Int} (h : 2 < (b.length : Int)) : b.take 3 = [rd b 0, rd b 1, rd b 2] := by
  match b, h with
  | [_], h => exact absurd h (by simp)
  | [_, _], h => exact absurd h (by simp)
  | x :: y :: z :: _, _ => rfl
theorem take4 {b : List Int} (h : 3 < (b.length : Int)) : b.take 4 = [rd b 0, rd b 1, rd b 2, rd b 3] := by
  match b, h with
  | [_], h => exact absurd h (by simp)
  | [_, _], h => exact absurd h (by simp)
  | [_, _, _], h => exact absurd h (by simp)
  | x :: y :: z :: u :: _, _ => rfl

/-- A well-formed item's code point, written, is its bytes. -/
theorem dec1_enc {b : List Int} (hb : Byt b) (hne : 0 < (b.length : Int)) (h : (dec1 b).2.2 = true) : encL (dec1 b).1 = (b.take (dec1 b).2.1.toNat, true) := by
  revert h
  have b0 := hb 0
  generalize e : dec1 b = d
  have h : Dec b d := e ▸ dec1_dec b
  cases h with
  | bad0 | bad1 | bad2 | bad3 => intro h; cases h
  | one h =>
    intro _
    unfold encL
    dsimp only
    rw [if_neg (by omega), if_pos h, show (1 : Int).toNat = 1 from rfl, take1 hne]
  | two h h' c =>
    intro _
    have c := cont_true c
    unfold encL
    dsimp only
    rw [if_neg (by omega), if_neg (by omega), if_pos (by omega), show (2 : Int).toNat = 2 from rfl, take2 (by omega)]
    rw [show (192 + (rd b 0 % 32 * 64 + rd b 1 % 64) / 64 : Int) = rd b 0 from by omega, show (128 + (rd b 0 % 32 * 64 + rd b 1 % 64) % 64 : Int) = rd b 1 from by omega]
  | three h h' c d =>
    intro _
    have c := cont_true c
    have d := cont_true d
    have lh := lohi_bd (rd b 0)
    have x1 : rd b 0 = 224 → 160 ≤ rd b 1 := fun q => by rw [lo_224 q] at c; omega
    have x2 : rd b 0 = 237 → rd b 1 ≤ 159 := fun q => by rw [hi_237 q] at c; omega
    unfold encL
    dsimp only
    rw [if_neg (by omega), if_neg (by omega), if_neg (by omega), if_pos (by omega), show (3 : Int).toNat = 3 from rfl, take3 (by omega)]
    rw [show (224 + ((rd b 0 % 16 * 64 + rd b 1 % 64) * 64 + rd b 2 % 64) / 4096 : Int) = rd b 0 from by omega, show (128 + ((rd b 0 % 16 * 64 + rd b 1 % 64) * 64 + rd b 2 % 64) / 64 % 64 : Int) = rd b 1 from by omega,
      show (128 + ((rd b 0 % 16 * 64 + rd b 1 % 64) * 64 + rd b 2 % 64) % 64 : Int) = rd b 2 from by omega]
  | four h h' c d m =>
    intro _
    have c := cont_true c
    have d := cont_true d
    have m := cont_true m
    have lh := lohi_bd (rd b 0)
    have x1 : rd b 0 = 240 → 144 ≤ rd b 1 := fun q => by rw [lo_240 q] at c; omega
    have x2 : rd b 0 = 244 → rd b 1 ≤ 143 := fun q => by rw [hi_244 q] at c; omega
    unfold encL
    dsimp only
    rw [if_neg (by omega), if_neg (by omega), if_neg (by omega), if_neg (by omega), show (4 : Int).toNat = 4 from rfl, take4 (by omega)]
    rw [show (240 + (((rd b 0 % 8 * 64 + rd b 1 % 64) * 64 + rd b 2 % 64) * 64 + rd b 3 % 64) / 262144 : Int) = rd b 0 from by omega, show (128 + (((rd b 0 % 8 * 64 + rd b 1 % 64) * 64 + rd b 2 % 64) * 64 + rd b 3 % 64) / 4096 % 64 : Int) = rd b 1 from by omega,
      show (128 + (((rd b 0 % 8 * 64 + rd b 1 % 64) * 64 + rd b 2 % 64) * 64 + rd b 3 % 64) / 64 % 64 : Int) = rd b 2 from by omega, show (128 + (((rd b 0 % 8 * 64 + rd b 1 % 64) * 64 + rd b 2 % 64) * 64 + rd b 3 % 64) % 64 : Int) = rd b 3 from by omega]

theorem dec1_has {b : List Int} (hb : Byt b) (hne : 0 < (b.length : Int)) : (encL (dec1 b).1).2 = true := by
  cases h : (dec1 b).2.2 with
  | true => rw [dec1_enc hb hne h]
  | false => rw [dec1_bad h]; decide

theorem rd_app {b c : List Int} {i : Int} (h0 : 0 ≤ i) (h : i < (b.length : Int)) : rd (b ++ c) i = rd b i := by
  unfold rd
  rw [List.getD_eq_getElem?_getD, List.getD_eq_getElem?_getD, List.getElem?_append_left (by omega)]

theorem cont_app {b c : List Int} {i lo hi : Int} (h0 : 0 ≤ i) (h : cont b i lo hi = true) : cont (b ++ c) i lo hi = true := by
  have := cont_true h
  unfold cont
  rw [rd_app h0 this.1]
  simp
  omega

/-- A well-formed item stays, whatever stands behind. -/
theorem dec1_app {b c : List Int} (hne : 0 < (b.length : Int)) (h : (dec1 b).2.2 = true) : dec1 (b ++ c) = dec1 b := by
  revert h
  generalize e : dec1 b = d
  have h : Dec b d := e ▸ dec1_dec b
  have r0 : rd (b ++ c) 0 = rd b 0 := rd_app (by decide) hne
  cases h with
  | bad0 | bad1 | bad2 | bad3 => intro h; cases h
  | one h => intro _; unfold dec1; simp only; rw [r0, if_pos h]
  | two h h' k =>
    intro _
    have c1 := cont_app (c := c) (by decide) k
    have k := cont_true k
    have t : tailN (rd b 0) = 1 := by have := tailN_cases (rd b 0); omega
    unfold dec1; simp only
    rw [r0, if_neg (by omega), if_neg (by omega), (lohi_two h').1, (lohi_two h').2, if_neg (by rw [c1]; decide), if_pos t, rd_app (by decide) (by omega)]
  | three h h' k l =>
    intro _
    have c1 := cont_app (c := c) (by decide) k
    have c2 := cont_app (c := c) (by decide) l
    have k := cont_true k
    have l := cont_true l
    have t : tailN (rd b 0) = 2 := by have := tailN_cases (rd b 0); omega
    unfold dec1; simp only
    rw [r0, if_neg (by omega), if_neg (by omega), if_neg (by rw [c1]; decide), if_neg (by omega), if_neg (by rw [c2]; decide), if_pos t, rd_app (by decide) (by omega), rd_app (by decide) (by omega)]
  | four h h' k l m =>
    intro _
    have c1 := cont_app (c := c) (by decide) k
    have c2 := cont_app (c := c) (by decide) l
    have c3 := cont_app (c := c) (by decide) m
    have k := cont_true k
    have l := cont_true l
    have m := cont_true m
    have t : tailN (rd b 0) = 3 := by have := tailN_cases (rd b 0); omega
    unfold dec1; simp only
    rw [r0, if_neg (by omega), if_neg (by omega), if_neg (by rw [c1]; decide), if_neg (by omega), if_neg (by rw [c2]; decide), if_neg (by omega), if_neg (by rw [c3]; decide), rd_app (by decide) (by omega), rd_app (by decide) (by omega), rd_app (by decide) (by omega)]

/-- A code point's bytes are read as it. -/
theorem dec1_of_enc {r : Int} (h : (encL r).2 = true) : dec1 (encL r).1 = (r, ((encL r).1.length : Int), true) := by
  unfold encL at h ⊢
  by_cases h0 : r < 0 ∨ r > 1114111 ∨ (55296 ≤ r ∧ r ≤ 57343)
  · rw [if_pos h0] at h; cases h
  rw [if_neg h0]
  by_cases h1 : r < 128
  · rw [if_pos h1]
    unfold dec1; simp only
    rw [show rd [r] 0 = r from rfl, if_pos h1]
    rfl
  rw [if_neg h1]
  by_cases h2 : r < 2048
  · rw [if_pos h2]
    unfold dec1; simp only
    have r0 : rd [192 + r / 64, 128 + r % 64] 0 = 192 + r / 64 := rfl
    have r1 : rd [192 + r / 64, 128 + r % 64] 1 = 128 + r % 64 := rfl
    have t : tailN (192 + r / 64) = 1 := by have := tailN_cases (192 + r / 64); omega
    have lh := lohi_two (a := 192 + r / 64) (by omega)
    have c : cont [192 + r / 64, 128 + r % 64] 1 128 191 = true := by unfold cont; rw [r1]; simp; omega
    rw [r0, if_neg (by omega), t, lh.1, lh.2, if_neg (by decide), if_neg (by rw [c]; decide), if_pos rfl, r1]
    simp; omega
  rw [if_neg h2]
  by_cases h3 : r < 65536
  · rw [if_pos h3]
    unfold dec1; simp only
    have r0 : rd [224 + r / 4096, 128 + r / 64 % 64, 128 + r % 64] 0 = 224 + r / 4096 := rfl
    have r1 : rd [224 + r / 4096, 128 + r / 64 % 64, 128 + r % 64] 1 = 128 + r / 64 % 64 := rfl
    have r2 : rd [224 + r / 4096, 128 + r / 64 % 64, 128 + r % 64] 2 = 128 + r % 64 := rfl
    have t : tailN (224 + r / 4096) = 2 := by have := tailN_cases (224 + r / 4096); omega
    have c1 : cont [224 + r / 4096, 128 + r / 64 % 64, 128 + r % 64] 1 (loB (224 + r / 4096)) (hiB (224 + r / 4096)) = true := by
      unfold cont loB hiB; rw [r1]; simp; omega
    have c2 : cont [224 + r / 4096, 128 + r / 64 % 64, 128 + r % 64] 2 128 191 = true := by unfold cont; rw [r2]; simp; omega
    rw [r0, if_neg (by omega), t, if_neg (by decide), if_neg (by rw [c1]; decide), if_neg (by decide), if_neg (by rw [c2]; decide), if_pos rfl, r1, r2]
    simp; omega
  rw [if_neg h3]
  unfold dec1; simp only
  have r0 : rd [240 + r / 262144, 128 + r / 4096 % 64, 128 + r / 64 % 64, 128 + r % 64] 0 = 240 + r / 262144 := rfl
  have r1 : rd [240 + r / 262144, 128 + r / 4096 % 64, 128 + r / 64 % 64, 128 + r % 64] 1 = 128 + r / 4096 % 64 := rfl
  have r2 : rd [240 + r / 262144, 128 + r / 4096 % 64, 128 + r / 64 % 64, 128 + r % 64] 2 = 128 + r / 64 % 64 := rfl
  have r3 : rd [240 + r / 262144, 128 + r / 4096 % 64, 128 + r / 64 % 64, 128 + r % 64] 3 = 128 + r % 64 := rfl
  have t : tailN (240 + r / 262144) = 3 := by have := tailN_cases (240 + r / 262144); omega
  have c1 : cont [240 + r / 262144, 128 + r / 4096 % 64, 128 + r / 64 % 64, 128 + r % 64] 1 (loB (240 + r / 262144)) (hiB (240 + r / 262144)) = true := by
    unfold cont loB hiB; rw [r1]; simp; omega
  have c2 : cont [240 + r / 262144, 128 + r / 4096 % 64, 128 + r / 64 % 64, 128 + r % 64] 2 128 191 = true := by unfold cont; rw [r2]; simp; omega
  have c3 : cont [240 + r / 262144, 128 + r / 4096 % 64, 128 + r / 64 % 64, 128 + r % 64] 3 128 191 = true := by unfold cont; rw [r3]; simp; omega
  rw [r0, if_neg (by omega), t, if_neg (by decide), if_neg (by rw [c1]; decide), if_neg (by decide), if_neg (by rw [c2]; decide), if_neg (by decide), if_neg (by rw [c3]; decide), r1, r2, r3]
  simp; omega

end Go.Proofs.Ytebboloogedceaa.Pure
