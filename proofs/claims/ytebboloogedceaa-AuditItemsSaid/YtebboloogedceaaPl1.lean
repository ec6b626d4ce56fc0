/- Plain facts on bytes and the reading of one item (no Go, no memory): what utf.read computes. -/
import Derived.OpenShut
import Derived.Test.YtebboloogedceaaPA0
import Derived.Test.YtebboloogedceaaPA1
import Derived.Test.YtebboloogedceaaPA2
import Derived.Test.YtebboloogedceaaPA3
import Derived.Test.YtebboloogedceaaPA4
import Derived.Test.YtebboloogedceaaPA5
import Derived.Test.YtebboloogedceaaPA6
namespace Go.Proofs.Ytebboloogedceaa.Pure
open Go Go.RowKit Go.Proofs.Ytebboloogedceaa.PA Go.Proofs.YtebboloogedceaaW.PrintWords Go.Proofs.YtebboloogedceaaW.PrintLast Go.Proofs.YtebboloogedceaaW.PrintMore

theorem w64 {x : Int} (h0 : -9223372036854775808 ≤ x) (h1 : x ≤ 9223372036854775807) : wrap64 x = x := by
  unfold wrap64; omega

/-- All are bytes. -/
def Byt (b : List Int) : Prop := ∀ i : Int, 0 ≤ rd b i ∧ rd b i < 256

theorem byt_of {b : List Int} (h : ∀ x ∈ b, (Lit.int .u8 x).wf = true) : Byt b := by
  intro i
  unfold rd
  by_cases hi : i.toNat < b.length
  · have := bounds_u8 (h _ (List.getElem_mem hi))
    rw [List.getD_eq_getElem?_getD, List.getElem?_eq_getElem hi]
    simp only [Option.getD_some]
    omega
  · rw [List.getD_eq_getElem?_getD, List.getElem?_eq_none (by omega)]
    simp

theorem Byt.drop {b : List Int} (h : Byt b) (n : Nat) : Byt (b.drop n) := by
  intro i
  have := h ((n + i.toNat : Nat) : Int)
  unfold rd at this ⊢
  simp only [List.getD_eq_getElem?_getD, List.getElem?_drop, Int.toNat_natCast] at this ⊢
  exact this

theorem Byt.take {b : List Int} (h : Byt b) (n : Nat) : Byt (b.take n) := by
  intro i
  have := h i
  unfold rd at this ⊢
  simp only [List.getD_eq_getElem?_getD, List.getElem?_take] at this ⊢
  split
  · exact this
  · simp

def loB (a : Int) : Int := if a = 224 then 160 else if a = 240 then 144 else 128
def hiB (a : Int) : Int := if a = 237 then 159 else if a = 244 then 143 else 191
def tailN (a : Int) : Int := if a < 194 ∨ 244 < a then 0 else if a < 224 then 1 else if a < 240 then 2 else 3

/-- A byte stands at a place, within bounds. -/
def cont (b : List Int) (i lo hi : Int) : Bool := decide (i < (b.length : Int)) && (decide (lo ≤ rd b i) && decide (rd b i ≤ hi))
theorem cont_true {b : List Int} {i lo hi : Int} (h : cont b i lo hi = true) : i < (b.length : Int) ∧ lo ≤ rd b i ∧ rd b i ≤ hi := by
  simpa [cont] using h
theorem cont_false {b : List Int} {i lo hi : Int} (h : cont b i lo hi = false) : ¬ (i < (b.length : Int) ∧ lo ≤ rd b i ∧ rd b i ≤ hi) := by
  intro h'; have : cont b i lo hi = true := by simpa [cont] using h'
  rw [h] at this; cases this

/-- The item at the beginning of bytes: its code point, its bytes, whether it is well-formed. -/
def dec1 (b : List Int) : Int × Int × Bool :=
  let a := rd b 0
  if a < 128 then (a, 1, true)
  else if tailN a = 0 then (65533, 1, false)
  else if cont b 1 (loB a) (hiB a) = false then (65533, 1, false)
  else if tailN a = 1 then (a % 32 * 64 + rd b 1 % 64, 2, true)
  else if cont b 2 128 191 = false then (65533, 2, false)
  else if tailN a = 2 then ((a % 16 * 64 + rd b 1 % 64) * 64 + rd b 2 % 64, 3, true)
  else if cont b 3 128 191 = false then (65533, 3, false)
  else (((a % 8 * 64 + rd b 1 % 64) * 64 + rd b 2 % 64) * 64 + rd b 3 % 64, 4, true)

theorem and_i64 (i : Nat) (hi : i ≤ 63) {x : Int} (h0 : 0 ≤ x) (h1 : x < 256) : Go.bits .and .i64 x (2 ^ i - 1) = x % 2 ^ i :=
  bits_mask .i64 63 (by decide) (by intro n a b; rw [IntKind.wrap_i64]; omega) i hi x h0 (by omega)

theorem join6 {r c : Int} (h0 : 0 ≤ r) (h1 : r < 1048576) (h2 : 0 ≤ c) (h3 : c < 256) : Go.bits .or .i64 (wrap64 (r * 64)) (wrap64 (Go.bits .and .u8 c 63)) = r * 64 + c % 64 := by
  rw [u8_and63 _ h2 h3, w64 (by omega) (by omega), w64 (by omega) (by omega)]
  exact bits_join .i64 63 (by decide) (by intro n a b; rw [IntKind.wrap_i64]; omega) 6 (r * 64) (c % 64) (by omega) (by omega) (by omega) (by omega) (by omega) (by omega)

theorem tail_spec (k : Nat) (a : Int) : utf_tail.f (k + 2) a = some (if tailN a = 0 then (0, 0, 0) else (loB a, hiB a, tailN a)) := by
  unfold utf_tail.f tailN loB hiB
  by_cases h : a < 194
  · rw [if_pos h]; simp [utf_tail.j0, h]
  rw [if_neg h]
  by_cases h2 : a > 244
  · simp [utf_tail.j0, h2]
  have e : decide (a > 244) = false := decide_eq_false h2
  rw [e, utf_tail.j0, if_neg (by decide)]
  rw [if_neg (by omega : ¬ (a < 194 ∨ 244 < a))]
  by_cases c1 : a < 224
  · rw [if_pos c1]; simp [c1, show ¬ a = 224 by omega, show ¬ a = 240 by omega, show ¬ a = 237 by omega, show ¬ a = 244 by omega]
  rw [if_neg c1]
  have hj : ∀ (x : Int) (t : Bool), utf_tail.j1 (k + 1) 128 191 x t = if t = true then some (128, 191, 3) else if x = 244 then some (128, 143, 3) else some (128, 191, 2) := fun x t => by rw [utf_tail.j1]
  simp only [hj]
  by_cases c2 : a = 224
  · subst c2; decide
  by_cases c3 : a = 237
  · subst c3; decide
  by_cases c4 : a = 240
  · subst c4; decide
  by_cases c5 : a = 244
  · subst c5; decide
  rw [if_neg c2, if_neg c3, if_neg c4]
  by_cases c6 : a < 240
  · simp [c1, c2, c3, c4, c5, c6, show ¬ a = 241 by omega, show ¬ a = 242 by omega, show ¬ a = 243 by omega]
  · have : a = 241 ∨ a = 242 ∨ a = 243 := by omega
    rcases this with rfl | rfl | rfl <;> decide

theorem read_step (k : Nat) {b : List Int} {lo hi n r i : Int} (h0 : 0 ≤ i) :
    utf_read.l0 (k + 2) b lo hi n r i = if i ≤ n then (if cont b i lo hi = true then utf_read.l0 k b 128 191 n (Go.bits .or .i64 (wrap64 (r * 64)) (wrap64 (Go.bits .and .u8 (rd b i) 63))) (wrap64 (i + 1)) else some (65533, i, false)) else some (r, i, true) := by
  rw [utf_read.l0]
  by_cases hn : i ≤ n
  · rw [if_pos hn, if_pos hn, utf_read.j1]
    by_cases hl : i < (b.length : Int)
    · rw [if_pos (decide_eq_true hl), if_pos h0, if_pos hl]
      by_cases a1 : rd b i < lo
      · rw [if_pos a1, if_pos hn, if_neg (by intro h; have := cont_true h; omega)]
      rw [if_neg a1]
      by_cases a2 : rd b i > hi
      · rw [if_pos a2, if_pos hn, if_neg (by intro h; have := cont_true h; omega)]
      rw [if_neg a2, if_pos (by simp [cont]; omega)]
    · rw [if_neg (by simp [hl]), if_pos hn, if_neg (by intro h; have := cont_true h; omega)]
  · rw [if_neg hn, if_neg hn, utf_read.j1, if_neg (by decide), if_neg hn]

theorem tailN_cases (a : Int) : (tailN a = 0 ∧ (a < 194 ∨ 244 < a)) ∨ (tailN a = 1 ∧ 194 ≤ a ∧ a < 224) ∨ (tailN a = 2 ∧ 224 ≤ a ∧ a < 240) ∨ (tailN a = 3 ∧ 240 ≤ a ∧ a ≤ 244) := by
  unfold tailN; split
  · exact .inl ⟨rfl, by assumption⟩
  · split
    · exact .inr (.inl ⟨rfl, by omega, by omega⟩)
    · split
      · exact .inr (.inr (.inl ⟨rfl, by omega, by omega⟩))
      · exact .inr (.inr (.inr ⟨rfl, by omega, by omega⟩))

theorem read_spec (k : Nat) {b : List Int} (hb : Byt b) (hne : 0 < (b.length : Int)) : utf_read.f (k + 10) b = some (dec1 b) := by
  have b0 := hb 0
  have b1 := hb 1
  have b2 := hb 2
  have b3 := hb 3
  unfold utf_read.f dec1
  rw [if_pos hne]
  by_cases h1 : rd b 0 < 128
  · simp only [if_pos h1]; rw [w64 (by omega) (by omega)]
  simp only [if_neg h1]
  rw [tail_spec, Option.bind_some]
  rcases tailN_cases (rd b 0) with ⟨t, h⟩ | ⟨t, h⟩ | ⟨t, h⟩ | ⟨t, h⟩
  · simp [t]
  all_goals
    rw [if_neg (by omega : ¬ tailN (rd b 0) = 0), if_neg (by omega : ¬ tailN (rd b 0) = 0)]
    dsimp only
    rw [if_neg (by omega : ¬ tailN (rd b 0) = 0), if_pos (by omega : 0 ≤ tailN (rd b 0)), w64 (x := rd b 0) (by omega) (by omega), t]
  · rw [show shr .i64 63 1 = 2 ^ 5 - 1 from by decide, and_i64 5 (by decide) b0.1 b0.2, show (2 : Int) ^ 5 = 32 from rfl]
    rw [read_step _ (by decide), if_pos (by decide)]
    by_cases c1 : cont b 1 (loB (rd b 0)) (hiB (rd b 0)) = true
    · rw [if_pos c1, if_neg (by rw [c1]; decide), join6 (by omega) (by omega) b1.1 b1.2, w64 (by decide) (by decide), read_step _ (by decide), if_neg (by decide)]
      rfl
    · rw [if_neg c1, if_pos (by simpa using c1)]
  · rw [show shr .i64 63 2 = 2 ^ 4 - 1 from by decide, and_i64 4 (by decide) b0.1 b0.2, show (2 : Int) ^ 4 = 16 from rfl]
    rw [read_step _ (by decide), if_pos (by decide)]
    by_cases c1 : cont b 1 (loB (rd b 0)) (hiB (rd b 0)) = true
    · rw [if_pos c1, if_neg (by rw [c1]; decide), join6 (by omega) (by omega) b1.1 b1.2, w64 (by decide) (by decide), read_step _ (by decide), if_pos (by decide)]
      rw [show (1 : Int) + 1 = 2 from rfl, if_neg (by decide : ¬ (2 : Int) = 1)]
      by_cases c2 : cont b 2 128 191 = true
      · rw [if_pos c2, if_neg (by rw [c2]; decide), join6 (by omega) (by omega) b2.1 b2.2, w64 (by decide) (by decide), read_step _ (by decide), if_neg (by decide)]
        rfl
      · rw [if_neg c2, if_pos (by simpa using c2)]
    · rw [if_neg c1, if_pos (by simpa using c1)]
  · rw [show shr .i64 63 3 = 2 ^ 3 - 1 from by decide, and_i64 3 (by decide) b0.1 b0.2, show (2 : Int) ^ 3 = 8 from rfl]
    rw [read_step _ (by decide), if_pos (by decide)]
    by_cases c1 : cont b 1 (loB (rd b 0)) (hiB (rd b 0)) = true
    · rw [if_pos c1, if_neg (by rw [c1]; decide), join6 (by omega) (by omega) b1.1 b1.2, w64 (by decide) (by decide), read_step _ (by decide), if_pos (by decide)]
      rw [show (1 : Int) + 1 = 2 from rfl, if_neg (by decide : ¬ (3 : Int) = 1)]
      by_cases c2 : cont b 2 128 191 = true
      · rw [if_pos c2, if_neg (by rw [c2]; decide), join6 (by omega) (by omega) b2.1 b2.2, w64 (by decide) (by decide), read_step _ (by decide), if_pos (by decide)]
        rw [show (2 : Int) + 1 = 3 from rfl, if_neg (by decide : ¬ (3 : Int) = 2)]
        by_cases c3 : cont b 3 128 191 = true
        · rw [if_pos c3, if_neg (by rw [c3]; decide), join6 (by omega) (by omega) b3.1 b3.2, w64 (by decide) (by decide), read_step _ (by decide), if_neg (by decide)]
          rfl
        · rw [if_neg c3, if_pos (by simpa using c3)]
      · rw [if_neg c2, if_pos (by simpa using c2)]
    · rw [if_neg c1, if_pos (by simpa using c1)]

end Go.Proofs.Ytebboloogedceaa.Pure
