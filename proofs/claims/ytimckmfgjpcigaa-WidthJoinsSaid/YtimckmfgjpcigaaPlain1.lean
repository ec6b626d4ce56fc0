/- Plain facts on widths (no Go, no memory): rounds enough, products, sums, the loops over the kids. -/
import Derived.Test.YtimckmfgjpcigaaPW3
import Derived.Test.YtimckmfgjpcigaaPW4
import Derived.Test.YtimckmfgjpcigaaPW5
set_option linter.unusedVariables false
set_option linter.unusedSimpArgs false
namespace Go.Proofs.Ytimckmfgjpcigaa.Plain
open Go Go.RowKit Go.Proofs.YtimckmfgjpcigaaW.PrintWords Go.Proofs.YtimckmfgjpcigaaW.PrintLast Go.Proofs.YtimckmfgjpcigaaW.PrintMore Go.Proofs.Ytimckmfgjpcigaa.PW

/-- From some number of rounds on, the answer is r. -/
def Ev {α : Type} (f : Nat → Option α) (r : α) : Prop := ∃ K, ∀ k, K ≤ k → f k = some r

theorem Ev.const {α : Type} (r : α) : Ev (fun _ => some r) r := ⟨0, fun _ _ => rfl⟩
theorem Ev.bind {α β : Type} {f : Nat → Option α} {g : Nat → α → Option β} {a : α} {r : β} (h : Ev f a) (h2 : Ev (fun k => g k a) r) : Ev (fun k => (f k).bind (g k)) r := by
  obtain ⟨K, hK⟩ := h
  obtain ⟨L, hL⟩ := h2
  refine ⟨max K L, fun k hk => ?_⟩
  have h1 := hK k (by omega)
  have h3 := hL k (by omega)
  show (f k).bind (g k) = some r
  rw [h1]; exact h3
theorem Ev.succ {α : Type} {f : Nat → Option α} {r : α} (h : Ev (fun k => f (k + 1)) r) : Ev f r := by
  obtain ⟨K, hK⟩ := h
  refine ⟨K + 1, fun k hk => ?_⟩
  obtain ⟨m, rfl⟩ : ∃ m, k = m + 1 := ⟨k - 1, by omega⟩
  exact hK m (by omega)
theorem Ev.inj {α : Type} {f : Nat → Option α} {r s : α} (h : Ev f r) (h2 : Ev f s) : r = s := by
  obtain ⟨K, hK⟩ := h
  obtain ⟨L, hL⟩ := h2
  have a := hK (max K L) (by omega)
  have b := hL (max K L) (by omega)
  rw [a] at b
  exact Option.some.inj b
theorem Ev.get {α : Type} {f : Nat → Option α} {r : α} (h : Ev f r) : ∃ k, f k = some r := ⟨_, h.choose_spec _ (Nat.le_refl _)⟩
theorem Ev.pos {α : Type} {c : Prop} [Decidable c] {f g : Nat → Option α} {r : α} (hc : c) (h : Ev f r) : Ev (fun k => if c then f k else g k) r := by
  simpa only [if_pos hc] using h
theorem Ev.neg {α : Type} {c : Prop} [Decidable c] {f g : Nat → Option α} {r : α} (hc : ¬c) (h : Ev g r) : Ev (fun k => if c then f k else g k) r := by
  simpa only [if_neg hc] using h

/-- No list, at any depth, is longer than a slice can be. -/
inductive Gd : S25 → Prop
  | mk (x : S25) (h : x.f7.length ≤ 9223372036854775807) (hk : ∀ y ∈ x.f7, Gd y) : Gd x
theorem Gd.len {x : S25} (h : Gd x) : x.f7.length ≤ 9223372036854775807 := by cases h; assumption
theorem Gd.kids {x : S25} (h : Gd x) : ∀ y ∈ x.f7, Gd y := by cases h; assumption

theorem w64 {n : Int} (h0 : -9223372036854775808 ≤ n) (h1 : n ≤ 9223372036854775807) : wrap64 n = n := by unfold wrap64; omega

def PP (a b : Int) : Int := if a = 0 ∨ b = 0 then 0 else if a = -1 ∨ b = -1 then -1 else if a > 1073741824 / b then 1073741824 else a * b
def SS (a b : Int) : Int := if a = -1 ∨ b = -1 then -1 else min (a + b) 1073741824
def GG (a b : Int) : Int := if a = -1 ∨ b = -1 then -1 else max a b
def In (a : Int) : Prop := -1 ≤ a ∧ a ≤ 1073741824
def Np (a : Int) : Prop := 0 ≤ a ∧ a ≤ 1073741824
theorem Np.in {a : Int} (h : Np a) : In a := ⟨by have := h.1; omega, h.2⟩

theorem div_fits {a b : Int} (hb : 0 < b) : 0 ≤ 1073741824 / b ∧ 1073741824 / b ≤ 1073741824 :=
  ⟨Int.ediv_nonneg (by omega) (by omega), Int.ediv_le_self _ (by omega)⟩
theorem mul_fits {a b : Int} (ha : 0 ≤ a) (hb : 0 < b) (h : ¬ a > 1073741824 / b) : 0 ≤ a * b ∧ a * b ≤ 1073741824 :=
  ⟨Int.mul_nonneg ha (by omega), Int.mul_le_of_le_ediv hb (by omega)⟩

theorem product_ev {a b : Int} (ha : In a) (hb : -1 ≤ b) : Ev (fun k => width_product.f k a b) (PP a b) := by
  refine ⟨2, fun k hk => ?_⟩
  obtain ⟨m, rfl⟩ : ∃ m, k = m + 2 := ⟨k - 2, by omega⟩
  obtain ⟨h1, h2⟩ := ha
  unfold width_product.f PP
  simp only [width_product.j0, width_product.j1]
  by_cases a0 : a = 0
  · simp [a0]
  by_cases b0 : b = 0
  · simp [a0, b0]
  by_cases a1 : a = -1
  · subst a1; simp [a0, b0]
  by_cases b1 : b = -1
  · subst b1; simp [a0, b0, a1]
  have d := div_fits (a := a) (b := b) (by omega)
  rw [w64 (n := 1073741824 / b) (by omega) (by omega)]
  by_cases c : a > 1073741824 / b
  · simp [a0, b0, a1, b1, c]
  have q := mul_fits (a := a) (b := b) (by omega) (by omega) c
  rw [w64 (n := a * b) (by omega) (by omega)]
  simp [a0, b0, a1, b1, c]

theorem times_ev {a b : Int} (ha : In a) (hb : -1 ≤ b) : Ev (fun k => rubricatorref18_times.f k a b) (PP a b) := by
  refine ⟨2, fun k hk => ?_⟩
  obtain ⟨m, rfl⟩ : ∃ m, k = m + 2 := ⟨k - 2, by omega⟩
  obtain ⟨h1, h2⟩ := ha
  unfold rubricatorref18_times.f PP
  simp only [rubricatorref18_times.j0, rubricatorref18_times.j1]
  by_cases a0 : a = 0
  · simp [a0]
  by_cases b0 : b = 0
  · simp [a0, b0]
  by_cases a1 : a = -1
  · subst a1; simp [a0, b0]
  by_cases b1 : b = -1
  · subst b1; simp [a0, b0, a1]
  have d := div_fits (a := a) (b := b) (by omega)
  rw [w64 (n := 1073741824 / b) (by omega) (by omega)]
  have a2 : ¬ a < 0 := by omega
  have b2 : ¬ b < 0 := by omega
  by_cases c : a > 1073741824 / b
  · simp [a0, b0, a1, b1, c, a2, b2]
  have q := mul_fits (a := a) (b := b) (by omega) (by omega) c
  rw [w64 (n := a * b) (by omega) (by omega)]
  simp [a0, b0, a1, b1, c, a2, b2]

theorem sum_eq {a b : Int} (ha : In a) (hb : In b) : width_sum.f a b = some (SS a b) := by
  obtain ⟨h1, h2⟩ := ha
  obtain ⟨h3, h4⟩ := hb
  unfold width_sum.f SS mn
  rw [w64 (n := a + b) (by omega) (by omega)]
  by_cases a1 : a = -1
  · simp [a1]
  by_cases b1 : b = -1
  · simp [a1, b1]
  simp only [a1, b1, if_false, or_self]
  congr 1
  split <;> omega
theorem plus_eq {a b : Int} (ha : In a) (hb : In b) : rubricatorref18_plus.f a b = some (SS a b) := by
  obtain ⟨h1, h2⟩ := ha
  obtain ⟨h3, h4⟩ := hb
  unfold rubricatorref18_plus.f SS mn
  rw [w64 (n := a + b) (by omega) (by omega)]
  by_cases a1 : a = -1
  · simp [a1]
  by_cases b1 : b = -1
  · simp [a1, b1]
  have a2 : ¬ a < 0 := by omega
  have b2 : ¬ b < 0 := by omega
  simp only [a1, b1, a2, b2, if_false, or_self]
  congr 1
  split <;> omega
theorem greater_eq {a b : Int} (ha : In a) (hb : In b) : rubricatorref18_greater.f a b = some (GG a b) := by
  obtain ⟨h1, h2⟩ := ha
  obtain ⟨h3, h4⟩ := hb
  unfold rubricatorref18_greater.f GG mx
  by_cases a1 : a = -1
  · simp [a1]
  by_cases b1 : b = -1
  · simp [a1, b1]
  have a2 : ¬ a < 0 := by omega
  have b2 : ¬ b < 0 := by omega
  simp only [a1, b1, a2, b2, if_false, or_self]
  congr 1
  split <;> omega

theorem PP_in {a b : Int} (ha : In a) (hb : -1 ≤ b) : In (PP a b) := by
  obtain ⟨h1, h2⟩ := ha
  unfold PP In
  by_cases a0 : a = 0 ∨ b = 0
  · rw [if_pos a0]; omega
  rw [if_neg a0]
  by_cases a1 : a = -1 ∨ b = -1
  · rw [if_pos a1]; omega
  rw [if_neg a1]
  by_cases c : a > 1073741824 / b
  · rw [if_pos c]; omega
  rw [if_neg c]
  have q := mul_fits (a := a) (b := b) (by omega) (by omega) c
  omega
/-- A product of what is known. -/
theorem PP_known {a b : Int} (ha : 0 ≤ a) (hb : 0 ≤ b) : PP a b = min (a * b) 1073741824 := by
  unfold PP
  by_cases a0 : a = 0 ∨ b = 0
  · rw [if_pos a0]
    rcases a0 with e | e <;> subst e <;> simp <;> omega
  rw [if_neg a0, if_neg (by omega)]
  by_cases c : a > 1073741824 / b
  · rw [if_pos c]
    have := (Int.ediv_lt_iff_lt_mul (show 0 < b by omega)).mp c
    omega
  rw [if_neg c]
  have q := mul_fits (a := a) (b := b) (by omega) (by omega) c
  omega
theorem PP_np {a b : Int} (ha : Np a) (hb : 0 ≤ b) : Np (PP a b) := by
  have h := PP_in (b := b) ha.in (by omega)
  refine ⟨?_, h.2⟩
  rw [PP_known ha.1 hb]
  have := Int.mul_nonneg ha.1 hb
  omega
theorem SS_in {a b : Int} (ha : In a) (hb : In b) : In (SS a b) := by
  obtain ⟨h1, h2⟩ := ha
  obtain ⟨h3, h4⟩ := hb
  unfold SS In; split <;> omega
theorem SS_np {a b : Int} (ha : Np a) (hb : Np b) : Np (SS a b) := by
  obtain ⟨h1, h2⟩ := ha
  obtain ⟨h3, h4⟩ := hb
  unfold SS Np; split <;> omega
theorem GG_in {a b : Int} (ha : In a) (hb : In b) : In (GG a b) := by
  obtain ⟨h1, h2⟩ := ha
  obtain ⟨h3, h4⟩ := hb
  unfold GG In; split <;> omega
/-- The least is not above the greatest. -/
def Or2 (a b : Int) : Prop := b = -1 ∨ a ≤ b
theorem Or2_SS {a b c d : Int} (ha : Np a) (hb : In b) (hc : Np c) (hd : In d) (h : Or2 a b) (h2 : Or2 c d) : Or2 (SS a c) (SS b d) := by
  obtain ⟨h1, h2⟩ := ha; obtain ⟨h3, h4⟩ := hb; obtain ⟨h5, h6⟩ := hc; obtain ⟨h7, h8⟩ := hd
  have e1 : SS a c = min (a + c) 1073741824 := by unfold SS; rw [if_neg (by omega)]
  unfold Or2 at *
  rw [e1]
  by_cases q : b = -1 ∨ d = -1
  · left; unfold SS; rw [if_pos q]
  · have e2 : SS b d = min (b + d) 1073741824 := by unfold SS; rw [if_neg q]
    rw [e2]; right; omega
theorem Or2_GG {a b c d : Int} (ha : Np a) (hb : In b) (hc : Np c) (hd : In d) (h : Or2 a b) (h2 : Or2 c d) : Or2 (min a c) (GG b d) := by
  obtain ⟨h1, h2⟩ := ha; obtain ⟨h3, h4⟩ := hb; obtain ⟨h5, h6⟩ := hc; obtain ⟨h7, h8⟩ := hd
  unfold Or2 GG at *
  by_cases q : b = -1 ∨ d = -1
  · rw [if_pos q]; exact .inl rfl
  · rw [if_neg q]; right; omega
theorem Or2_PP {a b c d : Int} (ha : Np a) (hb : In b) (hc : 0 ≤ c) (hd : -1 ≤ d) (h : Or2 a b) (h2 : d = -1 ∨ c ≤ d) : Or2 (PP a c) (PP b d) := by
  obtain ⟨h1, h2'⟩ := ha; obtain ⟨h3, h4⟩ := hb
  unfold Or2 at *
  by_cases z : b = 0 ∨ d = 0
  · right
    have e : PP b d = 0 := by unfold PP; rw [if_pos z]
    rw [e, PP_known h1 hc]
    rcases z with z | z
    · have : a = 0 := by omega
      subst this; simp; omega
    · have : c = 0 := by omega
      subst this; simp; omega
  by_cases q : b = -1 ∨ d = -1
  · left; unfold PP; rw [if_neg z, if_pos q]
  right
  rw [PP_known h1 hc, PP_known (a := b) (by omega) (by omega)]
  have := Int.mul_le_mul (a := a) (b := c) (c := b) (d := d) (by omega) (by omega) hc (by omega)
  omega
end Go.Proofs.Ytimckmfgjpcigaa.Plain
