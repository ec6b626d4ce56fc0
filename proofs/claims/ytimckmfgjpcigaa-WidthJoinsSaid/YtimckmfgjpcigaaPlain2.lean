/- Plain facts on widths (no Go, no memory): a node's width, by both ways, and what a fine node's width keeps. -/
import Derived.Test.YtimckmfgjpcigaaPlain1
set_option linter.unusedVariables false
set_option linter.unusedSimpArgs false
namespace Go.Proofs.Ytimckmfgjpcigaa.Plain
open Go Go.RowKit Go.Proofs.YtimckmfgjpcigaaW.PrintWords Go.Proofs.YtimckmfgjpcigaaW.PrintLast Go.Proofs.YtimckmfgjpcigaaW.PrintMore Go.Proofs.Ytimckmfgjpcigaa.PW

def ofE (x : S25) (k : Nat) : Option (Int × Int) := width_of.f k x.f0 x.f1 x.f2 x.f3 x.f4 x.f5 x.f6 x.f7
def refE (x : S25) (k : Nat) : Option (Int × Int) := rubricatorref18_Of.f k x.f0 x.f1 x.f2 x.f3 x.f4 x.f5 x.f6 x.f7
def fineE (x : S25) (k : Nat) : Option Bool := rubricatorlaw18_fine.f k x.f0 x.f1 x.f2 x.f3 x.f4 x.f5 x.f6 x.f7
def Ordx (x : S25) : Prop := ∀ p, Ev (ofE x) p → Or2 p.1 p.2
def Q (x : S25) : Prop := ∃ lo hi, Np lo ∧ In hi ∧ Ev (ofE x) (lo, hi) ∧ Ev (refE x) (lo, hi) ∧ ∃ b, Ev (fineE x) b ∧ (b = true → Or2 lo hi)
theorem Q_ord {x : S25} (h : Q x) (hf : Ev (fineE x) true) : Ordx x := by
  obtain ⟨lo, hi, _, _, h1, _, b, h2, h3⟩ := h
  obtain rfl := Ev.inj h2 hf
  intro p hp
  obtain rfl := Ev.inj h1 hp
  exact h3 rfl

theorem rd_at {xs : List S25} {i : Nat} (h : i < xs.length) : rd_T25 xs (i : Int) = xs[i] := by
  unfold rd_T25
  simp [List.getD_eq_getElem?_getD, h]
theorem up1 {n i : Nat} (hn : n ≤ 9223372036854775807) (h : i < n) : wrap64 ((i : Int) + 1) = ((i + 1 : Nat) : Int) := by
  rw [w64 (by omega) (by omega)]; omega

theorem of1_ev {y : S25} {lo hi a b : Int} (h : Ev (ofE y) (a, b)) (h1 : Np lo) (h2 : In hi) (h3 : Np a) (h4 : In b) :
    Ev (fun k => width_of_1.f k lo hi y.f0 y.f1 y.f2 y.f3 y.f4 y.f5 y.f6 y.f7) (SS lo a, SS hi b) := by
  refine Ev.succ ?_
  simp only [width_of_1.f]
  refine Ev.bind (f := fun k => ofE y k) h ?_
  simp only [sum_eq h1.in h3.in, sum_eq h2 h4, Option.bind_some]
  exact Ev.const _
theorem of2_ev {y : S25} {lo hi a b : Int} (h : Ev (ofE y) (a, b)) (h1 : Np lo) (h2 : In hi) (h3 : Np a) (h4 : In b) :
    Ev (fun k => width_of_2.f k lo hi y.f0 y.f1 y.f2 y.f3 y.f4 y.f5 y.f6 y.f7) (min lo a, GG hi b) := by
  have e : mn lo a = min lo a := by unfold mn; split <;> omega
  have e2 : mx hi b = max hi b := by unfold mx; split <;> omega
  refine Ev.succ ?_
  simp only [width_of_2.f]
  refine Ev.bind (f := fun k => ofE y k) h ?_
  unfold GG
  by_cases c : hi = -1
  · simp only [c, if_true, true_or, e]
    exact Ev.const _
  by_cases d : b = -1
  · simp only [c, d, if_true, if_false, or_true, e]
    exact Ev.const _
  simp only [c, d, if_false, or_self, e, e2]
  exact Ev.const _

theorem seq_loop {xs : List S25} (hl : xs.length ≤ 9223372036854775807) (hq : ∀ y ∈ xs, Q y) : ∀ (n i : Nat), xs.length - i = n → ∀ lo hi, Np lo → In hi →
    ∃ lo' hi', Np lo' ∧ In hi' ∧ Ev (fun k => width_fold_f19.l0 k xs (xs.length : Int) (i : Int) lo hi) (lo', hi') ∧ Ev (fun k => rubricatorref18_Of.l0 k lo hi xs (xs.length : Int) (i : Int)) (lo', hi') ∧
      ((∀ y ∈ xs.drop i, Ordx y) → Or2 lo hi → Or2 lo' hi') := by
  intro n
  induction n with
  | zero =>
    intro i hn lo hi h1 h2
    refine ⟨lo, hi, h1, h2, Ev.succ ?_, Ev.succ ?_, fun _ h => h⟩
    · simp only [width_fold_f19.l0]
      exact Ev.neg (by omega) (Ev.const _)
    · simp only [rubricatorref18_Of.l0]
      exact Ev.neg (by omega) (Ev.const _)
  | succ n ih =>
    intro i hn lo hi h1 h2
    have hi' : i < xs.length := by omega
    obtain ⟨a, b, ha, hb, e1, e2, f, e3, e4⟩ := hq xs[i] (List.getElem_mem hi')
    obtain ⟨lo', hi2, q1, q2, q3, q4, q5⟩ := ih (i + 1) (by omega) (SS lo a) (SS hi b) (SS_np h1 ha) (SS_in h2 hb)
    refine ⟨lo', hi2, q1, q2, Ev.succ ?_, Ev.succ ?_, fun hy ho => q5 (fun y hy' => hy y ?_) ?_⟩
    · simp only [width_fold_f19.l0, rd_at hi', up1 hl hi']
      exact Ev.pos (by omega) (Ev.pos (by omega) (Ev.pos (by omega) (Ev.bind (of1_ev e1 h1 h2 ha hb) q3)))
    · simp only [rubricatorref18_Of.l0, rd_at hi', up1 hl hi']
      refine Ev.pos (by omega) (Ev.pos (by omega) (Ev.pos (by omega) (Ev.bind (f := fun k => refE xs[i] k) e2 ?_)))
      simp only [plus_eq h1.in ha.in, plus_eq h2 hb, Option.bind_some]
      exact q4
    · rw [List.drop_eq_getElem_cons hi']; exact List.mem_cons_of_mem _ hy'
    · exact Or2_SS h1 h2 ha hb ho (hy xs[i] (by rw [List.drop_eq_getElem_cons hi']; exact List.mem_cons_self ..) _ e1)

theorem alt_loop {xs : List S25} (hl : xs.length ≤ 9223372036854775807) (hq : ∀ y ∈ xs, Q y) : ∀ (n i : Nat), xs.length - i = n → 1 ≤ i → ∀ lo hi, Np lo → In hi →
    ∃ lo' hi', Np lo' ∧ In hi' ∧ Ev (fun k => width_fold_f21.l0 k xs (xs.length : Int) (i : Int) lo hi) (lo', hi') ∧ Ev (fun k => rubricatorref18_Of.l1 k lo hi xs (xs.length : Int) (i : Int)) (lo', hi') ∧
      ((∀ y ∈ xs.drop i, Ordx y) → Or2 lo hi → Or2 lo' hi') := by
  intro n
  induction n with
  | zero =>
    intro i hn _ lo hi h1 h2
    refine ⟨lo, hi, h1, h2, Ev.succ ?_, Ev.succ ?_, fun _ h => h⟩
    · simp only [width_fold_f21.l0]
      exact Ev.neg (by omega) (Ev.const _)
    · simp only [rubricatorref18_Of.l1]
      exact Ev.neg (by omega) (Ev.const _)
  | succ n ih =>
    intro i hn h0 lo hi h1 h2
    have hi' : i < xs.length := by omega
    obtain ⟨a, b, ha, hb, e1, e2, f, e3, e4⟩ := hq xs[i] (List.getElem_mem hi')
    have hm : Np (min lo a) := ⟨by have := h1.1; have := ha.1; omega, by have := h1.2; omega⟩
    have em : mn lo a = min lo a := by unfold mn; split <;> omega
    obtain ⟨lo', hi2, q1, q2, q3, q4, q5⟩ := ih (i + 1) (by omega) (by omega) (min lo a) (GG hi b) hm (GG_in h2 hb)
    refine ⟨lo', hi2, q1, q2, Ev.succ ?_, Ev.succ ?_, fun hy ho => q5 (fun y hy' => hy y ?_) ?_⟩
    · simp only [width_fold_f21.l0, rd_at hi', up1 hl hi']
      exact Ev.pos (by omega) (Ev.pos (by omega) (Ev.pos (by omega) (Ev.bind (of2_ev e1 h1 h2 ha hb) q3)))
    · simp only [rubricatorref18_Of.l1, rd_at hi', up1 hl hi']
      refine Ev.pos (by omega) (Ev.pos (by omega) (Ev.pos (by omega) (Ev.bind (f := fun k => refE xs[i] k) e2 (Ev.neg (by omega) ?_))))
      simp only [greater_eq h2 hb, Option.bind_some, em]
      exact q4
    · rw [List.drop_eq_getElem_cons hi']; exact List.mem_cons_of_mem _ hy'
    · exact Or2_GG h1 h2 ha hb ho (hy xs[i] (by rw [List.drop_eq_getElem_cons hi']; exact List.mem_cons_self ..) _ e1)

theorem fine_loop {xs : List S25} (hl : xs.length ≤ 9223372036854775807) (hq : ∀ y ∈ xs, Q y) : ∀ (n i : Nat), xs.length - i = n →
    ∃ b, Ev (fun k => rubricatorlaw18_fine.l0 k xs (xs.length : Int) (i : Int)) b ∧ (b = true → ∀ y ∈ xs.drop i, Ordx y) := by
  intro n
  induction n with
  | zero =>
    intro i hn
    refine ⟨true, Ev.succ ?_, fun _ y hy => ?_⟩
    · simp only [rubricatorlaw18_fine.l0]
      exact Ev.neg (by omega) (Ev.const _)
    · rw [List.drop_eq_nil_of_le (by omega)] at hy; cases hy
  | succ n ih =>
    intro i hn
    have hi' : i < xs.length := by omega
    have hqi := hq xs[i] (List.getElem_mem hi')
    obtain ⟨_, _, _, _, _, _, f, e3, _⟩ := hqi
    cases f with
    | false =>
      refine ⟨false, Ev.succ ?_, fun h => by cases h⟩
      simp only [rubricatorlaw18_fine.l0, rd_at hi', up1 hl hi']
      refine Ev.pos (by omega) (Ev.pos (by omega) (Ev.pos (by omega) (Ev.bind (f := fun k => fineE xs[i] k) e3 ?_)))
      exact Ev.neg (by decide) (Ev.const _)
    | true =>
      obtain ⟨b, q1, q2⟩ := ih (i + 1) (by omega)
      refine ⟨b, Ev.succ ?_, fun h y hy => ?_⟩
      · simp only [rubricatorlaw18_fine.l0, rd_at hi', up1 hl hi']
        refine Ev.pos (by omega) (Ev.pos (by omega) (Ev.pos (by omega) (Ev.bind (f := fun k => fineE xs[i] k) e3 ?_)))
        exact Ev.pos rfl q1
      · rw [List.drop_eq_getElem_cons hi'] at hy
        rcases List.mem_cons.mp hy with rfl | hy
        · exact Q_ord (hq _ (List.getElem_mem hi')) e3
        · exact q2 h y hy

/-- Whether a node is fine: told, and what it tells. -/
theorem fine_ev {x : S25} (hl : x.f7.length ≤ 9223372036854775807) (hq : ∀ y ∈ x.f7, Q y) :
    ∃ b, Ev (fineE x) b ∧ (b = true → (∀ y ∈ x.f7, Ordx y) ∧ (x.f0 = 8 → x.f3 = -1 ∨ mx x.f2 0 ≤ mx x.f3 0)) := by
  obtain ⟨b, q1, q2⟩ := fine_loop hl hq _ 0 rfl
  rw [List.drop_zero] at q2
  have hj : ∀ fl, fl = false → Ev (fun k => rubricatorlaw18_fine.j0 k fl x.f0 x.f1 x.f2 x.f3 x.f4 x.f5 x.f6 x.f7) b := by
    intro fl hf
    refine Ev.succ ?_
    simp only [rubricatorlaw18_fine.j0]
    exact Ev.neg (by simp [hf]) q1
  by_cases h8 : x.f0 = 8
  · by_cases h3 : x.f3 = -1
    · refine ⟨b, Ev.succ ?_, fun h => ⟨q2 h, fun _ => .inl h3⟩⟩
      unfold fineE
      simp only [rubricatorlaw18_fine.f]
      exact Ev.pos h8 (Ev.pos h3 (hj _ rfl))
    · by_cases hm : mx x.f2 0 > mx x.f3 0
      · refine ⟨false, Ev.succ ?_, fun h => by cases h⟩
        unfold fineE
        simp only [rubricatorlaw18_fine.f]
        refine Ev.pos h8 (Ev.neg h3 (Ev.succ ?_))
        simp only [rubricatorlaw18_fine.j0]
        exact Ev.pos (by simp [hm]) (Ev.const _)
      · refine ⟨b, Ev.succ ?_, fun h => ⟨q2 h, fun _ => .inr (by omega)⟩⟩
        unfold fineE
        simp only [rubricatorlaw18_fine.f]
        exact Ev.pos h8 (Ev.neg h3 (hj _ (by simp [hm])))
  · refine ⟨b, Ev.succ ?_, fun h => ⟨q2 h, fun h' => absurd h' h8⟩⟩
    unfold fineE
    simp only [rubricatorlaw18_fine.f]
    exact Ev.neg h8 (hj _ rfl)
end Go.Proofs.Ytimckmfgjpcigaa.Plain
