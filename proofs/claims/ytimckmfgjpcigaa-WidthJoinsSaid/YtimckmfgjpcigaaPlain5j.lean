/- Plain facts on widths (no Go, no memory): two nodes in a row, or as alternatives. -/
import Derived.Test.YtimckmfgjpcigaaPlain4j
import Derived.Test.YtimckmfgjpcigaaPWJ
set_option linter.unusedVariables false
set_option linter.unusedSimpArgs false
namespace Go.Proofs.Ytimckmfgjpcigaa.Plain
open Go Go.RowKit Go.Proofs.YtimckmfgjpcigaaW.PrintWords Go.Proofs.YtimckmfgjpcigaaW.PrintLast Go.Proofs.YtimckmfgjpcigaaW.PrintMore Go.Proofs.Ytimckmfgjpcigaa.PW

theorem SS0n {a : Int} (h : Np a) : SS 0 a = a := by
  obtain ⟨h1, h2⟩ := h
  unfold SS; split <;> omega
theorem SS0 {a : Int} (h : In a) : SS 0 a = a := by
  obtain ⟨h1, h2⟩ := h
  unfold SS; split <;> omega
theorem GGs (b : Int) : GG b b = b := by unfold GG; split <;> omega
theorem rd2a (x y : S25) : rd_T25 [x, y] 0 = x := rfl
theorem rd2b (x y : S25) : rd_T25 [x, y] 1 = y := rfl
theorem u01 : wrap64 ((0 : Int) + 1) = 1 := by rw [w64 (by omega) (by omega)]; rfl
theorem u12 : wrap64 ((1 : Int) + 1) = 2 := by rw [w64 (by omega) (by omega)]; rfl
theorem len2 (x y : S25) : (([x, y] : List S25).length : Int) = 2 := rfl

theorem seq2_ev {x y : S25} {a b c d : Int} (h : Ev (ofE x) (a, b)) (ha : Np a) (hb : In b) (h2 : Ev (ofE y) (c, d)) (hc : Np c) (hd : In d) :
    Ev (ofE ⟨6, 0, 0, 0, false, (⟨#[]⟩ : ByteArray), [], [x, y]⟩) (SS a c, SS b d) := by
  refine Ev.succ ?_
  unfold ofE; simp only [width_of.f]
  refine Ev.neg (by decide) (Ev.neg (by decide) (Ev.neg (by decide) (Ev.pos trivial (Ev.bind (a := (SS a c, SS b d)) (Ev.succ ?_) (Ev.const _)))))
  simp only [width_fold_f19.f]
  refine Ev.succ ?_
  simp only [width_fold_f19.l0, len2, rd2a, u01]
  refine Ev.pos (by decide) (Ev.pos (by decide) (Ev.pos (by decide) (Ev.bind (of1_ev h Np0 Np0.in ha hb) ?_)))
  simp only [SS0n ha, SS0 hb]
  refine Ev.succ ?_
  simp only [width_fold_f19.l0, len2, rd2b, u12]
  refine Ev.pos (by decide) (Ev.pos (by decide) (Ev.pos (by decide) (Ev.bind (of1_ev h2 ha hb hc hd) (Ev.succ ?_))))
  simp only [width_fold_f19.l0]
  exact Ev.neg (by decide) (Ev.const _)

theorem alt2_ev {x y : S25} {a b c d : Int} (h : Ev (ofE x) (a, b)) (ha : Np a) (hb : In b) (h2 : Ev (ofE y) (c, d)) (hc : Np c) (hd : In d) :
    Ev (ofE ⟨7, 0, 0, 0, false, (⟨#[]⟩ : ByteArray), [], [x, y]⟩) (min a c, GG b d) := by
  refine Ev.succ ?_
  unfold ofE; simp only [width_of.f, len2, rd2a]
  refine Ev.neg (by decide) (Ev.neg (by decide) (Ev.neg (by decide) (Ev.neg (by decide) (Ev.pos trivial (Ev.neg (by decide) (Ev.pos (by decide) (Ev.bind (f := fun k => ofE x k) h (Ev.bind (a := (min a c, GG b d)) (Ev.succ ?_) (Ev.const _)))))))))
  simp only [width_fold_f21.f]
  refine Ev.succ ?_
  simp only [width_fold_f21.l0, len2, rd2a, u01]
  refine Ev.pos (by decide) (Ev.pos (by decide) (Ev.pos (by decide) (Ev.bind (of2_ev h ha hb ha hb) ?_)))
  simp only [GGs, show min a a = a by omega]
  refine Ev.succ ?_
  simp only [width_fold_f21.l0, len2, rd2b, u12]
  refine Ev.pos (by decide) (Ev.pos (by decide) (Ev.pos (by decide) (Ev.bind (of2_ev h2 ha hb hc hd) (Ev.succ ?_))))
  simp only [width_fold_f21.l0]
  exact Ev.neg (by decide) (Ev.const _)

theorem widthJoins {x y : S25} (h : Gd x) (h' : Gd y) : ∃ k, rubricatorlaw18_WidthJoins.f k x.f0 x.f1 x.f2 x.f3 x.f4 x.f5 x.f6 x.f7 y.f0 y.f1 y.f2 y.f3 y.f4 y.f5 y.f6 y.f7 = some true := by
  obtain ⟨b1, hd1⟩ := deep_ev h (n := 1000) (d := 300) (by decide) (by decide) (by decide) (by decide)
  obtain ⟨b2, hd2⟩ := deep_ev h' (n := 1000) (d := 300) (by decide) (by decide) (by decide) (by decide)
  obtain ⟨a, b, ha, hb, e1, _⟩ := all h
  obtain ⟨c, d, hc, hd, e2, _⟩ := all h'
  refine Ev.get (f := fun k => rubricatorlaw18_WidthJoins.f k x.f0 x.f1 x.f2 x.f3 x.f4 x.f5 x.f6 x.f7 y.f0 y.f1 y.f2 y.f3 y.f4 y.f5 y.f6 y.f7) ?_
  have hx : (⟨x.f0, x.f1, x.f2, x.f3, x.f4, x.f5, x.f6, x.f7⟩ : S25) = x := by cases x; rfl
  have hy : (⟨y.f0, y.f1, y.f2, y.f3, y.f4, y.f5, y.f6, y.f7⟩ : S25) = y := by cases y; rfl
  have jt : ∀ fl, fl = true → Ev (fun k => rubricatorlaw18_WidthJoins.j0 k fl x.f0 x.f1 x.f2 x.f3 x.f4 x.f5 x.f6 x.f7 y.f0 y.f1 y.f2 y.f3 y.f4 y.f5 y.f6 y.f7) true := by
    intro fl hf
    refine Ev.succ ?_
    simp only [rubricatorlaw18_WidthJoins.j0]
    exact Ev.pos hf (Ev.bind awake_ev (Ev.const _))
  obtain ⟨ha1, ha2⟩ := ha
  obtain ⟨hb1, hb2⟩ := hb
  obtain ⟨hc1, hc2⟩ := hc
  obtain ⟨hd3, hd4⟩ := hd
  have p1 : SS a c = mn (wrap64 (a + c)) 1073741824 := by
    rw [w64 (by omega) (by omega)]
    unfold SS mn
    rw [if_neg (by omega)]
    split <;> omega
  have p2 : min a c = mn a c := by unfold mn; split <;> omega
  have p3 : 0 ≤ b → 0 ≤ d → SS b d = mn (wrap64 (b + d)) 1073741824 := by
    intro q1 q2
    rw [w64 (by omega) (by omega)]
    unfold SS mn
    rw [if_neg (by omega)]
    split <;> omega
  have p4 : b < 0 ∨ d < 0 → SS b d = -1 := by
    intro q
    unfold SS
    rw [if_pos (by omega)]
  unfold rubricatorlaw18_WidthJoins.f
  refine Ev.bind hd1 ?_
  cases b1 with
  | true => exact Ev.pos rfl (jt _ rfl)
  | false =>
    refine Ev.neg (by decide) (Ev.bind hd2 ?_)
    cases b2 with
    | true => exact jt _ rfl
    | false =>
      refine Ev.succ ?_
      simp only [rubricatorlaw18_WidthJoins.j0, hx, hy]
      have r6 := Of_ev (seq2_ev e1 ⟨ha1, ha2⟩ ⟨hb1, hb2⟩ e2 ⟨hc1, hc2⟩ ⟨hd3, hd4⟩)
      have r7 := Of_ev (alt2_ev e1 ⟨ha1, ha2⟩ ⟨hb1, hb2⟩ e2 ⟨hc1, hc2⟩ ⟨hd3, hd4⟩)
      refine Ev.neg (by decide) (Ev.bind (Of_ev e1) (Ev.bind (Of_ev e2) (Ev.bind r6 (Ev.bind r7 ?_))))
      by_cases q1 : 0 ≤ b
      · refine Ev.pos q1 ?_
        by_cases q2 : 0 ≤ d
        · exact Ev.pos q2 (Ev.pos (p3 q1 q2) (Ev.neg (show ¬ b < 0 by omega) (Ev.neg (show ¬ d < 0 by omega) (Ev.pos p1 (Ev.pos p2 (Ev.bind awake_ev (Ev.const _)))))))
        · exact Ev.neg q2 (Ev.neg (show ¬ b < 0 by omega) (Ev.pos (show d < 0 by omega) (Ev.pos (p4 (by omega)) (Ev.pos p1 (Ev.pos p2 (Ev.bind awake_ev (Ev.const _)))))))
      · exact Ev.neg q1 (Ev.pos (show b < 0 by omega) (Ev.pos (p4 (by omega)) (Ev.pos p1 (Ev.pos p2 (Ev.bind awake_ev (Ev.const _))))))
end Go.Proofs.Ytimckmfgjpcigaa.Plain
