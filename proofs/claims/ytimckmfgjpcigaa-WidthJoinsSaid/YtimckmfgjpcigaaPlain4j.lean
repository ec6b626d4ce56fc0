/- Plain facts on widths (no Go, no memory): the count of nodes; the laws' plain answers. -/
import Derived.Test.YtimckmfgjpcigaaPlain3j
set_option linter.unusedVariables false
set_option linter.unusedSimpArgs false
namespace Go.Proofs.Ytimckmfgjpcigaa.Plain
open Go Go.RowKit Go.Proofs.YtimckmfgjpcigaaW.PrintWords Go.Proofs.YtimckmfgjpcigaaW.PrintLast Go.Proofs.YtimckmfgjpcigaaW.PrintMore Go.Proofs.Ytimckmfgjpcigaa.PW

theorem few_ev {x : S25} (h : Gd x) : ∀ L d : Int, 0 ≤ L → L ≤ 1000000 → -1 ≤ d → d ≤ 1000000 →
    ∃ b L', Ev (fun k => rubricatorplain_few.f k L x.f0 x.f1 x.f2 x.f3 x.f4 x.f5 x.f6 x.f7 d) (b, L') ∧ (b = true → 0 ≤ L' ∧ L' ≤ 1000000) := by
  induction h with
  | mk x hl hk ih =>
    have loop : ∀ d : Int, 0 ≤ d → d ≤ 1000000 → ∀ (n i : Nat), x.f7.length - i = n → ∀ L : Int, 0 ≤ L → L ≤ 1000000 →
        ∃ b L', Ev (fun k => rubricatorplain_few.l0 k L x.f7 d (i : Int)) (b, L') ∧ (b = true → 0 ≤ L' ∧ L' ≤ 1000000) := by
      intro d hd0 hd1 n
      induction n with
      | zero =>
        intro i hn L h1 h2
        refine ⟨true, L, Ev.succ ?_, fun _ => ⟨h1, h2⟩⟩
        simp only [rubricatorplain_few.l0]
        exact Ev.neg (by omega) (Ev.const _)
      | succ n ih2 =>
        intro i hn L h1 h2
        have hi' : i < x.f7.length := by omega
        obtain ⟨b, L1, e1, e2⟩ := ih x.f7[i] (List.getElem_mem hi') L (d - 1) h1 h2 (by omega) (by omega)
        have hw : wrap64 (d - 1) = d - 1 := w64 (by omega) (by omega)
        cases b with
        | false =>
          refine ⟨false, L1, Ev.succ ?_, fun h => by cases h⟩
          simp only [rubricatorplain_few.l0, rd_at hi', up1 hl hi', hw]
          exact Ev.pos (by omega) (Ev.pos (by omega) (Ev.bind e1 (Ev.neg (by simp) (Ev.const _))))
        | true =>
          obtain ⟨l1, l2⟩ := e2 rfl
          obtain ⟨b2, L2, e3, e4⟩ := ih2 (i + 1) (by omega) L1 l1 l2
          refine ⟨b2, L2, Ev.succ ?_, e4⟩
          simp only [rubricatorplain_few.l0, rd_at hi', up1 hl hi', hw]
          exact Ev.pos (by omega) (Ev.pos (by omega) (Ev.bind e1 (Ev.pos rfl e3)))
    intro L d h1 h2 h3 h4
    have hw : wrap64 (L - 1) = L - 1 := w64 (by omega) (by omega)
    by_cases c : L - 1 < 0
    · refine ⟨false, L - 1, Ev.succ ?_, fun h => by cases h⟩
      simp only [rubricatorplain_few.f, hw]
      exact Ev.pos c (Ev.const _)
    by_cases c2 : d < 0
    · refine ⟨false, L - 1, Ev.succ ?_, fun h => by cases h⟩
      simp only [rubricatorplain_few.f, hw]
      exact Ev.neg c (Ev.pos c2 (Ev.const _))
    obtain ⟨b, L', e1, e2⟩ := loop d (by omega) h4 _ 0 rfl (L - 1) (by omega) (by omega)
    refine ⟨b, L', Ev.succ ?_, e2⟩
    simp only [rubricatorplain_few.f, hw]
    exact Ev.neg c (Ev.neg c2 e1)

theorem deep_ev {x : S25} (h : Gd x) {n d : Int} (h1 : 0 ≤ n) (h2 : n ≤ 1000000) (h3 : -1 ≤ d) (h4 : d ≤ 1000000) :
    ∃ b, Ev (fun k => rubricatorplain_Deep.f k x.f0 x.f1 x.f2 x.f3 x.f4 x.f5 x.f6 x.f7 n d) b := by
  obtain ⟨b, L', e1, _⟩ := few_ev h n d h1 h2 h3 h4
  exact ⟨!b, Ev.bind e1 (Ev.const _)⟩

theorem Of_ev {x : S25} {p : Int × Int} (h : Ev (ofE x) p) : Ev (fun k => width_Of.f k x.f0 x.f1 x.f2 x.f3 x.f4 x.f5 x.f6 x.f7) p :=
  Ev.bind (f := fun k => ofE x k) h (Ev.const _)

theorem rep_ev {x : S25} {a b : Int} (h : Ev (ofE x) (a, b)) (ha : Np a) (hb : In b) {s t : Int} (hs : 0 ≤ s) (ht : 0 ≤ t) :
    Ev (ofE ⟨8, 0, s, t, false, (⟨#[]⟩ : ByteArray), [], [x]⟩) (PP a s, PP b t) := by
  have hm : mx t 0 = t := by unfold mx; split <;> omega
  have hm2 : mx s 0 = s := by unfold mx; split <;> omega
  refine Ev.succ ?_
  unfold ofE; simp only [width_of.f]
  have := widj_kid (x := ⟨8, 0, s, t, false, (⟨#[]⟩ : ByteArray), [], [x]⟩) (fl := true) rfl (by simp) h ha hb
  simp only [if_true, if_neg (show ¬ t = -1 by omega), hm, hm2] at this
  exact Ev.neg (by decide) (Ev.neg (by decide) (Ev.neg (by decide) (Ev.neg (by decide) (Ev.neg (by decide) (Ev.pos trivial this)))))

theorem awake_ev : Ev (fun k => rubricatorlaw18_awake.f k) true := by
  have e : Ev (ofE ⟨15, 0, 0, 0, false, (⟨#[]⟩ : ByteArray), [], []⟩) (1, 1) := by
    refine Ev.succ ?_
    unfold ofE; simp only [width_of.f]
    exact Ev.pos trivial (Ev.const _)
  have h := Of_ev (rep_ev e Np1 Np1.in (s := 2) (t := 3) (by decide) (by decide))
  rw [show PP 1 2 = 2 by decide, show PP 1 3 = 3 by decide] at h
  exact Ev.bind h (Ev.pos rfl (Ev.const _))

end Go.Proofs.Ytimckmfgjpcigaa.Plain
