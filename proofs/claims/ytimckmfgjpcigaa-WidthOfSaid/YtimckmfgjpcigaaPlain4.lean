/- Plain facts on widths (no Go, no memory): the count of nodes; the laws' plain answers. -/
import Derived.Test.YtimckmfgjpcigaaPlain3
set_option linter.unusedVariables false
set_option linter.unusedSimpArgs false
namespace Go.Proofs.Ytimckmfgjpcigaa.Plain
open Go Go.RowKit Go.Proofs.YtimckmfgjpcigaaW.PrintWords Go.Proofs.YtimckmfgjpcigaaW.PrintLast Go.Proofs.YtimckmfgjpcigaaW.PrintMore Go.Proofs.Ytimckmfgjpcigaa.PW

theorem few_ev {x : S25} (h : Gd x) : ∀ L d : Int, 0 ≤ L → L ≤ 1000000 → -1 ≤ d → d ≤ 1000000 →
    ∃ b L', Ev (fun k => rubricatorplain_few.f k L x.f0 x.f1 x.f2 x.f3 x.f4 x.f5 x.f6 x.f7 d) (b, L') ∧ (b = true → 0 ≤ L' ∧ L' ≤ 1000000) := by
  induction h with
  | mk x hl hk ih =>
    have loop : ∀ d : Int, 0 ≤ d → d ≤ 1000000 → ∀ (n i : Nat), x.f7.length - i = n → ∀ L : Int, 0 ≤ L → L ≤ 1000000 →
        ∃ b L', Ev (fun k => rubricatorplain_few.l0 k L x.f7 d (i : Int)) (b, L') ∧ (b = true → 0 ≤ L' ∧ L' ≤ 1000000) := by
      intro d hd0 hd1 n
      induction n with
      | zero =>
        intro i hn L h1 h2
        refine ⟨true, L, Ev.succ ?_, fun _ => ⟨h1, h2⟩⟩
        simp only [rubricatorplain_few.l0]
        exact Ev.neg (by omega) (Ev.const _)
      | succ n ih2 =>
        intro i hn L h1 h2
        have hi' : i < x.f7.length := by omega
        obtain ⟨b, L1, e1, e2⟩ := ih x.f7[i] (List.getElem_mem hi') L (d - 1) h1 h2 (by omega) (by omega)
        have hw : wrap64 (d - 1) = d - 1 := w64 (by omega) (by omega)
        cases b with
        | false =>
          refine ⟨false, L1, Ev.succ ?_, fun h => by cases h⟩
          simp only [rubricatorplain_few.l0, rd_at hi', up1 hl hi', hw]
          exact Ev.pos (by omega) (Ev.pos (by omega) (Ev.bind e1 (Ev.neg (by simp) (Ev.const _))))
        | true =>
          obtain ⟨l1, l2⟩ := e2 rfl
          obtain ⟨b2, L2, e3, e4⟩ := ih2 (i + 1) (by omega) L1 l1 l2
          refine ⟨b2, L2, Ev.succ ?_, e4⟩
          simp only [rubricatorplain_few.l0, rd_at hi', up1 hl hi', hw]
          exact Ev.pos (by omega) (Ev.pos (by omega) (Ev.bind e1 (Ev.pos rfl e3)))
    intro L d h1 h2 h3 h4
    have hw : wrap64 (L - 1) = L - 1 := w64 (by omega) (by omega)
    by_cases c : L - 1 < 0
    · refine ⟨false, L - 1, Ev.succ ?_, fun h => by cases h⟩
      simp only [rubricatorplain_few.f, hw]
      exact Ev.pos c (Ev.const _)
    by_cases c2 : d < 0
    · refine ⟨false, L - 1, Ev.succ ?_, fun h => by cases h⟩
      simp only [rubricatorplain_few.f, hw]
      exact Ev.neg c (Ev.pos c2 (Ev.const _))
    obtain ⟨b, L', e1, e2⟩ := loop d (by omega) h4 _ 0 rfl (L - 1) (by omega) (by omega)
    refine ⟨b, L', Ev.succ ?_, e2⟩
    simp only [rubricatorplain_few.f, hw]
    exact Ev.neg c (Ev.neg c2 e1)

theorem deep_ev {x : S25} (h : Gd x) {n d : Int} (h1 : 0 ≤ n) (h2 : n ≤ 1000000) (h3 : -1 ≤ d) (h4 : d ≤ 1000000) :
    ∃ b, Ev (fun k => rubricatorplain_Deep.f k x.f0 x.f1 x.f2 x.f3 x.f4 x.f5 x.f6 x.f7 n d) b := by
  obtain ⟨b, L', e1, _⟩ := few_ev h n d h1 h2 h3 h4
  exact ⟨!b, Ev.bind e1 (Ev.const _)⟩

theorem Of_ev {x : S25} {p : Int × Int} (h : Ev (ofE x) p) : Ev (fun k => width_Of.f k x.f0 x.f1 x.f2 x.f3 x.f4 x.f5 x.f6 x.f7) p :=
  Ev.bind (f := fun k => ofE x k) h (Ev.const _)

theorem rep_ev {x : S25} {a b : Int} (h : Ev (ofE x) (a, b)) (ha : Np a) (hb : In b) {s t : Int} (hs : 0 ≤ s) (ht : 0 ≤ t) :
    Ev (ofE ⟨8, 0, s, t, false, (⟨#[]⟩ : ByteArray), [], [x]⟩) (PP a s, PP b t) := by
  have hm : mx t 0 = t := by unfold mx; split <;> omega
  have hm2 : mx s 0 = s := by unfold mx; split <;> omega
  refine Ev.succ ?_
  unfold ofE; simp only [width_of.f]
  have := widj_kid (x := ⟨8, 0, s, t, false, (⟨#[]⟩ : ByteArray), [], [x]⟩) (fl := true) rfl (by simp) h ha hb
  simp only [if_true, if_neg (show ¬ t = -1 by omega), hm, hm2] at this
  exact Ev.neg (by decide) (Ev.neg (by decide) (Ev.neg (by decide) (Ev.neg (by decide) (Ev.neg (by decide) (Ev.pos trivial this)))))

theorem awake_ev : Ev (fun k => rubricatorlaw18_awake.f k) true := by
  have e : Ev (ofE ⟨15, 0, 0, 0, false, (⟨#[]⟩ : ByteArray), [], []⟩) (1, 1) := by
    refine Ev.succ ?_
    unfold ofE; simp only [width_of.f]
    exact Ev.pos trivial (Ev.const _)
  have h := Of_ev (rep_ev e Np1 Np1.in (s := 2) (t := 3) (by decide) (by decide))
  rw [show PP 1 2 = 2 by decide, show PP 1 3 = 3 by decide] at h
  exact Ev.bind h (Ev.pos rfl (Ev.const _))

theorem widthOf {x : S25} (h : Gd x) : ∃ k, rubricatorlaw18_WidthOf.f k x.f0 x.f1 x.f2 x.f3 x.f4 x.f5 x.f6 x.f7 = some true := by
  obtain ⟨b, hd⟩ := deep_ev h (n := 3000) (d := 300) (by decide) (by decide) (by decide) (by decide)
  obtain ⟨lo, hi, _, _, e1, e2, _⟩ := all h
  refine Ev.get (f := fun k => rubricatorlaw18_WidthOf.f k x.f0 x.f1 x.f2 x.f3 x.f4 x.f5 x.f6 x.f7) ?_
  unfold rubricatorlaw18_WidthOf.f
  refine Ev.bind hd ?_
  cases b with
  | true => exact Ev.pos rfl (Ev.bind awake_ev (Ev.const _))
  | false => exact Ev.neg (by decide) (Ev.bind (Of_ev e1) (Ev.bind (f := fun k => refE x k) e2 (Ev.pos rfl (Ev.pos rfl (Ev.bind awake_ev (Ev.const _))))))

theorem widthOrder {x : S25} (h : Gd x) : ∃ k, rubricatorlaw18_WidthOrder.f k x.f0 x.f1 x.f2 x.f3 x.f4 x.f5 x.f6 x.f7 = some true := by
  obtain ⟨b, hd⟩ := deep_ev h (n := 3000) (d := 300) (by decide) (by decide) (by decide) (by decide)
  obtain ⟨lo, hi, h1, h2, e1, e2, f, e3, e4⟩ := all h
  refine Ev.get (f := fun k => rubricatorlaw18_WidthOrder.f k x.f0 x.f1 x.f2 x.f3 x.f4 x.f5 x.f6 x.f7) ?_
  have jt : ∀ fl, fl = true → Ev (fun k => rubricatorlaw18_WidthOrder.j0 k fl x.f0 x.f1 x.f2 x.f3 x.f4 x.f5 x.f6 x.f7) true := by
    intro fl hf
    refine Ev.succ ?_
    simp only [rubricatorlaw18_WidthOrder.j0]
    exact Ev.pos hf (Ev.bind awake_ev (Ev.const _))
  unfold rubricatorlaw18_WidthOrder.f
  refine Ev.bind hd ?_
  cases b with
  | true => exact Ev.pos rfl (jt _ rfl)
  | false =>
    refine Ev.neg (by decide) (Ev.bind (f := fun k => fineE x k) e3 ?_)
    cases f with
    | false => exact jt _ rfl
    | true =>
      refine Ev.succ ?_
      simp only [rubricatorlaw18_WidthOrder.j0]
      refine Ev.neg (by decide) (Ev.bind (Of_ev e1) (Ev.pos h1.1 ?_))
      by_cases c : hi = -1
      · exact Ev.pos c (Ev.bind awake_ev (Ev.const _))
      · refine Ev.neg c (Ev.pos ?_ (Ev.bind awake_ev (Ev.const _)))
        rcases e4 rfl with q | q
        · exact absurd q c
        · exact q

theorem times_in (a : Int) : 0 ≤ wrap64 (Int.tmod (IntKind.u64.wrap a) 101) ∧ wrap64 (Int.tmod (IntKind.u64.wrap a) 101) ≤ 100 := by
  have hu : 0 ≤ IntKind.u64.wrap a := by
    unfold IntKind.wrap
    simp [IntKind.bits, IntKind.signed]
    omega
  rw [Int.tmod_eq_emod_of_nonneg hu]
  rw [w64 (by omega) (by omega)]
  omega

theorem widthTimes (a : Int) {x : S25} (h : Gd x) (_w : (Lit.int .i64 a).wf = true) : ∃ k, rubricatorlaw18_WidthTimes.f k x.f0 x.f1 x.f2 x.f3 x.f4 x.f5 x.f6 x.f7 a = some true := by
  obtain ⟨b, hd⟩ := deep_ev h (n := 1000) (d := 300) (by decide) (by decide) (by decide) (by decide)
  obtain ⟨lo, hi, h1, h2, e1, _⟩ := all h
  refine Ev.get (f := fun k => rubricatorlaw18_WidthTimes.f k x.f0 x.f1 x.f2 x.f3 x.f4 x.f5 x.f6 x.f7 a) ?_
  obtain ⟨t0, t1⟩ := times_in a
  unfold rubricatorlaw18_WidthTimes.f
  generalize wrap64 (Int.tmod (IntKind.u64.wrap a) 101) = t at t0 t1
  refine Ev.bind hd ?_
  cases b with
  | true => exact Ev.pos rfl (Ev.bind awake_ev (Ev.const _))
  | false =>
    have r := Of_ev (rep_ev e1 h1 h2 t0 t0)
    have hx : (⟨x.f0, x.f1, x.f2, x.f3, x.f4, x.f5, x.f6, x.f7⟩ : S25) = x := by cases x; rfl
    simp only [hx]
    refine Ev.neg (by decide) (Ev.bind (Of_ev e1) (Ev.bind r ?_))
    have p1 : PP lo t = mn (wrap64 (lo * t)) 1073741824 := by
      have m1 : 0 ≤ lo * t := Int.mul_nonneg h1.1 t0
      have m2 : lo * t ≤ 1073741824 * 100 := Int.mul_le_mul h1.2 t1 t0 (by decide)
      rw [PP_known h1.1 t0, w64 (by omega) (by omega)]
      unfold mn; split <;> omega
    have jb : ∀ fl, fl = false → (hi < 0 → t = 0) → Ev (fun k => rubricatorlaw18_WidthTimes.j0 k t lo hi (PP lo t) (PP hi t) fl) true := by
      intro fl hf ht
      refine Ev.succ ?_
      simp only [rubricatorlaw18_WidthTimes.j0]
      refine Ev.neg (by simp [hf]) (Ev.pos p1 (Ev.pos ?_ (Ev.bind awake_ev (Ev.const _))))
      by_cases c : hi < 0
      · rw [ht c]
        have e : PP hi 0 = 0 := by unfold PP; simp
        rw [e, Int.mul_zero, w64 (by decide) (by decide)]; rfl
      · have em : mx hi 0 = hi := by unfold mx; split <;> omega
        have m1 : 0 ≤ hi * t := Int.mul_nonneg (by omega) t0
        have m2 : hi * t ≤ 1073741824 * 100 := Int.mul_le_mul h2.2 t1 t0 (by decide)
        rw [em, PP_known (by omega) t0, w64 (by omega) (by omega)]
        unfold mn; split <;> omega
    by_cases c : hi < 0
    · refine Ev.pos c ?_
      by_cases c2 : t > 0
      · refine Ev.succ ?_
        simp only [rubricatorlaw18_WidthTimes.j0]
        refine Ev.pos (by simp [c2]) (Ev.pos p1 (Ev.pos ?_ (Ev.bind awake_ev (Ev.const _))))
        have := h2.1
        unfold PP
        rw [if_neg (by omega), if_pos (by omega)]
      · exact jb _ (by simp [c2]) (fun _ => by omega)
    · exact Ev.neg c (jb _ rfl (fun q => absurd q c))
end Go.Proofs.Ytimckmfgjpcigaa.Plain
