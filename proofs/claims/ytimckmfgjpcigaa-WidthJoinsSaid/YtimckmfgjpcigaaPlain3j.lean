/- Plain facts on widths (no Go, no memory): every node's width; the count of nodes; the laws' plain answers. -/
import Derived.Test.YtimckmfgjpcigaaPlain2
set_option linter.unusedVariables false
set_option linter.unusedSimpArgs false
namespace Go.Proofs.Ytimckmfgjpcigaa.Plain
open Go Go.RowKit Go.Proofs.YtimckmfgjpcigaaW.PrintWords Go.Proofs.YtimckmfgjpcigaaW.PrintLast Go.Proofs.YtimckmfgjpcigaaW.PrintMore Go.Proofs.Ytimckmfgjpcigaa.PW

theorem mx0 (a : Int) : 0 ≤ mx a 0 := by unfold mx; split <;> omega
theorem PP_zero (b : Int) : PP 0 b = 0 := by unfold PP; simp
theorem Np0 : Np 0 := ⟨by decide, by decide⟩
theorem Np1 : Np 1 := ⟨by decide, by decide⟩
theorem Inm : In (-1) := ⟨by decide, by decide⟩

theorem widj_false {x : S25} {fl : Bool} (h : fl = false) : Ev (fun k => width_of.j0 k fl x.f0 x.f1 x.f2 x.f3 x.f4 x.f5 x.f6 x.f7) (0, 0) := by
  refine Ev.succ ?_
  simp only [width_of.j0]
  exact Ev.neg (by simp [h]) (Ev.const _)
theorem widj_nil {x : S25} {fl : Bool} (h : fl = true) (hn : x.f7 = []) : Ev (fun k => width_of.j0 k fl x.f0 x.f1 x.f2 x.f3 x.f4 x.f5 x.f6 x.f7) (0, 0) := by
  refine Ev.succ ?_
  simp only [width_of.j0]
  exact Ev.pos h (Ev.pos (by rw [hn]; rfl) (Ev.const _))
theorem widj_kid {x : S25} {fl : Bool} (h : fl = true) (hn : 0 < x.f7.length) {a b : Int} (he : Ev (ofE x.f7[0]) (a, b)) (ha : Np a) (hb : In b) :
    Ev (fun k => width_of.j0 k fl x.f0 x.f1 x.f2 x.f3 x.f4 x.f5 x.f6 x.f7) (if x.f0 = 8 then (PP a (mx x.f2 0), PP b (if x.f3 = -1 then -1 else mx x.f3 0)) else (a, b)) := by
  refine Ev.succ ?_
  have hr : rd_T25 x.f7 0 = x.f7[0] := rd_at (i := 0) hn
  simp only [width_of.j0, hr]
  refine Ev.pos h (Ev.neg (by omega) (Ev.pos (by omega) (Ev.bind (f := fun k => ofE x.f7[0] k) he ?_)))
  by_cases h8 : x.f0 = 8
  · rw [if_pos h8]
    refine Ev.pos h8 ?_
    by_cases h3 : x.f3 = -1
    · rw [if_pos h3]
      refine Ev.pos h3 (Ev.bind (product_ev ha.in (by have := mx0 x.f2; omega)) (Ev.bind (product_ev hb (by omega)) ?_))
      rw [h3]
      exact Ev.const _
    · rw [if_neg h3]
      exact Ev.neg h3 (Ev.bind (product_ev ha.in (by have := mx0 x.f2; omega)) (Ev.bind (product_ev hb (by have := mx0 x.f3; omega)) (Ev.const _)))
  · rw [if_neg h8]
    exact Ev.neg h8 (Ev.const _)

theorem kid_nil {x : S25} (hn : x.f7 = []) : Ev (fun k => rubricatorref18_kid.f k x.f0 x.f1 x.f2 x.f3 x.f4 x.f5 x.f6 x.f7) (0, 0) := by
  refine Ev.succ ?_
  simp only [rubricatorref18_kid.f]
  exact Ev.pos (by rw [hn]; rfl) (Ev.const _)
theorem kid_kid {x : S25} (hn : 0 < x.f7.length) {a b : Int} (he : Ev (refE x.f7[0]) (a, b)) : Ev (fun k => rubricatorref18_kid.f k x.f0 x.f1 x.f2 x.f3 x.f4 x.f5 x.f6 x.f7) (a, b) := by
  refine Ev.succ ?_
  have hr : rd_T25 x.f7 0 = x.f7[0] := rd_at (i := 0) hn
  simp only [rubricatorref18_kid.f, hr]
  exact Ev.neg (by omega) (Ev.pos (by omega) (Ev.bind (f := fun k => refE x.f7[0] k) he (Ev.const _)))

/-- From a kid's width to a node that takes up its one kid. -/
theorem refj_kid {x : S25} {fl : Bool} {a b : Int} (ha : Np a) (hb : In b) (he : Ev (fun k => rubricatorref18_kid.f k x.f0 x.f1 x.f2 x.f3 x.f4 x.f5 x.f6 x.f7) (a, b)) (h : fl = true ∨ fl = false ∧ x.f0 = 8) (h8 : fl = true → x.f0 ≠ 8) :
    Ev (fun k => rubricatorref18_Of.j0 k 0 0 x.f0 fl x.f0 x.f1 x.f2 x.f3 x.f4 x.f5 x.f6 x.f7) (if x.f0 = 8 then (PP a (mx x.f2 0), PP b (if x.f3 = -1 then -1 else mx x.f3 0)) else (a, b)) := by
  refine Ev.succ ?_
  simp only [rubricatorref18_Of.j0]
  rcases h with h | ⟨h, h8'⟩
  · rw [if_neg (h8 h)]
    exact Ev.pos h (Ev.bind he (Ev.const _))
  · rw [if_pos h8']
    refine Ev.neg (by simp [h]) (Ev.pos h8' (Ev.bind he ?_))
    by_cases h3 : x.f3 = -1
    · rw [if_pos h3]
      exact Ev.pos h3 (Ev.bind (times_ev ha.in (by have := mx0 x.f2; omega)) (Ev.bind (times_ev hb (by omega)) (Ev.const _)))
    · rw [if_neg h3]
      exact Ev.neg h3 (Ev.bind (times_ev ha.in (by have := mx0 x.f2; omega)) (Ev.bind (times_ev hb (by have := mx0 x.f3; omega)) (Ev.const _)))

theorem node {x : S25} (hl : x.f7.length ≤ 9223372036854775807) (hq : ∀ y ∈ x.f7, Q y) : Q x := by
  obtain ⟨b, f1, f2⟩ := fine_ev hl hq
  by_cases h15 : x.f0 = 15
  · refine ⟨1, 1, Np1, Np1.in, Ev.succ ?_, Ev.succ ?_, b, f1, fun _ => .inr (by decide)⟩
    · unfold ofE; simp only [width_of.f]; exact Ev.pos h15 (Ev.const _)
    · unfold refE; simp only [rubricatorref18_Of.f]; exact Ev.pos h15 (Ev.const _)
  by_cases h13 : x.f0 = 13
  · refine ⟨0, -1, Np0, Inm, Ev.succ ?_, Ev.succ ?_, b, f1, fun _ => .inl rfl⟩
    · unfold ofE; simp only [width_of.f]; exact Ev.neg h15 (Ev.pos h13 (Ev.const _))
    · unfold refE; simp only [rubricatorref18_Of.f]; exact Ev.neg h15 (Ev.pos h13 (Ev.const _))
  by_cases h14 : x.f0 = 14
  · refine ⟨1, -1, Np1, Inm, Ev.succ ?_, Ev.succ ?_, b, f1, fun _ => .inl rfl⟩
    · unfold ofE; simp only [width_of.f]; exact Ev.neg h15 (Ev.neg h13 (Ev.pos h14 (Ev.const _)))
    · unfold refE; simp only [rubricatorref18_Of.f]; exact Ev.neg h15 (Ev.neg h13 (Ev.pos h14 (Ev.const _)))
  have hR : ∀ {r : Int × Int}, Ev (fun k => rubricatorref18_Of.j0 k 0 0 x.f0 (x.f0 == 9) x.f0 x.f1 x.f2 x.f3 x.f4 x.f5 x.f6 x.f7) r → x.f0 = 9 → Ev (refE x) r := by
    intro r h h9
    refine Ev.succ ?_
    unfold refE; simp only [rubricatorref18_Of.f]
    exact Ev.neg h15 (Ev.neg h13 (Ev.neg h14 (Ev.pos h9 h)))
  have hR' : ∀ {r : Int × Int}, Ev (fun k => rubricatorref18_Of.j0 k 0 0 x.f0 (x.f0 == 11) x.f0 x.f1 x.f2 x.f3 x.f4 x.f5 x.f6 x.f7) r → x.f0 ≠ 9 → Ev (refE x) r := by
    intro r h h9
    refine Ev.succ ?_
    unfold refE; simp only [rubricatorref18_Of.f]
    exact Ev.neg h15 (Ev.neg h13 (Ev.neg h14 (Ev.neg h9 h)))
  by_cases h6 : x.f0 = 6
  · obtain ⟨lo', hi', q1, q2, q3, q4, q5⟩ := seq_loop hl hq _ 0 rfl 0 0 Np0 Np0.in
    rw [List.drop_zero] at q5
    refine ⟨lo', hi', q1, q2, Ev.succ ?_, hR' ?_ (by omega), b, f1, fun hb => q5 (f2 hb).1 (.inr (by decide))⟩
    · unfold ofE; simp only [width_of.f]
      refine Ev.neg h15 (Ev.neg h13 (Ev.neg h14 (Ev.pos h6 (Ev.bind (a := (lo', hi')) (Ev.succ ?_) (Ev.const _)))))
      simp only [width_fold_f19.f]; exact q3
    · refine Ev.succ ?_
      simp only [rubricatorref18_Of.j0]
      exact Ev.neg (by simp [h6]) (Ev.neg (by omega) (Ev.pos h6 q4))
  by_cases h7 : x.f0 = 7
  · have hj : ∀ {r : Int × Int}, Ev (fun k => rubricatorref18_Of.l1 k 0 0 x.f7 (x.f7.length : Int) 0) r → Ev (refE x) r := by
      intro r h
      refine hR' (Ev.succ ?_) (by omega)
      simp only [rubricatorref18_Of.j0]
      exact Ev.neg (by simp [h7]) (Ev.neg (by omega) (Ev.neg (by omega) (Ev.pos h7 h)))
    rcases Nat.eq_zero_or_pos x.f7.length with hn | hn
    · refine ⟨0, 0, Np0, Np0.in, Ev.succ ?_, hj (Ev.succ ?_), b, f1, fun _ => .inr (by decide)⟩
      · unfold ofE; simp only [width_of.f]
        exact Ev.neg h15 (Ev.neg h13 (Ev.neg h14 (Ev.neg h6 (Ev.pos h7 (Ev.pos (by omega) (Ev.const _))))))
      · simp only [rubricatorref18_Of.l1]
        exact Ev.neg (by omega) (Ev.const _)
    · obtain ⟨a, c, ha, hc, e1, e2, f, e3, e4⟩ := hq x.f7[0] (List.getElem_mem hn)
      have hr : rd_T25 x.f7 0 = x.f7[0] := rd_at (i := 0) hn
      have hmm : ∀ z : Int, mn z z = z := fun z => by unfold mn; split <;> rfl
      have hgg : GG c c = c := by unfold GG; split <;> omega
      obtain ⟨lo', hi', q1, q2, q3, q4, q5⟩ := alt_loop hl hq _ 1 rfl (by omega) a c ha hc
      have u1 : wrap64 ((0 : Int) + 1) = ((1 : Nat) : Int) := by rw [w64 (by omega) (by omega)]; rfl
      refine ⟨lo', hi', q1, q2, Ev.succ ?_, hj (Ev.succ ?_), b, f1, fun hb => q5 (fun y hy => (f2 hb).1 y (List.mem_of_mem_drop hy)) ((f2 hb).1 x.f7[0] (List.getElem_mem hn) _ e1)⟩
      · unfold ofE; simp only [width_of.f, hr]
        refine Ev.neg h15 (Ev.neg h13 (Ev.neg h14 (Ev.neg h6 (Ev.pos h7 (Ev.neg (by omega) (Ev.pos (by omega) (Ev.bind (f := fun k => ofE x.f7[0] k) e1 (Ev.bind (a := (lo', hi')) (Ev.succ ?_) (Ev.const _)))))))))
        simp only [width_fold_f21.f]
        refine Ev.succ ?_
        simp only [width_fold_f21.l0, hr, u1]
        refine Ev.pos (by omega) (Ev.pos (by omega) (Ev.pos (by omega) (Ev.bind (of2_ev e1 ha hc ha hc) ?_)))
        simp only [hgg, show min a a = a by omega]
        exact q3
      · simp only [rubricatorref18_Of.l1, hr, u1]
        refine Ev.pos (by omega) (Ev.pos (by omega) (Ev.pos (by omega) (Ev.bind (f := fun k => refE x.f7[0] k) e2 (Ev.pos trivial ?_))))
        simp only [greater_eq hc hc, Option.bind_some, hgg, hmm]
        exact q4
  have hW : ∀ {r : Int × Int}, (∀ fl, (fl = true ↔ (x.f0 = 8 ∨ x.f0 = 9 ∨ x.f0 = 11)) → Ev (fun k => width_of.j0 k fl x.f0 x.f1 x.f2 x.f3 x.f4 x.f5 x.f6 x.f7) r) → Ev (ofE x) r := by
    intro r h
    refine Ev.succ ?_
    unfold ofE; simp only [width_of.f]
    refine Ev.neg h15 (Ev.neg h13 (Ev.neg h14 (Ev.neg h6 (Ev.neg h7 ?_))))
    by_cases h8 : x.f0 = 8
    · exact Ev.pos h8 (h _ (by simp [h8]))
    by_cases h9 : x.f0 = 9
    · exact Ev.neg h8 (Ev.pos h9 (h _ (by simp [h9])))
    · exact Ev.neg h8 (Ev.neg h9 (h _ (by simp [h8, h9])))
  by_cases hk : x.f0 = 8 ∨ x.f0 = 9 ∨ x.f0 = 11
  · have hRR : ∀ {a c : Int}, Np a → In c → Ev (fun k => rubricatorref18_kid.f k x.f0 x.f1 x.f2 x.f3 x.f4 x.f5 x.f6 x.f7) (a, c) → Ev (refE x) (if x.f0 = 8 then (PP a (mx x.f2 0), PP c (if x.f3 = -1 then -1 else mx x.f3 0)) else (a, c)) := by
      intro a c ha hc h
      by_cases h9 : x.f0 = 9
      · exact hR (refj_kid ha hc h (.inl (by simp [h9])) (fun _ => by omega)) h9
      by_cases h8 : x.f0 = 8
      · exact hR' (refj_kid ha hc h (.inr ⟨by simp [h8], h8⟩) (fun hh => by simp [h8] at hh)) h9
      · exact hR' (refj_kid ha hc h (.inl (by simp; omega)) (fun _ => h8)) h9
    rcases Nat.eq_zero_or_pos x.f7.length with hn | hn
    · have hnil := List.eq_nil_of_length_eq_zero hn
      have z := hRR Np0 Np0.in (kid_nil hnil)
      simp only [PP_zero, ite_self] at z
      exact ⟨0, 0, Np0, Np0.in, hW (fun fl hf => widj_nil (hf.mpr hk) hnil), z, b, f1, fun _ => .inr (by decide)⟩
    · obtain ⟨a, c, ha, hc, e1, e2, f, e3, e4⟩ := hq x.f7[0] (List.getElem_mem hn)
      have z := hRR ha hc (kid_kid hn e2)
      have y := hW (fun fl hf => widj_kid (hf.mpr hk) hn e1 ha hc)
      by_cases h8 : x.f0 = 8
      · rw [if_pos h8] at z y
        have m2 := mx0 x.f2
        have m3 : -1 ≤ (if x.f3 = -1 then -1 else mx x.f3 0) := by have := mx0 x.f3; split <;> omega
        refine ⟨_, _, PP_np ha m2, PP_in hc m3, y, z, b, f1, fun hb => ?_⟩
        refine Or2_PP ha hc m2 m3 ((f2 hb).1 x.f7[0] (List.getElem_mem hn) _ e1) ?_
        rcases (f2 hb).2 h8 with q | q
        · left; rw [if_pos q]
        · by_cases q3 : x.f3 = -1
          · left; rw [if_pos q3]
          · right; rw [if_neg q3]; exact q
      · rw [if_neg h8] at z y
        exact ⟨a, c, ha, hc, y, z, b, f1, fun hb => (f2 hb).1 x.f7[0] (List.getElem_mem hn) _ e1⟩
  · refine ⟨0, 0, Np0, Np0.in, hW (fun fl hf => widj_false (by cases fl; rfl; exact absurd (hf.mp rfl) hk)), hR' (Ev.succ ?_) (by omega), b, f1, fun _ => .inr (by decide)⟩
    simp only [rubricatorref18_Of.j0]
    exact Ev.neg (by simp; omega) (Ev.neg (by omega) (Ev.neg h6 (Ev.neg h7 (Ev.const _))))

theorem all {x : S25} (h : Gd x) : Q x := by
  induction h with
  | mk x hl hk ih => exact node hl ih
end Go.Proofs.Ytimckmfgjpcigaa.Plain
