-- Written by a program of this session (a turn of the kit's print); Lean checks it.
import Derived.Test.YtebboloogedceaaPA0
import Derived.Test.YtebboloogedceaaPA3
namespace Go.Proofs.Ytebboloogedceaa.PA
open Go.RowKit Go.Proofs.YtebboloogedceaaW.PrintWords Go.Proofs.YtebboloogedceaaW.PrintLast Go.Proofs.YtebboloogedceaaW.PrintMore
attribute [local go_sem] max2_int min2_int max_two min_two max_three min_three max_four min_four   -- for this text's walks alone
set_option linter.unusedVariables false
set_option linter.unusedSimpArgs false

/-! ### rubricatorref01_bounds: function 26 -/
def rubricatorref01_bounds.j0 : Nat → Int → Int → Bool → Option (Int × Int × Bool)
  | 0, _, _, _ => none
  | k + 1, x0, x1, x18 => if x18 = true then (some (0, 0, false)) else (if x1 = 1 then (if x0 = 224 then (some (160, 191, true)) else (if x0 = 237 then (some (128, 159, true)) else (if x0 = 240 then (some (144, 191, true)) else (if x0 = 244 then (some (128, 143, true)) else (some (128, 191, true)))))) else (some (128, 191, true)))
def rubricatorref01_bounds.f (k : Nat) (a0 : Int) (a1 : Int) : Option (Int × Int × Bool) := (rubricatorref01_Size.f k a0).bind fun t135 => (if a1 < 1 then (rubricatorref01_bounds.j0 k a0 a1 true) else (rubricatorref01_bounds.j0 k a0 a1 (decide (a1 ≥ t135))))
theorem rubricatorref01_bounds.mono_l : ∀ k, (∀ y0 y1 y2, LeO (rubricatorref01_bounds.j0 k y0 y1 y2) (rubricatorref01_bounds.j0 (k + 1) y0 y1 y2))
  | 0 => fun _ _ _ r h => by simp [rubricatorref01_bounds.j0] at h
  | k + 1 => by
    have ih0 := rubricatorref01_bounds.mono_l k
    · intro y0 y1 y2
      unfold rubricatorref01_bounds.j0
      repeat' first
      | (with_reducible exact ih0 _ _ _)
      | (with_reducible exact rubricatorref01_Size.mono _ _)
      | (with_reducible exact LeO.refl _)
      | (with_reducible exact LeO.none _)
      | (with_reducible refine LeO.ite ?_ ?_)
      | (with_reducible refine LeO.bind ?_ (fun _ => ?_))
      | exact ih0 _ _ _
      | exact rubricatorref01_Size.mono _ _
      | exact LeO.none _
      | refine LeO.ite ?_ ?_
      | refine LeO.bind ?_ (fun _ => ?_)
theorem rubricatorref01_bounds.mono : ∀ a0 a1 k, LeO (rubricatorref01_bounds.f k a0 a1) (rubricatorref01_bounds.f (k + 1) a0 a1) := by
  intro a0 a1 k
  have ih0 := rubricatorref01_bounds.mono_l k
  unfold rubricatorref01_bounds.f
  repeat' first
      | (with_reducible exact ih0 _ _ _)
      | (with_reducible exact rubricatorref01_Size.mono _ _)
      | (with_reducible exact LeO.refl _)
      | (with_reducible exact LeO.none _)
      | (with_reducible refine LeO.ite ?_ ?_)
      | (with_reducible refine LeO.bind ?_ (fun _ => ?_))
      | exact ih0 _ _ _
      | exact rubricatorref01_Size.mono _ _
      | exact LeO.none _
      | refine LeO.ite ?_ ?_
      | refine LeO.bind ?_ (fun _ => ?_)
set_option maxHeartbeats 8000000 in
set_option maxRecDepth 100000 in
theorem rubricatorref01_bounds.calls (k : Nat) (a0 : Int) (a1 : Int) (r1 : Int) (r2 : Int) (r3 : Bool) (w : World) (h : rubricatorref01_bounds.f k a0 a1 = some (r1, r2, r3)) :
    Calls Try.prog 26 #[.int .u8 a0, .int .i64 a1] w fun e w' => e = .returned (.tuple #[.int .u8 r1, .int .u8 r2, .bool r3]) ∧ Drawn0 w w' := by
  have H : ((rubricatorref01_Size.f k a0).bind fun t135 => (if a1 < 1 then (rubricatorref01_bounds.j0 k a0 a1 true) else (rubricatorref01_bounds.j0 k a0 a1 (decide (a1 ≥ t135))))) = some (r1, r2, r3) := h
  clear h
  replace H := Option.bind_eq_some_iff.mp H
  obtain ⟨t135, A30, H⟩ := H
  replace H : (if a1 < 1 then (rubricatorref01_bounds.j0 k a0 a1 true) else (rubricatorref01_bounds.j0 k a0 a1 (decide (a1 ≥ t135)))) = some (r1, r2, r3) := H
  have A3 := Aside0.mk A30
  clear A30
  have HC4 := Aside0.mk H
  clear H
  go_enter Try.func26, Try.ntmps26
  go_upto_region 2 with (first | ((with_reducible refine gate_callee (f := 25) rfl ?_); refine goesL_ (some 11) rfl rfl Try.func25 (by kernel_rfl) rfl #[.int .u8 a0] rfl (by (try simp only [List.map_toArray, List.map_cons, List.map_nil]); first | done | rfl | (simp only [List.length_drop, List.length_take]; rfl)) ?_; (with_reducible refine (rubricatorref01_Size.calls k a0 t135 _ A3.out).mono ?_); rintro e w' ⟨rfl, ⟨nd, rfl⟩⟩; refine ⟨_, rfl, ?_⟩))
  (try simp only [Act.put, List.setIfInBounds_toArray, List.set_cons_zero, List.set_cons_succ])
  go_cut [18] (fun v18 wc => ∃ (kq : Nat) (x18_3 : Bool), v18 = .bool x18_3 ∧ Aside0 (rubricatorref01_bounds.j0 kq a0 a1 x18_3 = some (r1, r2, r3)) ∧ Aside0 (kq ≤ k) ∧ Drawn0 w wc)
  case first =>
    have H := HC4.out
    clear HC4
    by_cases c5 : a1 < 1
    · rw [if_pos c5] at H
      have c5b0 : decide (a1 < 1) = true := decide_eq_true c5
      clear c5
      (first | rw [c5b0] | (simp only [i64_w, i32_w]; rw [c5b0]) | skip)
      have H' := Aside0.mk H
      clear H
      go_wp2
      go_meet
      case rel => exact ⟨_, (true), (by first | rfl | (simp; done) | (simp [*]; done)), H', ⟨by first | omega | exact Nat.le_refl _⟩, by repeat (first | exact Drawn0.refl _ | apply Drawn0.step)⟩
    · rw [if_neg c5] at H
      have c5b0 : decide (a1 < 1) = false := decide_eq_false c5
      clear c5
      (first | rw [c5b0] | (simp only [i64_w, i32_w]; rw [c5b0]) | skip)
      have H' := Aside0.mk H
      clear H
      go_wp2
      go_meet
      case rel => exact ⟨_, (decide (a1 ≥ t135)), (by first | rfl | (simp; done) | (simp [*]; done)), H', ⟨by first | omega | exact Nat.le_refl _⟩, by repeat (first | exact Drawn0.refl _ | apply Drawn0.step)⟩
  case rest =>
    clear HC4
    try clear c2
    try clear p2
    try clear c5
    try clear c5b0
    obtain ⟨kq, x18_3, rfl, HA, HJ3, ⟨mc3, rfl⟩⟩ := hcut
    cases kq with
    | zero => exact absurd HA.out (by simp [rubricatorref01_bounds.j0])
    | succ kj3 =>
      have H := HA.out
      clear HA
      simp only [rubricatorref01_bounds.j0] at H
      by_cases c6 : x18_3 = true
      · subst c6
        have H1 : (some (0, 0, false)) = some (r1, r2, r3) := by rw [if_pos rfl] at H; exact H
        clear H
        have H := H1
        clear H1
        simp only [Option.some.injEq, Prod.mk.injEq] at H
        obtain ⟨rfl, rfl, rfl⟩ := H
        go_wp2
        go_ret3
        exact ⟨by first | rfl | (simp; done) | (simp [*]; done), by repeat (first | exact Drawn0.refl _ | apply Drawn0.step)⟩
      · replace c6 := Bool.eq_false_iff.mpr c6
        subst c6
        have H1 : (if a1 = 1 then (if a0 = 224 then (some (160, 191, true)) else (if a0 = 237 then (some (128, 159, true)) else (if a0 = 240 then (some (144, 191, true)) else (if a0 = 244 then (some (128, 143, true)) else (some (128, 191, true)))))) else (some (128, 191, true))) = some (r1, r2, r3) := by rw [if_neg (show ¬ (false = true) by decide)] at H; exact H
        clear H
        have H := H1
        clear H1
        by_cases c7 : a1 = 1
        · rw [if_pos c7] at H
          have c7b0 : (a1 == 1) = true := beq_iff_eq.mpr c7
          have c7b1 : (a1 != 1) = false := bne_eq_false_iff_eq.mpr c7
          clear c7
          by_cases c8 : a0 = 224
          · rw [if_pos c8] at H
            have c8b0 : (a0 == 224) = true := beq_iff_eq.mpr c8
            have c8b1 : (a0 != 224) = false := bne_eq_false_iff_eq.mpr c8
            clear c8
            simp only [Option.some.injEq, Prod.mk.injEq] at H
            obtain ⟨rfl, rfl, rfl⟩ := H
            go_wp2
            go_ret3
            exact ⟨by first | rfl | (simp; done) | (simp [*]; done), by repeat (first | exact Drawn0.refl _ | apply Drawn0.step)⟩
          · rw [if_neg c8] at H
            have c8b0 : (a0 == 224) = false := beq_eq_false_iff_ne.mpr c8
            have c8b1 : (a0 != 224) = true := bne_iff_ne.mpr c8
            by_cases c9 : a0 = 237
            · rw [if_pos c9] at H
              have c9b0 : (a0 == 237) = true := beq_iff_eq.mpr c9
              have c9b1 : (a0 != 237) = false := bne_eq_false_iff_eq.mpr c9
              clear c9
              simp only [Option.some.injEq, Prod.mk.injEq] at H
              obtain ⟨rfl, rfl, rfl⟩ := H
              go_wp2
              go_ret3
              exact ⟨by first | rfl | (simp; done) | (simp [*]; done), by repeat (first | exact Drawn0.refl _ | apply Drawn0.step)⟩
            · rw [if_neg c9] at H
              have c9b0 : (a0 == 237) = false := beq_eq_false_iff_ne.mpr c9
              have c9b1 : (a0 != 237) = true := bne_iff_ne.mpr c9
              by_cases c10 : a0 = 240
              · rw [if_pos c10] at H
                have c10b0 : (a0 == 240) = true := beq_iff_eq.mpr c10
                have c10b1 : (a0 != 240) = false := bne_eq_false_iff_eq.mpr c10
                clear c10
                simp only [Option.some.injEq, Prod.mk.injEq] at H
                obtain ⟨rfl, rfl, rfl⟩ := H
                go_wp2
                go_ret3
                exact ⟨by first | rfl | (simp; done) | (simp [*]; done), by repeat (first | exact Drawn0.refl _ | apply Drawn0.step)⟩
              · rw [if_neg c10] at H
                have c10b0 : (a0 == 240) = false := beq_eq_false_iff_ne.mpr c10
                have c10b1 : (a0 != 240) = true := bne_iff_ne.mpr c10
                by_cases c11 : a0 = 244
                · rw [if_pos c11] at H
                  have c11b0 : (a0 == 244) = true := beq_iff_eq.mpr c11
                  have c11b1 : (a0 != 244) = false := bne_eq_false_iff_eq.mpr c11
                  clear c11
                  simp only [Option.some.injEq, Prod.mk.injEq] at H
                  obtain ⟨rfl, rfl, rfl⟩ := H
                  go_wp2
                  go_ret3
                  exact ⟨by first | rfl | (simp; done) | (simp [*]; done), by repeat (first | exact Drawn0.refl _ | apply Drawn0.step)⟩
                · rw [if_neg c11] at H
                  have c11b0 : (a0 == 244) = false := beq_eq_false_iff_ne.mpr c11
                  have c11b1 : (a0 != 244) = true := bne_iff_ne.mpr c11
                  simp only [Option.some.injEq, Prod.mk.injEq] at H
                  obtain ⟨rfl, rfl, rfl⟩ := H
                  go_wp2
                  go_ret3
                  exact ⟨by first | rfl | (simp; done) | (simp [*]; done), by repeat (first | exact Drawn0.refl _ | apply Drawn0.step)⟩
        · rw [if_neg c7] at H
          have c7b0 : (a1 == 1) = false := beq_eq_false_iff_ne.mpr c7
          have c7b1 : (a1 != 1) = true := bne_iff_ne.mpr c7
          simp only [Option.some.injEq, Prod.mk.injEq] at H
          obtain ⟨rfl, rfl, rfl⟩ := H
          go_wp2
          go_ret3
          exact ⟨by first | rfl | (simp; done) | (simp [*]; done), by repeat (first | exact Drawn0.refl _ | apply Drawn0.step)⟩

end Go.Proofs.Ytebboloogedceaa.PA
