/- Plain facts and the plain law of UtfAgain: what is read, written, is the same just where the bytes are well-formed. -/
import Derived.Test.YtobbbpkphillcaaPlain6
import Derived.Lib.Strings
namespace Go.Proofs.Ytobbbpkphillcaa.Pure
open Go Go.RowKit Go.Proofs.Ytobbbpkphillcaa.PU Go.Proofs.YtobbbpkphillcaaW.PrintWords Go.Proofs.YtobbbpkphillcaaW.PrintLast Go.Proofs.YtobbbpkphillcaaW.PrintMore

/-- All are bytes, one by one. -/
def BytL (b : List Int) : Prop := ∀ x ∈ b, 0 ≤ x ∧ x < 256

theorem bytL_of {b : List Int} (h : ∀ x ∈ b, (Lit.int .u8 x).wf = true) : BytL b := fun x hx => by have := bounds_u8 (h x hx); omega
theorem BytL.byt {b : List Int} (h : BytL b) : Byt b := byt_iff h

theorem str_back {a : List Int} (h : BytL a) : (a.map fun n => UInt8.ofNat n.toNat).map (fun u => (u.toNat : Int)) = a := by
  rw [List.map_map]
  conv => rhs; rw [← List.map_id a]
  refine List.map_congr_left fun x hx => ?_
  have := h x hx
  simp only [Function.comp, id, UInt8.toNat_ofNat']
  omega

theorem bytes_eq {a b : List Int} (ha : BytL a) (hb : BytL b) : ((strOfNums a).toList == (strOfNums b).toList) = decide (a = b) := by
  rw [Lib.toList_data, Lib.toList_data, strOfNums_data, strOfNums_data]
  rw [Bool.eq_iff_iff, beq_iff_eq, decide_eq_true_iff]
  constructor
  · intro h
    rw [← str_back ha, h, str_back hb]
  · rintro rfl; rfl

/-- All items written. -/
def encAll : List S31 → List Int
  | [] => []
  | x :: t => (encL x.f0).1 ++ encAll t

theorem bad_form {b c : List Int} (h : [239, 191, 189] ++ c = b) : (dec1 b).2.2 = true := by
  subst h
  rw [dec1_app (by decide) (by decide)]
  decide

theorem encAll_iff (f : Nat) : ∀ (b : List Int) (p : Int), Byt b → b.length ≤ f → (encAll (itemsF f b p) = b ↔ validF f b = true) := by
  induction f with
  | zero =>
    intro b p hb h
    have : b = [] := List.eq_nil_of_length_eq_zero (by omega)
    subst this
    simp [itemsF, validF, encAll]
  | succ f ih =>
    intro b p hb h
    rw [itemsF, validF]
    by_cases hp : 0 < (b.length : Int)
    · rw [if_pos hp, if_pos hp, encAll]
      dsimp only
      have n := dec1_n hp
      have ih := ih (b.drop (dec1 b).2.1.toNat) (p + (dec1 b).2.1) (hb.drop _) (by rw [List.length_drop]; omega)
      cases hv : (dec1 b).2.2 with
      | true =>
        rw [dec1_enc hb hp hv]
        dsimp only
        rw [Bool.true_and, ← ih]
        constructor
        · intro e
          have e2 := congrArg (List.drop (dec1 b).2.1.toNat) e
          rw [List.drop_append_of_le_length (by rw [List.length_take]; omega), List.drop_take] at e2
          simpa using e2
        · intro e
          rw [e, List.take_append_drop]
      | false =>
        rw [Bool.false_and]
        constructor
        · intro e
          rw [dec1_bad hv, show (encL 65533).1 = [239, 191, 189] from by decide] at e
          rw [bad_form e] at hv
          cases hv
        · intro e; cases e
    · have : b = [] := List.eq_nil_of_length_eq_zero (by omega)
      subst this
      simp [encAll]

theorem encAll_byt (l : List S31) : BytL (encAll l) := by
  induction l with
  | nil => intro x h; cases h
  | cons a t ih =>
    intro x h
    rw [encAll, List.mem_append] at h
    rcases h with h | h
    · exact encL_byt _ x h
    · exact ih x h

/-- All items have bytes. -/
def AllHas (l : List S31) : Prop := ∀ x ∈ l, (encL x.f0).2 = true

theorem itemsF_has (f : Nat) : ∀ (b : List Int) (p : Int), Byt b → AllHas (itemsF f b p) := by
  induction f with
  | zero => intro b p hb x h; cases h
  | succ f ih =>
    intro b p hb x h
    rw [itemsF] at h
    by_cases hp : 0 < (b.length : Int)
    · rw [if_pos hp] at h
      rcases List.mem_cons.1 h with rfl | h
      · exact dec1_has hb hp
      · exact ih _ _ (hb.drop _) x h
    · rw [if_neg hp] at h; cases h

theorem again_loop (s : List S31) : ∀ (k : Nat) (l out : List Int) (xs : List S31) (i : Int), BytL l → AllHas s → 0 ≤ i → xs.drop i.toNat = s → (xs.length : Int) < 4611686018427387904 → s.length + l.length + 30 ≤ k →
    out.length + 4 * s.length < 140737488355328 → BytL out → (out ++ encAll s = l ↔ validF l.length l = true) → rubricatorlaw01_UtfAgain.l0 k l out xs (xs.length : Int) i = some true := by
  induction s with
  | nil =>
    intro k l out xs i hl _ hi e hx hk _ ho hq
    obtain ⟨k, rfl⟩ : ∃ m, k = m + 1 := ⟨k - 1, by omega⟩
    have : xs.length ≤ i.toNat := by
      rcases Nat.lt_or_ge i.toNat xs.length with q | q
      · rw [List.drop_eq_getElem_cons q] at e; cases e
      · exact q
    rw [encAll, List.append_nil] at hq
    rw [rubricatorlaw01_UtfAgain.l0, if_neg (by omega), valid_spec hl.byt _ (by simp at hk; omega), awake_ge (by omega)]
    simp only [bytes_Equal.f, Option.bind_some]
    rw [bytes_eq ho hl, if_pos]
    rw [beq_iff_eq, Bool.eq_iff_iff, decide_eq_true_iff]
    exact hq
  | cons x t ih =>
    intro k l out xs i hl hs hi e hx hk hn ho hq
    obtain ⟨k, rfl⟩ : ∃ m, k = m + 1 := ⟨k - 1, by omega⟩
    obtain ⟨e1, e2, e3⟩ := rd31_of_drop hi e
    have hx1 := hs x (List.mem_cons_self ..)
    have hlen := encL_len _ hx1
    simp only [List.length_cons] at hk hn
    obtain ⟨m, rfl⟩ : ∃ m, k = m + 12 := ⟨k - 12, by omega⟩
    rw [rubricatorlaw01_UtfAgain.l0, if_pos e2, if_pos hi, if_pos e2, e1, utf_enc m, Option.bind_some, hx1, if_pos rfl, if_pos (by omega), w64 (by omega) (by omega)]
    refine ih _ l _ xs _ hl (fun y hy => hs y (List.mem_cons_of_mem _ hy)) (by omega) e3 hx (by omega) (by rw [List.length_append]; omega) ?_ ?_
    · intro y hy
      rcases List.mem_append.1 hy with h | h
      · exact ho y h
      · exact encL_byt _ y h
    · rw [List.append_assoc]; exact hq

theorem UtfAgain_true (l : List Int) (hw : ∀ x ∈ l, (Lit.int .u8 x).wf = true) (hl : l.length ≤ 1048576) : ∃ k, rubricatorlaw01_UtfAgain.f k l = some true := by
  have hb := bytL_of hw
  refine ⟨2 * l.length + 60, ?_⟩
  unfold rubricatorlaw01_UtfAgain.f
  rw [decode_spec hb.byt (by omega) _ (by omega), Option.bind_some]
  have hn := itemsF_len l.length l 0
  exact again_loop (itemsF l.length l 0) _ l [] _ 0 hb (itemsF_has _ _ _ hb.byt) (by decide) (by simp) (by omega) (by omega) (by simp; omega) (fun _ h => by cases h) (by
    rw [List.nil_append]; exact encAll_iff _ _ _ hb.byt (Nat.le_refl _))

end Go.Proofs.Ytobbbpkphillcaa.Pure
