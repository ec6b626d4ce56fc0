/- Plain law of UtfJoins: the items of two texts, one behind the other, are those of both, if the first one is well-formed. -/
import Derived.Test.YtobbbpkphillcaaPlain10
import Derived.Test.YtobbbpkphillcaaPlain8
import Derived.Test.YtobbbpkphillcaaPUJ
namespace Go.Proofs.Ytobbbpkphillcaa.Pure
open Go Go.RowKit Go.Proofs.Ytobbbpkphillcaa.PU Go.Proofs.YtobbbpkphillcaaW.PrintWords Go.Proofs.YtobbbpkphillcaaW.PrintLast Go.Proofs.YtobbbpkphillcaaW.PrintMore

theorem items_app (f : Nat) : ∀ (a b : List Int) (p : Int) (g : Nat), a.length ≤ f → b.length ≤ g → validF f a = true → itemsF (f + g) (a ++ b) p = itemsF f a p ++ itemsF g b (p + a.length) := by
  induction f with
  | zero =>
    intro a b p g h1 h2 _
    have : a = [] := List.eq_nil_of_length_eq_zero (by omega)
    subst this
    simp [itemsF]
  | succ f ih =>
    intro a b p g h1 h2 hv
    by_cases hp : 0 < (a.length : Int)
    · rw [validF, if_pos hp] at hv
      obtain ⟨v1, v2⟩ := (Bool.and_eq_true _ _).mp hv
      have n := dec1_n hp
      have e : f + 1 + g = (f + g) + 1 := by omega
      rw [e, itemsF, itemsF, if_pos hp, if_pos (by rw [List.length_append]; omega), dec1_app hp v1, List.drop_append_of_le_length (by omega), ih _ b _ g (by rw [List.length_drop]; omega) h2 v2, List.cons_append]
      have hd : ((a.drop (dec1 a).2.1.toNat).length : Int) = a.length - (dec1 a).2.1 := drop_len _ (by omega) n.2.2
      rw [hd]
      congr 3
      omega
    · have : a = [] := List.eq_nil_of_length_eq_zero (by omega)
      subst this
      rw [itemsF_nil, List.nil_append, List.nil_append, itemsF_fuel (f + 1 + g) g b p (by omega) h2]
      simp

theorem grow_spec {n : Int} (h0 : 0 ≤ n) (h1 : n ≤ 4000000) : slices_Grow_byte_byte.f n = some [] := by
  unfold slices_Grow_byte_byte.f
  rw [w64 (by omega) (by omega), if_neg (by omega)]
  by_cases c : n > 0
  · rw [if_pos c, if_pos h0, if_pos (by simp; omega), Option.bind_some, if_pos (by decide), if_pos (by omega)]
    rfl
  · rw [if_neg c]

theorem rdL0 (a b : List Int) : rd_L3 [a, b] 0 = a := rfl
theorem rdL1 (a b : List Int) : rd_L3 [a, b] 1 = b := rfl

theorem concat_spec {a b : List Int} (ha : a.length ≤ 1048576) (hb : b.length ≤ 1048576) (k : Nat) (hk : 10 ≤ k) : slices_Concat_byte_byte.f k [a, b] = some (a ++ b) := by
  obtain ⟨m, rfl⟩ : ∃ m, k = m + 10 := ⟨k - 10, by omega⟩
  have l2 : (([a, b] : List (List Int)).length : Int) = 2 := rfl
  have u1 : wrap64 ((0 : Int) + 1) = 1 := w64 (by omega) (by omega)
  have u2 : wrap64 ((1 : Int) + 1) = 2 := w64 (by omega) (by omega)
  unfold slices_Concat_byte_byte.f
  rw [l2]
  rw [slices_Concat_byte_byte.l0, l2, if_pos (by decide), if_pos (by decide), if_pos (by decide), rdL0, w64 (x := 0 + (a.length : Int)) (by omega) (by omega), if_neg (by omega), u1]
  rw [slices_Concat_byte_byte.l0, l2, if_pos (by decide), if_pos (by decide), if_pos (by decide), rdL1, w64 (by omega) (by omega), if_neg (by omega), u2]
  rw [slices_Concat_byte_byte.l0, l2, if_neg (by decide), grow_spec (by omega) (by omega), Option.bind_some]
  rw [slices_Concat_byte_byte.l1, l2, if_pos (by decide), if_pos (by decide), if_pos (by decide), rdL0, if_pos (by simp; omega), u1]
  rw [slices_Concat_byte_byte.l1, l2, if_pos (by decide), if_pos (by decide), if_pos (by decide), rdL1, if_pos (by simp; omega), u2]
  rw [slices_Concat_byte_byte.l1, if_neg (by decide)]
  simp

theorem decode_spec2 {l : List Int} (hb : Byt l) (hl : l.length ≤ 4000000) (k : Nat) (hk : l.length + 12 ≤ k) : utf_Decode.f k l = some (itemsF l.length l 0) := by
  unfold utf_Decode.f
  rw [decode_loop l.length k l [] 0 hb (by omega) (by omega) (by omega) hk (by simp; omega) (by omega)]
  simp

theorem join_loop {a b : List Int} (ha : a.length ≤ 1048576) (hb : b.length ≤ 1048576) (hab : Byt (a ++ b)) {xs : List S31} (hx : xs.length ≤ 1048576) (s : List S31) : ∀ (k : Nat) (acc : List S31) (i : Int), 0 ≤ i → xs.drop i.toNat = s → acc.length + s.length ≤ 4000000 →
    (∀ x ∈ s, 0 ≤ x.f1 ∧ x.f1 ≤ 4000000 ∧ 0 ≤ x.f2 ∧ x.f2 ≤ 4000000) → acc ++ s.map (shiftI a.length) = itemsF (a ++ b).length (a ++ b) 0 → s.length + a.length + b.length + 60 ≤ k →
    rubricatorlaw01_UtfJoins.l0 k a b acc xs (xs.length : Int) i = some true := by
  induction s with
  | nil =>
    intro k acc i h0 hd hl hm he hk
    obtain ⟨k, rfl⟩ : ∃ m, k = m + 1 := ⟨k - 1, by omega⟩
    have hi : xs.length ≤ i.toNat := by simpa using hd
    have hn := itemsF_len (a ++ b).length (a ++ b) 0
    rw [List.length_append] at hn
    simp only [List.length_nil] at hk
    rw [rubricatorlaw01_UtfJoins.l0, if_neg (by omega), concat_spec ha hb _ (by omega), Option.bind_some, decode_spec2 hab (by rw [List.length_append]; omega) _ (by rw [List.length_append]; omega), Option.bind_some]
    rw [List.map_nil, List.append_nil] at he
    rw [he, item_refl _ (by rw [List.length_append]; omega) _ (by rw [List.length_append]; omega), Option.bind_some, if_pos rfl, awake_ge (by omega), Option.bind_some]
  | cons x t ih =>
    intro k acc i h0 hd hl hm he hk
    obtain ⟨k, rfl⟩ : ∃ m, k = m + 1 := ⟨k - 1, by omega⟩
    obtain ⟨r1, r2, r3⟩ := rd31_of_drop h0 hd
    have hx1 := hm x (List.mem_cons_self ..)
    simp only [List.length_cons] at hk hl
    rw [rubricatorlaw01_UtfJoins.l0, if_pos r2, if_pos h0, if_pos r2, if_pos (by omega), r1, w64 (x := i + 1) (by omega) (by omega), w64 (x := (a.length : Int) + x.f1) (by omega) (by omega), w64 (x := (a.length : Int) + x.f2) (by omega) (by omega)]
    refine ih k _ (i + 1) (by omega) r3 (by simp; omega) (fun y hy => hm y (List.mem_cons_of_mem _ hy)) ?_ (by omega)
    have e : (⟨x.f0, (a.length : Int) + x.f1, (a.length : Int) + x.f2⟩ : S31) = shiftI a.length x := by
      unfold shiftI; rw [Int.add_comm (a.length : Int) x.f1, Int.add_comm (a.length : Int) x.f2]
    rw [← he, e, List.append_assoc, List.map_cons]
    rfl

theorem UtfJoins_true (a b : List Int) (hwa : ∀ x ∈ a, (Lit.int .u8 x).wf = true) (ha : a.length ≤ 1048576) (hwb : ∀ x ∈ b, (Lit.int .u8 x).wf = true) (hb : b.length ≤ 1048576) : ∃ k, rubricatorlaw01_UtfJoins.f k a b = some true := by
  have ba := byt_of hwa
  have bb := byt_of hwb
  have bab : Byt (a ++ b) := byt_of (fun x hx => by rcases List.mem_append.mp hx with h | h; exact hwa x h; exact hwb x h)
  refine ⟨a.length + b.length + b.length + 200, ?_⟩
  unfold rubricatorlaw01_UtfJoins.f
  rw [valid_spec ba _ (by omega), Option.bind_some]
  cases hv : validF a.length a with
  | false =>
    rw [if_neg (by decide), ref_valid_spec ba _ (by omega), Option.bind_some, hv, if_neg (by decide), awake_ge (by omega), Option.bind_some]
  | true =>
    have n1 := itemsF_len a.length a 0
    have n2 := itemsF_len b.length b 0
    rw [if_pos rfl, decode_spec2 ba (by omega) _ (by omega), Option.bind_some, decode_spec2 bb (by omega) _ (by omega), Option.bind_some]
    refine join_loop ha hb bab (by omega) (itemsF b.length b 0) _ _ 0 (by omega) rfl (by omega) (fun x hx => ?_) ?_ (by omega)
    · have := itemsF_bd b.length b 0 (Nat.le_refl _) x hx
      omega
    · rw [List.length_append, items_app a.length a b 0 b.length (Nat.le_refl _) (Nat.le_refl _) hv, ← itemsF_shift]
end Go.Proofs.Ytobbbpkphillcaa.Pure
