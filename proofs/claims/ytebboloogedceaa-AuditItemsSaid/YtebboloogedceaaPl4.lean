/- Plain facts: the items of bytes; both Decodes compute them. -/
import Derived.Test.YtebboloogedceaaPl3
namespace Go.Proofs.Ytebboloogedceaa.Pure
open Go Go.RowKit Go.Proofs.Ytebboloogedceaa.PA Go.Proofs.YtebboloogedceaaW.PrintWords Go.Proofs.YtebboloogedceaaW.PrintLast Go.Proofs.YtebboloogedceaaW.PrintMore

/-- The items of bytes, from a place on. -/
def itemsF : Nat → List Int → Int → List S39
  | 0, _, _ => []
  | f + 1, b, p => if 0 < (b.length : Int) then ⟨(dec1 b).1, p, p + (dec1 b).2.1⟩ :: itemsF f (b.drop (dec1 b).2.1.toNat) (p + (dec1 b).2.1) else []

theorem itemsF_nil (f : Nat) (p : Int) : itemsF f [] p = [] := by cases f <;> simp [itemsF]

theorem drop_len {b : List Int} (n : Int) (h0 : 0 ≤ n) (h : n ≤ b.length) : ((b.drop n.toNat).length : Int) = b.length - n := by
  rw [List.length_drop]; omega

theorem itemsF_len (f : Nat) : ∀ b p, (itemsF f b p).length ≤ b.length := by
  induction f with
  | zero => intro b p; simp [itemsF]
  | succ f ih =>
    intro b p
    rw [itemsF]
    split
    · rename_i h
      have n := dec1_n h
      have := ih (b.drop (dec1 b).2.1.toNat) (p + (dec1 b).2.1)
      rw [List.length_drop] at this
      simp only [List.length_cons]
      omega
    · simp

/-- More fuel changes nothing. -/
theorem itemsF_fuel (f : Nat) : ∀ g b p, b.length ≤ f → b.length ≤ g → itemsF f b p = itemsF g b p := by
  induction f with
  | zero =>
    intro g b p h _
    have : b = [] := List.eq_nil_of_length_eq_zero (by omega)
    subst this
    rw [itemsF_nil, itemsF_nil]
  | succ f ih =>
    intro g b p h1 h2
    by_cases hb : 0 < (b.length : Int)
    · obtain ⟨g, rfl⟩ : ∃ m, g = m + 1 := ⟨g - 1, by omega⟩
      have n := dec1_n hb
      rw [itemsF, itemsF, if_pos hb, if_pos hb, ih g _ _ (by rw [List.length_drop]; omega) (by rw [List.length_drop]; omega)]
    · have : b = [] := List.eq_nil_of_length_eq_zero (by omega)
      subst this
      rw [itemsF_nil, itemsF_nil]

theorem decode_loop (f : Nat) : ∀ (k : Nat) (l : List Int) (acc : List S39) (p : Int), Byt l → 0 ≤ p → p ≤ l.length → (l.length : Int) - p ≤ f → f + 12 ≤ k → acc.length + f < 5864062014805 → (l.length : Int) < 4611686018427387904 →
    utf_Decode.l0 k l acc p = some (acc ++ itemsF f (l.drop p.toNat) p) := by
  induction f with
  | zero =>
    intro k l acc p hb h0 h1 h2 hk ha hl
    obtain ⟨k, rfl⟩ : ∃ m, k = m + 1 := ⟨k - 1, by omega⟩
    rw [utf_Decode.l0, if_neg (by omega), itemsF, List.append_nil]
  | succ f ih =>
    intro k l acc p hb h0 h1 h2 hk ha hl
    obtain ⟨k, rfl⟩ : ∃ m, k = m + 1 := ⟨k - 1, by omega⟩
    rw [utf_Decode.l0]
    by_cases hp : p < (l.length : Int)
    · have hd : 0 < ((l.drop p.toNat).length : Int) := by rw [drop_len p h0 h1]; omega
      have n := dec1_n hd
      rw [drop_len p h0 h1] at n
      obtain ⟨m, rfl⟩ : ∃ m, k = m + 10 := ⟨k - 10, by omega⟩
      rw [if_pos hp, if_pos h0, if_pos h1, read_spec m (hb.drop _) hd, Option.bind_some, if_pos (by omega), w64 (by omega) (by omega)]
      rw [ih _ _ _ _ hb (by omega) (by omega) (by omega) (by omega) (by rw [List.length_append]; simp; omega) hl]
      rw [itemsF, if_pos hd, List.append_assoc, List.drop_drop, show (p + (dec1 (l.drop p.toNat)).2.1).toNat = p.toNat + (dec1 (l.drop p.toNat)).2.1.toNat from by omega]
      rfl
    · rw [if_neg hp]
      have : l.drop p.toNat = [] := List.drop_eq_nil_of_le (by omega)
      rw [this, itemsF_nil, List.append_nil]

theorem decode_spec {l : List Int} (hb : Byt l) (hl : l.length ≤ 2000000) (k : Nat) (hk : l.length + 12 ≤ k) : utf_Decode.f k l = some (itemsF l.length l 0) := by
  unfold utf_Decode.f
  rw [decode_loop l.length k l [] 0 hb (by omega) (by omega) (by omega) hk (by simp; omega) (by omega)]
  rfl

theorem ref_decode_loop (f : Nat) : ∀ (k : Nat) (l : List Int) (acc : List S39) (p : Int), Byt l → 0 ≤ p → p ≤ l.length → (l.length : Int) - p ≤ f → f + 26 ≤ k → acc.length + f < 5864062014805 → (l.length : Int) < 4611686018427387904 →
    rubricatorref01_Decode.l0 k l acc p = some (acc ++ itemsF f (l.drop p.toNat) p) := by
  induction f with
  | zero =>
    intro k l acc p hb h0 h1 h2 hk ha hl
    obtain ⟨k, rfl⟩ : ∃ m, k = m + 1 := ⟨k - 1, by omega⟩
    rw [rubricatorref01_Decode.l0, if_neg (by omega), itemsF, List.append_nil]
  | succ f ih =>
    intro k l acc p hb h0 h1 h2 hk ha hl
    obtain ⟨k, rfl⟩ : ∃ m, k = m + 1 := ⟨k - 1, by omega⟩
    rw [rubricatorref01_Decode.l0]
    by_cases hp : p < (l.length : Int)
    · have hd : 0 < ((l.drop p.toNat).length : Int) := by rw [drop_len p h0 h1]; omega
      have n := dec1_n hd
      rw [drop_len p h0 h1] at n
      obtain ⟨m, rfl⟩ : ∃ m, k = m + 24 := ⟨k - 24, by omega⟩
      rw [if_pos hp, if_pos h0, if_pos h1, first_spec m (hb.drop _) hd, Option.bind_some, if_pos (by omega)]
      dsimp only
      rw [w64 (x := p + (dec1 (l.drop p.toNat)).2.1) (by omega) (by omega)]
      rw [ih _ _ _ _ hb (by omega) (by omega) (by omega) (by omega) (by rw [List.length_append]; simp; omega) hl]
      rw [itemsF, if_pos hd, List.append_assoc, List.drop_drop, show (p + (dec1 (l.drop p.toNat)).2.1).toNat = p.toNat + (dec1 (l.drop p.toNat)).2.1.toNat from by omega]
      rfl
    · rw [if_neg hp]
      have : l.drop p.toNat = [] := List.drop_eq_nil_of_le (by omega)
      rw [this, itemsF_nil, List.append_nil]

theorem ref_decode_spec {l : List Int} (hb : Byt l) (hl : l.length ≤ 2000000) (k : Nat) (hk : l.length + 26 ≤ k) : rubricatorref01_Decode.f k l = some (itemsF l.length l 0) := by
  unfold rubricatorref01_Decode.f
  rw [ref_decode_loop l.length k l [] 0 hb (by omega) (by omega) (by omega) hk (by simp; omega) (by omega)]
  rfl

theorem getD_of_drop {α : Type} {xs t : List α} {h d : α} {n : Nat} (e : xs.drop n = h :: t) : xs.getD n d = h ∧ n < xs.length ∧ xs.drop (n + 1) = t := by
  have hn : n < xs.length := by
    rcases Nat.lt_or_ge n xs.length with q | q
    · exact q
    · rw [List.drop_eq_nil_of_le q] at e; cases e
  rw [List.drop_eq_getElem_cons hn] at e
  injection e with e1 e2
  refine ⟨?_, hn, e2⟩
  rw [List.getD_eq_getElem?_getD, List.getElem?_eq_getElem hn]
  exact e1

theorem rd39_of_drop {xs t : List S39} {h : S39} {i : Int} (h0 : 0 ≤ i) (e : xs.drop i.toNat = h :: t) : rd_T39 xs i = h ∧ i < (xs.length : Int) ∧ xs.drop (i + 1).toNat = t := by
  obtain ⟨a, b, c⟩ := getD_of_drop (d := z39) e
  exact ⟨a, by omega, by rw [show (i + 1).toNat = i.toNat + 1 from by omega]; exact c⟩

end Go.Proofs.Ytebboloogedceaa.Pure
