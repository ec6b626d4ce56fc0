/- Plain law of UtfForward: from item to item the items of Decode are met; the item ahead of the end is the last one. -/
import Derived.Test.YtobbbpkphillcaaPlain8
import Derived.Test.YtobbbpkphillcaaFwd
namespace Go.Proofs.Ytobbbpkphillcaa.Pure
open Go Go.RowKit Go.Proofs.Ytobbbpkphillcaa.PU Go.Proofs.YtobbbpkphillcaaW.PrintWords Go.Proofs.YtobbbpkphillcaaW.PrintLast Go.Proofs.YtobbbpkphillcaaW.PrintMore

theorem forward_end {l : List Int} (hb : Byt l) (hl : l.length ≤ 2000000) (k : Nat) (hk : 2 * l.length + 40 ≤ k) (xs : List S31) (i : Int) (hi : (xs.length : Int) ≤ i) :
    rubricatorlaw01_UtfForward.l0 (k + 1) l (itemsF l.length l 0) (l.length : Int) xs (xs.length : Int) i = some true := by
  rw [rubricatorlaw01_UtfForward.l0, if_neg (by omega), next_spec hb hl _ (by omega), prev_spec hb hl _ (by omega), awake_ge (by omega)]
  have hn : nextI l (l.length : Int) = (0, 0, 0, false) := by unfold nextI; rw [if_pos (.inr (by omega))]
  rw [hn]
  simp only [Option.bind_some]
  rw [if_neg (by decide)]
  by_cases h0 : l.length = 0
  · have : l = [] := List.eq_nil_of_length_eq_zero h0
    subst this
    simp [itemsF, prevI]
  · have hp := itemsF_pos (f := l.length) (b := l) (p := 0) (Nat.le_refl _) (by omega)
    have hn := itemsF_len l.length l 0
    have hq : prevI l (l.length : Int) = ((lastI (itemsF l.length l 0)).f0, (lastI (itemsF l.length l 0)).f1, (lastI (itemsF l.length l 0)).f2, true) := by
      unfold prevI
      rw [if_neg (by omega), show ((l.length : Nat) : Int).toNat = l.length from rfl, List.take_length]
    rw [hq]
    dsimp only
    rw [if_pos (by simp; omega), if_pos rfl, w64 (by omega) (by omega), if_pos (by omega), if_pos (by omega), rd31_last hp, if_pos (by simp)]

theorem forward_loop {l : List Int} (hb : Byt l) (hl : l.length ≤ 2000000) (f : Nat) : ∀ (k : Nat) (xs : List S31) (p i : Int), 0 ≤ p → p ≤ l.length → (l.length : Int) - p ≤ f → 0 ≤ i → (xs.length : Int) < 4611686018427387904 →
    xs.drop i.toNat = itemsF f (l.drop p.toNat) p → 2 * l.length + f + 42 ≤ k → rubricatorlaw01_UtfForward.l0 k l (itemsF l.length l 0) p xs (xs.length : Int) i = some true := by
  induction f with
  | zero =>
    intro k xs p i h0 h1 h2 hi hx e hk
    obtain ⟨k, rfl⟩ : ∃ m, k = m + 1 := ⟨k - 1, by omega⟩
    obtain rfl : p = l.length := by omega
    refine forward_end hb hl k (by omega) xs i ?_
    rcases Nat.lt_or_ge i.toNat xs.length with q | q
    · rw [itemsF, List.drop_eq_getElem_cons q] at e; cases e
    · omega
  | succ f ih =>
    intro k xs p i h0 h1 h2 hi hx e hk
    obtain ⟨k, rfl⟩ : ∃ m, k = m + 1 := ⟨k - 1, by omega⟩
    by_cases hp : p < (l.length : Int)
    · have hd : 0 < ((l.drop p.toNat).length : Int) := by rw [drop_len p h0 h1]; omega
      have n := dec1_n hd
      rw [drop_len p h0 h1] at n
      rw [itemsF, if_pos hd] at e
      obtain ⟨e1, e2, e3⟩ := rd31_of_drop hi e
      have hn : nextI l p = ((dec1 (l.drop p.toNat)).1, p, p + (dec1 (l.drop p.toNat)).2.1, true) := by unfold nextI; rw [if_neg (by omega)]
      rw [rubricatorlaw01_UtfForward.l0, if_pos e2, if_pos hi, if_pos e2, e1, next_spec hb hl _ (by omega), hn, Option.bind_some]
      dsimp only
      rw [if_pos rfl, if_neg (by simp), w64 (by omega) (by omega)]
      refine ih k xs _ _ (by omega) (by omega) (by omega) (by omega) hx ?_ (by omega)
      rw [e3, List.drop_drop, show (p + (dec1 (l.drop p.toNat)).2.1).toNat = p.toNat + (dec1 (l.drop p.toNat)).2.1.toNat from by omega]
    · obtain rfl : p = l.length := by omega
      refine forward_end hb hl k (by omega) xs i ?_
      have : l.drop ((l.length : Nat) : Int).toNat = [] := List.drop_eq_nil_of_le (by omega)
      rw [this, itemsF_nil] at e
      rcases Nat.lt_or_ge i.toNat xs.length with q | q
      · rw [List.drop_eq_getElem_cons q] at e; cases e
      · omega

theorem UtfForward_true (l : List Int) (hw : ∀ x ∈ l, (Lit.int .u8 x).wf = true) (hl : l.length ≤ 1048576) : ∃ k, rubricatorlaw01_UtfForward.f k l = some true := by
  have hb := byt_of hw
  refine ⟨3 * l.length + 60, ?_⟩
  unfold rubricatorlaw01_UtfForward.f
  rw [decode_spec hb (by omega) _ (by omega), Option.bind_some]
  have hn := itemsF_len l.length l 0
  exact forward_loop hb (by omega) l.length _ _ 0 0 (by omega) (by omega) (by omega) (by omega) (by omega) (by simp) (by omega)

end Go.Proofs.Ytobbbpkphillcaa.Pure
