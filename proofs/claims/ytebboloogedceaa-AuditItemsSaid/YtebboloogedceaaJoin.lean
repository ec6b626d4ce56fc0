/- bytes.Join with no separator, of one part or more: the parts one behind the other. -/
import Derived.Test.YtebboloogedceaaBridge
import Derived.Test.YtebboloogedceaaLayJoin
namespace Go.Proofs.Ytebboloogedceaa.Bridge
open Go Go.RowKit Go.Proofs Go.Shelf Go.Proofs.YtebboloogedceaaW.PrintWords

theorem join_flat (ls : List (List Int)) : Lib.join (ls.map u8s) [] = u8s ls.flatten := by
  have h : ∀ xs : List (List UInt8), ([] : List UInt8).intercalate xs = xs.flatten := by
    intro xs
    induction xs with
    | nil => rfl
    | cons x r ih =>
      cases r with
      | nil => simp [List.intercalate]
      | cons y t => simp [List.intercalate, List.intersperse] at ih ⊢; rw [ih]
  show ([] : List UInt8).intercalate _ = _
  rw [h]
  simp [u8s, List.map_flatten]
  rfl
theorem lens_flat (ls : List (List Int)) : Lib.lens (ls.map u8s) = ls.flatten.length := by
  unfold Lib.lens
  rw [List.map_map, List.length_flatten]
  congr 1
  exact List.map_congr_left fun l _ => u8s_len l
theorem by_flat {ls : List (List Int)} (hb : ∀ l ∈ ls, ByL l) : ByL ls.flatten := fun x hx => by
  obtain ⟨l, h1, h2⟩ := List.mem_flatten.mp hx
  exact hb l h1 x h2

theorem join_many (ls : List (List Int)) (b o c : Nat) (w : World) (hC : Kd.C (Kd.slice 5 (Kd.int .u8)) w (some ⟨b, o, none⟩) ls.length ls) (hc : ls.length ≤ c) (hb : ∀ l ∈ ls, ByL l) (h2 : 2 ≤ ls.length) (hn : ls.length ≤ 140737488355328) (hlen : ls.flatten.length ≤ 140737488355328) :
    Calls Try.prog 21 #[.slice (some ⟨b, o, none⟩) ls.length c, .slice none 0 0] w fun e w' => ∃ A c', e = .returned (.slice A ls.flatten.length c') ∧ ls.flatten.length ≤ c' ∧ Kd.C (Kd.int .u8) w' A ls.flatten.length ls.flatten ∧ Below w.heap.size w w' := by
  obtain ⟨vs, hP⟩ := parts hC hb
  have hS : Lib.HoldsBytes w (.slice none 0 0) [] := ⟨none, 0, rfl, fun _ => rfl, fun a ha => by cases ha⟩
  refine (Any.bytes_Join_many Try.laysJoin b o ls.length c vs (ls.map u8s) (.slice none 0 0) [] w (by simp) h2 hP hc hS hn (by rw [lens_flat]; simpa using hlen)).mono ?_
  rintro e w' ⟨v', rfl, hF, hB⟩
  obtain ⟨A, c', rfl, k1, k2⟩ := fresh hF (join_flat ls).symm (by_flat hb) (by omega)
  exact ⟨A, c', rfl, k1, k2, hB⟩

theorem join_one (l : List Int) (b o c : Nat) (w : World) (hC : Kd.C (Kd.slice 5 (Kd.int .u8)) w (some ⟨b, o, none⟩) 1 [l]) (hb : ByL l) (hlen : l.length ≤ 140737488355328) :
    Calls Try.prog 21 #[.slice (some ⟨b, o, none⟩) 1 c, .slice none 0 0] w fun e w' => ∃ A c', e = .returned (.slice A l.length c') ∧ l.length ≤ c' ∧ Kd.C (Kd.int .u8) w' A l.length l ∧ Below w.heap.size w w' := by
  obtain ⟨vs, hP⟩ := parts (ls := [l]) hC (fun x hx => by simp at hx; rw [hx]; exact hb)
  obtain ⟨p, cap, l', e1, hcell, hnone, hsome⟩ := hP.get 0 (by simp)
  simp at e1
  subst e1
  have hcell' : w.cell? ⟨b, o, none⟩ = some (.slice p (u8s l).length cap) := by simpa [Addr.add] using hcell
  rcases Nat.eq_zero_or_pos l.length with q | q
  · have hl : l = [] := List.eq_nil_of_length_eq_zero q
    subst hl
    refine (Any.bytes_Join_one_empty Try.laysJoin b o c p cap (.slice none 0 0) w hcell').mono ?_
    rintro e w' ⟨rfl, rfl⟩
    exact ⟨none, 0, rfl, Nat.le_refl _, Kd.C_nil _ _, Below.refl _ _⟩
  · cases p with
    | none => have := hnone rfl; rw [← List.length_eq_zero_iff, u8s_len] at this; omega
    | some ad0 =>
      refine (Any.bytes_Join_one Try.laysJoin b o c ad0 cap (u8s l) (.slice none 0 0) w hcell' (hsome ad0 rfl) (by rw [u8s_len]; exact q) (by rw [u8s_len]; exact hlen)).mono ?_
      rintro e w' ⟨v', rfl, hF, hB⟩
      obtain ⟨A, c', rfl, k1, k2⟩ := fresh hF rfl hb (by omega)
      exact ⟨A, c', rfl, k1, k2, hB⟩
end Go.Proofs.Ytebboloogedceaa.Bridge
