/- From a row of bytes, and a row of such rows, as the print tells them, to bytes.Join's words. -/
import Derived.Test.YtebboloogedceaaPA0
import Derived.Lib.SlParts
import Derived.Lib.SlFresh
namespace Go.Proofs.Ytebboloogedceaa.Bridge
open Go Go.RowKit Go.Proofs.YtebboloogedceaaW.PrintWords

def u8s (l : List Int) : List UInt8 := l.map fun x => UInt8.ofNat x.toNat
def ByL (l : List Int) : Prop := ∀ x ∈ l, 0 ≤ x ∧ x < 256
theorem u8s_len (l : List Int) : (u8s l).length = l.length := by simp [u8s]

theorem holds {w : World} {A : Option Addr} {l : List Int} {c : Nat} (h : Kd.C (Kd.int .u8) w A l.length l) (hb : ByL l) : Lib.HoldsBytes w (.slice A l.length c) (u8s l) := by
  refine ⟨A, c, by rw [u8s_len], fun hA => ?_, fun a ha i x hx => ?_⟩
  · rcases Nat.eq_zero_or_pos l.length with q | q
    · rw [List.eq_nil_of_length_eq_zero q]; rfl
    · obtain ⟨ad, e, _⟩ := h.2.2 q
      rw [hA] at e; cases e
  · have hi : i < l.length := by
      rcases Nat.lt_or_ge i l.length with q | q
      · exact q
      · rw [List.getElem?_eq_none (by rw [u8s_len]; exact q)] at hx; cases hx
    obtain ⟨ad, e, hc⟩ := h.2.2 (by omega)
    rw [ha] at e
    cases e
    obtain ⟨cs, _, hk, hcell⟩ := hc i l[i] (List.getElem?_eq_getElem hi)
    have hk' : cs = [.int .u8 l[i]] := hk
    subst hk'
    have q := hcell 0 _ rfl
    have hx' : UInt8.ofNat (l[i]).toNat = x := by
      simp [u8s, hi] at hx
      exact hx
    obtain ⟨b0, b1⟩ := hb l[i] (List.getElem_mem hi)
    have : ((x.toNat : Nat) : Int) = l[i] := by
      rw [← hx']
      simp
      omega
    rw [this]
    have e1 : i * (Kd.int IntKind.u8).sz + 0 = i := by show i * 1 + 0 = i; omega
    rw [e1] at q
    exact q

/-- A row of rows of bytes. -/
theorem parts {w : World} {ad : Addr} {ls : List (List Int)} (h : Kd.C (Kd.slice 5 (Kd.int .u8)) w (some ad) ls.length ls) (hb : ∀ l ∈ ls, ByL l) : ∃ vs, Lib.PartsAt w ad vs (ls.map u8s) := by
  have key : ∀ i, i < ls.length → ∃ v, w.cell? (ad.add i) = some v ∧ ∀ l, ls[i]? = some l → Lib.HoldsBytes w v (u8s l) := by
    intro i hi
    obtain ⟨ad', e, hc⟩ := h.2.2 (by omega)
    cases e
    obtain ⟨cs, _, ⟨A, c, e2, hl, hC⟩, hcell⟩ := hc i ls[i] (List.getElem?_eq_getElem hi)
    subst e2
    have q := hcell 0 _ rfl
    have e1 : i * (Kd.slice 5 (Kd.int IntKind.u8)).sz + 0 = i := by show i * 1 + 0 = i; omega
    rw [e1] at q
    refine ⟨_, q, fun l hl' => ?_⟩
    rw [List.getElem?_eq_getElem hi] at hl'
    cases hl'
    exact holds hC (hb _ (List.getElem_mem hi))
  have build : ∀ n, n ≤ ls.length → ∃ vs : List Value, vs.length = n ∧ ∀ i v, vs[i]? = some v → w.cell? (ad.add i) = some v ∧ ∀ l, ls[i]? = some l → Lib.HoldsBytes w v (u8s l) := by
    intro n
    induction n with
    | zero => intro _; exact ⟨[], rfl, fun i v h => by simp at h⟩
    | succ n ih =>
      intro hn
      obtain ⟨vs, hl, hv⟩ := ih (by omega)
      obtain ⟨v, k1, k2⟩ := key n (by omega)
      refine ⟨vs ++ [v], by simp [hl], fun i u hu => ?_⟩
      rcases Nat.lt_or_ge i vs.length with q | q
      · rw [List.getElem?_append_left q] at hu; exact hv i u hu
      · rw [List.getElem?_append_right q] at hu
        by_cases e : i = vs.length
        · subst e
          simp at hu
          subst hu
          rw [hl]; exact ⟨k1, k2⟩
        · obtain ⟨m, hm⟩ : ∃ m, i - vs.length = m + 1 := ⟨i - vs.length - 1, by omega⟩
          rw [hm] at hu; simp at hu
  obtain ⟨vs, hl, hv⟩ := build ls.length (Nat.le_refl _)
  refine ⟨vs, by simp [hl], fun i v h => (hv i v h).1, fun i v l h1 h2 => ?_⟩
  rw [List.getElem?_map] at h2
  obtain ⟨l', e1, e2⟩ := Option.map_eq_some_iff.mp h2
  subst e2
  exact (hv i v h1).2 l' e1

theorem u8s_inj {a b : List Int} (ha : ByL a) (hb : ByL b) (h : u8s a = u8s b) : a = b := by
  apply List.ext_getElem
  · have := congrArg List.length h; rwa [u8s_len, u8s_len] at this
  · intro i h1 h2
    have e : (u8s a)[i]? = (u8s b)[i]? := by rw [h]
    simp [u8s, h1, h2] at e
    have e2 := congrArg UInt8.toNat e
    obtain ⟨p0, p1⟩ := ha a[i] (List.getElem_mem h1)
    obtain ⟨q0, q1⟩ := hb b[i] (List.getElem_mem h2)
    simp at e2
    omega

/-- What bytes.Join hands back, as a row that is read. -/
theorem fresh {B : Nat} {w : World} {v : Value} {l : List UInt8} {ints : List Int} (h : Lib.FreshBytes B w v l) (hl : u8s ints = l) (hb : ByL ints) (hm : ints.length ≤ 9223372036854775807) :
    ∃ A c, v = .slice A ints.length c ∧ ints.length ≤ c ∧ Kd.C (Kd.int .u8) w A ints.length ints := by
  obtain ⟨g, cap, zs, rfl, _, h1, h2, h3, h4, h5, h6, _⟩ := h
  have hlen : l.length = ints.length := by rw [← hl, u8s_len]
  have e : zs.take l.length = ints := by
    refine u8s_inj (fun x hx => h4 x (List.mem_of_mem_take hx)) hb ?_
    rw [hl]
    exact h5
  refine ⟨some ⟨g, 0, none⟩, cap, by rw [hlen], by omega, rfl, hm, fun _ => ⟨_, rfl, fun j p hj => ⟨[.int .u8 p], rfl, rfl, fun q u hq => ?_⟩⟩⟩
  have hj' : j < ints.length := by
    rcases Nat.lt_or_ge j ints.length with q | q
    · exact q
    · rw [List.getElem?_eq_none q] at hj; cases hj
  match q with
  | 0 =>
    simp at hq
    subst hq
    have c := h6 j (by omega)
    have e3 : zs.getD j 0 = p := by
      rw [← e, List.getElem?_take_of_lt (by omega)] at hj
      rw [List.getD_eq_getElem?_getD, hj]; rfl
    rw [e3] at c
    have e1 : j * (Kd.int IntKind.u8).sz + 0 = j := by show j * 1 + 0 = j; omega
    rw [e1]
    rw [show ((⟨g, 0, none⟩ : Addr).add j) = ⟨g, j, none⟩ from by cases j <;> simp [Addr.add]]
    exact c
  | q + 1 => simp at hq
end Go.Proofs.Ytebboloogedceaa.Bridge
