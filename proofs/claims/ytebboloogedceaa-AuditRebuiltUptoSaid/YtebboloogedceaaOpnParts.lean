/- How the argument [][]byte of AuditRebuilt is read, its parts no larger than the whole datum's bulk. -/
import Derived.Test.YtebboloogedceaaOpens
import Derived.Test.YtebboloogedceaaOpnEdges
import Derived.Test.YtebboloogedceaaBulk
namespace Go.Proofs.Ytebboloogedceaa.OpnParts
open Go Go.ChangeShapes Go.Proofs.Ytebboloogedceaa.opens Go.Proofs.Ytebboloogedceaa.PA Go.Proofs.YtebboloogedceaaW.PrintWords
def PartOk (l : List Int) : Prop := (∀ x ∈ l, (Lit.int .u8 x).wf = true) ∧ l.length ≤ 1048576
theorem opn32 : Opn Try.prog 32 (Kd.slice 5 (Kd.int .u8)) (fun xs => ∀ x ∈ xs, (Lit.int .u8 x).wf = true) := opn_slice Try.underlying32 (by kernel_rfl) (opn_int Try.underlying5)
theorem part {H : Type} (enc : TypeId × Value → H) (w : World) (base : Nat) (spare : Nat → Bool) (held : Bool) (fuel : Nat) (cs : List Value) (x : DataW H × List MemPlace)
    (h : DataW.trod enc Try.prog w base spare held fuel 32 cs = some x) (hb : Rows.uptoBulk x.1 ≤ 1048576) : ∃ v, (Kd.slice 5 (Kd.int .u8)).K w v cs ∧ PartOk v := by
  obtain ⟨v, hk, hg⟩ := opn32 enc w base spare held fuel cs x h
  refine ⟨v, hk, hg, ?_⟩
  obtain ⟨A, c, hcs, hl, hC⟩ := hk
  rcases Go.Deep.open_slice Try.underlying32 h with ⟨e, _⟩ | ⟨a, l, c', m, n, D, Pl, e, _, _, _, _, hx, _⟩
  · rw [e] at hcs
    injection hcs with hcs
    injection hcs with _ q _
    omega
  · rw [e] at hcs
    injection hcs with hcs
    injection hcs with _ q _
    subst hx
    have := bulks.slice_le ((List.range l).map D) ((List.range (m - l)).map fun j => D (l + j))
    simp only [List.length_map, List.length_range] at this
    dsimp only at hb
    omega
theorem opnParts {H : Type} (enc : TypeId × Value → H) (w : World) (base : Nat) (spare : Nat → Bool) (held : Bool) (fuel : Nat) (cs : List Value) (x : DataW H × List MemPlace)
    (h : DataW.trod enc Try.prog w base spare held fuel 34 cs = some x) (hb : Rows.uptoBulk x.1 ≤ 1048576) : ∃ v, (Kd.slice 32 (Kd.slice 5 (Kd.int .u8))).K w v cs ∧ ∀ l ∈ v, PartOk l := by
  rcases Go.Deep.open_slice Try.underlying34 h with ⟨rfl, _⟩ | ⟨a, len, cap, m, n, D, Pl, rfl, _, hl, hm, hmm, hx0, hx⟩
  · exact ⟨[], ⟨none, 0, rfl, Nat.le_refl _, Kd.C_nil _ w⟩, fun x hx => by cases hx⟩
  · have hlm : len ≤ m := by rw [hmm]; split <;> omega
    have hd : ∀ i, i < len → Rows.uptoBulk (D i) ≤ 1048576 := by
      intro i hi
      subst hx0
      have h1 := bulks.slice_elems ((List.range len).map D) ((List.range (m - len)).map fun j => D (len + j))
      have h2 := bulks.part_le (d := D i) (l := (List.range len).map D) (List.mem_map.2 ⟨i, List.mem_range.2 hi, rfl⟩)
      dsimp only at hb
      omega
    obtain ⟨xs, hxl, hxs⟩ := choose_list (p := fun i v => PartOk v ∧ ∃ c, c.length = 1 ∧ (Kd.slice 5 (Kd.int .u8)).K w v c ∧ ∀ j u, c[j]? = some u → w.cell? (a.add (i * 1 + j)) = some u) len (fun i hi => by
      obtain ⟨cs', h1, h2⟩ := hx i (by omega)
      obtain ⟨v, hk, hg⟩ := part enc w base spare held n cs' _ h2 (hd i hi)
      have hc : Try.prog.cellsOf 32 = 1 := by kernel_rfl
      rw [hc] at h1
      obtain ⟨_, hlen, hcell⟩ := World.cells?_some h1
      refine ⟨v, hg, cs', hlen, hk, fun j u hj => ?_⟩
      have hj' : j < cs'.length := by
        rcases Nat.lt_or_ge j cs'.length with q | q
        · exact q
        · rw [List.getElem?_eq_none q] at hj; cases hj
      have := hcell j (by omega)
      rw [hj] at this
      rw [← Go.Deep.add_add]; exact this)
    refine ⟨xs, ⟨some a, cap, by rw [hxl], by omega, ?_⟩, fun x hx => ?_⟩
    · refine ⟨rfl, by rw [hxl]; exact Nat.le_trans hl hm, fun _ => ⟨a, rfl, fun j p hj => ?_⟩⟩
      obtain ⟨_, c, hcl, hk, hcell⟩ := hxs j p hj
      exact ⟨c, hcl, hk, hcell⟩
    · obtain ⟨i, hi⟩ := List.getElem?_of_mem hx
      exact (hxs i x hi).1
end Go.Proofs.Ytebboloogedceaa.OpnParts
