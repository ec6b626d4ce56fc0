/- What an argument's reading gives of its cells, kind by kind (for arguments that are slices of structs and the like): no program in sight. -/
import Derived.Test.YtebboloogedceaaWWords
import Derived.Deep.Slices
import Derived.Deep.Strs
import Derived.ChangeArms
import Derived.ChangeSame
namespace Go.Proofs.Ytebboloogedceaa.opens
open Go Go.ChangeShapes Go.Proofs.YtebboloogedceaaW.PrintWords

/-- Whatever reads as a datum of type t has the cells of a value of kind d that meets G. -/
def Opn (P : Program) (t : TypeId) {α : Type} (d : Kd α) (G : α → Prop) : Prop :=
  ∀ {H : Type} (enc : TypeId × Value → H) (w : World) (base : Nat) (spare : Nat → Bool) (held : Bool) (fuel : Nat) (cs : List Value) (x : DataW H × List MemPlace),
    DataW.trod enc P w base spare held fuel t cs = some x → ∃ v, d.K w v cs ∧ G v

theorem opn_int {P : Program} {t : TypeId} {k : IntKind} (ht : P.underlying t = some (.int k)) : Opn P t (Kd.int k) (fun n => (Lit.int k n).wf = true) := by
  intro H enc w base spare held fuel cs x h
  obtain ⟨n, rfl, _, hw⟩ := DataW.trod_int ht h
  exact ⟨n, rfl, hw⟩

theorem opn_bool {P : Program} {t : TypeId} (ht : P.underlying t = some .bool) : Opn P t Kd.bool (fun _ => True) := by
  intro H enc w base spare held fuel cs x h
  obtain ⟨n, rfl, _⟩ := DataW.trod_bool ht h
  exact ⟨n, rfl, trivial⟩

theorem choose_list {α : Type} {p : Nat → α → Prop} (n : Nat) (h : ∀ i, i < n → ∃ x, p i x) : ∃ xs : List α, xs.length = n ∧ ∀ i x, xs[i]? = some x → p i x := by
  induction n with
  | zero => exact ⟨[], rfl, fun i x h => by simp at h⟩
  | succ n ih =>
    obtain ⟨xs, hl, hx⟩ := ih (fun i hi => h i (by omega))
    obtain ⟨y, hy⟩ := h n (by omega)
    refine ⟨xs ++ [y], by simp [hl], fun i x hi => ?_⟩
    rcases Nat.lt_or_ge i xs.length with q | q
    · rw [List.getElem?_append_left q] at hi; exact hx i x hi
    · rw [List.getElem?_append_right q] at hi
      by_cases e : i = xs.length
      · subst e
        rw [Nat.sub_self] at hi
        simp only [List.getElem?_cons_zero, Option.some.injEq] at hi
        subst hi
        rw [hl]; exact hy
      · obtain ⟨m, hm⟩ : ∃ m, i - xs.length = m + 1 := ⟨i - xs.length - 1, by omega⟩
        rw [hm] at hi
        simp at hi

theorem opn_slice {P : Program} {t e : TypeId} {α : Type} {d : Kd α} {G : α → Prop} (ht : P.underlying t = some (.slice e)) (hc : P.cellsOf e = d.sz) (h0 : Opn P e d G) :
    Opn P t (Kd.slice e d) (fun xs => ∀ x ∈ xs, G x) := by
  intro H enc w base spare held fuel cs x h
  rcases Go.Deep.open_slice ht h with ⟨rfl, _⟩ | ⟨a, len, cap, m, n, D, Pl, rfl, _, hl, hm, hmm, _, hx⟩
  · exact ⟨[], ⟨none, 0, rfl, Nat.le_refl _, Kd.C_nil d w⟩, fun x hx => by cases hx⟩
  · have hlm : len ≤ m := by rw [hmm]; split <;> omega
    obtain ⟨xs, hxl, hxs⟩ := choose_list (p := fun i v => G v ∧ ∃ c, c.length = d.sz ∧ d.K w v c ∧ ∀ j u, c[j]? = some u → w.cell? (a.add (i * d.sz + j)) = some u) len (fun i hi => by
      obtain ⟨cs', h1, h2⟩ := hx i (by omega)
      obtain ⟨v, hk, hg⟩ := h0 enc w base spare held n cs' _ h2
      rw [hc] at h1
      obtain ⟨_, hlen, hcell⟩ := World.cells?_some h1
      refine ⟨v, hg, cs', hlen, hk, fun j u hj => ?_⟩
      have hj' : j < cs'.length := by
        rcases Nat.lt_or_ge j cs'.length with q | q
        · exact q
        · rw [List.getElem?_eq_none q] at hj; cases hj
      have := hcell j (by omega)
      rw [hj] at this
      rw [← Go.Deep.add_add]; exact this)
    refine ⟨xs, ⟨some a, cap, by rw [hxl], by omega, ?_⟩, fun x hx => ?_⟩
    · refine ⟨rfl, by rw [hxl]; exact Nat.le_trans hl hm, fun _ => ⟨a, rfl, fun j p hj => ?_⟩⟩
      obtain ⟨_, c, hcl, hk, hcell⟩ := hxs j p hj
      exact ⟨c, hcl, hk, hcell⟩
    · obtain ⟨i, hi⟩ := List.getElem?_of_mem hx
      exact (hxs i x hi).1

theorem opn_struct1 {P : Program} {t : TypeId} {f0 : Field} {α β : Type} {d0 : Kd α} {G : α → Prop} {f : β → α} (g : α → β) (hfg : ∀ a, f (g a) = a) (ht : P.underlying t = some (.struct #[f0])) (ho : f0.offset = 0) (hc : P.cellsOf t = P.cellsOf f0.type) (h0 : Opn P f0.type d0 G) :
    Opn P t (Kd.iso d0 f) (fun b => G (f b)) := by
  intro H enc w base spare held fuel cs x h
  obtain ⟨y0, n, _, hl, hy⟩ := trod_struct1 ht h
  rw [ho, List.drop_zero, List.take_of_length_le (by omega)] at hy
  obtain ⟨v, hk, hg⟩ := h0 enc w base spare held n cs _ hy
  exact ⟨g v, by show d0.K w (f (g v)) cs; rw [hfg]; exact hk, by show G (f (g v)); rw [hfg]; exact hg⟩

theorem opn_struct2 {P : Program} {t : TypeId} {f0 f1 : Field} {α β γ : Type} {d0 : Kd α} {d1 : Kd β} {G0 : α → Prop} {G1 : β → Prop} {f : γ → α × β} (g : α × β → γ) (hfg : ∀ a, f (g a) = a)
    (ht : P.underlying t = some (.struct #[f0, f1])) (ho : f0.offset = 0) (ho1 : f1.offset = P.cellsOf f0.type) (hc : P.cellsOf t = P.cellsOf f0.type + P.cellsOf f1.type) (h0 : Opn P f0.type d0 G0) (h1 : Opn P f1.type d1 G1) :
    Opn P t (Kd.iso (Kd.pair d0 d1) f) (fun b => G0 (f b).1 ∧ G1 (f b).2) := by
  intro H enc w base spare held fuel cs x h
  obtain ⟨y0, y1, n, _, hl, hy0, hy1⟩ := trod_struct2 ht h
  rw [ho, List.drop_zero] at hy0
  rw [ho1, List.take_of_length_le (by rw [List.length_drop]; omega)] at hy1
  obtain ⟨v0, hk0, hg0⟩ := h0 enc w base spare held n _ _ hy0
  obtain ⟨v1, hk1, hg1⟩ := h1 enc w base spare held n _ _ hy1
  refine ⟨g (v0, v1), ?_, ?_⟩
  · show (Kd.pair d0 d1).K w (f (g (v0, v1))) cs
    rw [hfg]
    exact ⟨_, _, (List.take_append_drop (P.cellsOf f0.type) cs).symm, hk0, hk1⟩
  · show G0 (f (g (v0, v1))).1 ∧ G1 (f (g (v0, v1))).2
    rw [hfg]; exact ⟨hg0, hg1⟩

end Go.Proofs.Ytebboloogedceaa.opens
