/- How an argument api.Node is read: cells of a node, and no list in it longer than a slice can be. -/
import Derived.Test.YtimckmfgjpcigaaOpens
import Derived.Test.YtimckmfgjpcigaaPlain4j
namespace Go.Proofs.Ytimckmfgjpcigaa.OpnNode
open Go Go.ChangeShapes Go.WideShapes Go.Proofs Go.Proofs.Ytimckmfgjpcigaa Go.Proofs.Ytimckmfgjpcigaa.opens Go.Proofs.Ytimckmfgjpcigaa.PW Go.Proofs.Ytimckmfgjpcigaa.Plain Go.Proofs.YtimckmfgjpcigaaW.PrintWords

/-- The same, for readings of fewer rounds than N. -/
def OpnN (P : Program) (t : TypeId) {α : Type} (d : Kd α) (N : Nat) : Prop :=
  ∀ {H : Type} (enc : TypeId × Value → H) (w : World) (base : Nat) (spare : Nat → Bool) (held : Bool) (fuel : Nat) (cs : List Value) (x : DataW H × List MemPlace),
    fuel < N → DataW.trod enc P w base spare held fuel t cs = some x → ∃ v, d.K w v cs

theorem opnN_slice {P : Program} {t e : TypeId} {α : Type} {d : Kd α} {N : Nat} (ht : P.underlying t = some (.slice e)) (hc : P.cellsOf e = d.sz) (h0 : OpnN P e d N) : OpnN P t (Kd.slice e d) (N + 1) := by
  intro H enc w base spare held fuel cs x hN h
  rcases DataW.trod_slice ht h with ⟨rfl, _⟩ | ⟨a, len, cap, elems, rest, n, rfl, rfl, _, _, hl, hm, hlen, hel, _, _⟩
  · exact ⟨[], ⟨none, 0, rfl, Nat.le_refl _, Kd.C_nil d w⟩⟩
  · obtain ⟨xs, hxl, hxs⟩ := choose_list (p := fun i v => ∃ c, c.length = d.sz ∧ d.K w v c ∧ ∀ j u, c[j]? = some u → w.cell? (a.add (i * d.sz + j)) = some u) len (fun i hi => by
      have k := hel i hi
      rw [List.getElem?_eq_getElem (by omega)] at k
      obtain ⟨cs', h1, h2⟩ := Option.bind_eq_some_iff.1 k
      obtain ⟨v, hk⟩ := h0 enc w base spare held n cs' _ (by omega) h2
      rw [hc] at h1
      obtain ⟨_, hlen', hcell⟩ := World.cells?_some h1
      refine ⟨v, cs', hlen', hk, fun j u hj => ?_⟩
      have hj' : j < cs'.length := by
        rcases Nat.lt_or_ge j cs'.length with q | q
        · exact q
        · rw [List.getElem?_eq_none q] at hj; cases hj
      have := hcell j (by omega)
      rw [hj] at this
      rw [← Go.Deep.add_add]; exact this)
    refine ⟨xs, ⟨some a, cap, by rw [hxl], by omega, ?_⟩⟩
    refine ⟨rfl, by rw [hxl]; exact Nat.le_trans hl hm, fun _ => ⟨a, rfl, fun j p hj => ?_⟩⟩
    obtain ⟨c, hcl, hk, hcell⟩ := hxs j p hj
    exact ⟨c, hcl, hk, hcell⟩

theorem list8 {α : Type} {l : List α} (h : l.length = 8) : ∃ a b c d e f g i, l = [a, b, c, d, e, f, g, i] := by
  match l, h with
  | [a, b, c, d, e, f, g, i], _ => exact ⟨a, b, c, d, e, f, g, i, rfl⟩

theorem opn59 : Opn Try.prog 59 k59 (fun b => (Lit.int .i64 b.f0).wf = true ∧ (Lit.int .i64 b.f1).wf = true) :=
  opn_struct2 (f := fun x : S59 => (x.f0, x.f1)) (fun a => ⟨a.1, a.2⟩) (fun _ => rfl) Try.underlying59 rfl (by kernel_rfl) (by kernel_rfl) (opn_int Try.underlying3) (opn_int Try.underlying3)
theorem opn22 : Opn Try.prog 22 (Kd.slice 59 k59) (fun xs => ∀ x ∈ xs, (Lit.int .i64 x.f0).wf = true ∧ (Lit.int .i64 x.f1).wf = true) := opn_slice Try.underlying22 (by kernel_rfl) opn59

theorem c3 : Try.prog.cellsOf 3 = 1 := by kernel_rfl
theorem c4 : Try.prog.cellsOf 4 = 1 := by kernel_rfl
theorem c9 : Try.prog.cellsOf 9 = 1 := by kernel_rfl
theorem c22 : Try.prog.cellsOf 22 = 1 := by kernel_rfl
theorem c23 : Try.prog.cellsOf 23 = 1 := by kernel_rfl
theorem c25 : Try.prog.cellsOf 25 = 8 := by kernel_rfl

theorem opnN25 : ∀ N, OpnN Try.prog 25 k25 N := by
  intro N
  induction N with
  | zero => intro H enc w base spare held fuel cs x hN; omega
  | succ N ih =>
    intro H enc w base spare held fuel cs x hN h
    obtain ⟨xs, n, rfl, _, hl, hlen, hf⟩ := DataW.trod_struct Try.underlying25 h
    obtain ⟨y0, y1, y2, y3, y4, y5, y6, y7, rfl⟩ := list8 (hlen.trans rfl)
    obtain ⟨v0, v1, v2, v3, v4, v5, v6, v7, rfl⟩ := list8 (hl.trans c25)
    have h0 : DataW.trod enc Try.prog w base spare held n 3 [v0] = some y0 := by have := hf 0 _ rfl; simpa [c3] using this
    have h1 : DataW.trod enc Try.prog w base spare held n 3 [v1] = some y1 := by have := hf 1 _ rfl; simpa [c3] using this
    have h2 : DataW.trod enc Try.prog w base spare held n 3 [v2] = some y2 := by have := hf 2 _ rfl; simpa [c3] using this
    have h3 : DataW.trod enc Try.prog w base spare held n 3 [v3] = some y3 := by have := hf 3 _ rfl; simpa [c3] using this
    have h4 : DataW.trod enc Try.prog w base spare held n 4 [v4] = some y4 := by have := hf 4 _ rfl; simpa [c4] using this
    have h5 : DataW.trod enc Try.prog w base spare held n 9 [v5] = some y5 := by have := hf 5 _ rfl; simpa [c9] using this
    have h6 : DataW.trod enc Try.prog w base spare held n 22 [v6] = some y6 := by have := hf 6 _ rfl; simpa [c22] using this
    have h7 : DataW.trod enc Try.prog w base spare held n 23 [v7] = some y7 := by have := hf 7 _ rfl; simpa [c23] using this
    obtain ⟨a0, e0, _⟩ := DataW.trod_int Try.underlying3 h0
    obtain ⟨a1, e1, _⟩ := DataW.trod_int Try.underlying3 h1
    obtain ⟨a2, e2, _⟩ := DataW.trod_int Try.underlying3 h2
    obtain ⟨a3, e3, _⟩ := DataW.trod_int Try.underlying3 h3
    obtain ⟨a4, e4, _⟩ := DataW.trod_bool Try.underlying4 h4
    obtain ⟨a5, e5, _⟩ := DataW.trod_string Try.underlying9 h5
    obtain ⟨l6, ⟨A6, c6, e6, m6, g6⟩, _⟩ := opn22 enc w base spare held n _ _ h6
    obtain ⟨l7, A7, c7, e7, m7, g7⟩ := opnN_slice (N := N) Try.underlying23 (by kernel_rfl) ih enc w base spare held n _ _ (by omega) h7
    simp only [List.cons.injEq, and_true] at e0 e1 e2 e3 e4 e5 e6 e7
    subst e0 e1 e2 e3 e4 e5 e6 e7
    exact ⟨⟨a0, a1, a2, a3, a4, a5, l6, l7⟩, k25_mk w ⟨a0, a1, a2, a3, a4, a5, l6, l7⟩ m6 g6 m7 g7⟩

theorem gd_of (n : Nat) : ∀ (x : S25), SizeOf.sizeOf x < n → ∀ (w : World) (cs : List Value), k25.K w x cs → Gd x := by
  induction n with
  | zero => intro x h; omega
  | succ n ih =>
    intro x hx w cs hk
    obtain ⟨A6, c6, A7, c7, _, _, _, _, g7⟩ := k25_open hk
    refine Gd.mk x g7.2.1 fun y hy => ?_
    obtain ⟨i, hi⟩ := List.getElem?_of_mem hy
    have hl : 0 < x.f7.length := List.length_pos_of_mem hy
    obtain ⟨ad, _, hc⟩ := g7.2.2 hl
    obtain ⟨c, _, hk', _⟩ := hc i y hi
    refine ih y ?_ w c hk'
    have := List.sizeOf_lt_of_mem hy
    have e : SizeOf.sizeOf x.f7 < SizeOf.sizeOf x := by cases x; simp; omega
    omega

/-- A node that is read from memory. -/
theorem opn25 {H : Type} (enc : TypeId × Value → H) (w : World) (base : Nat) (spare : Nat → Bool) (held : Bool) (fuel : Nat) (cs : List Value) (x : DataW H × List MemPlace) (h : DataW.trod enc Try.prog w base spare held fuel 25 cs = some x) :
    ∃ (v : S25) (A6 : Option Addr) (c6 : Nat) (A7 : Option Addr) (c7 : Nat), Gd v ∧ cs = [.int .i64 v.f0, .int .i64 v.f1, .int .i64 v.f2, .int .i64 v.f3, .bool v.f4, .string v.f5, .slice A6 v.f6.length c6, .slice A7 v.f7.length c7] ∧
      v.f6.length ≤ c6 ∧ k59.C w A6 v.f6.length v.f6 ∧ v.f7.length ≤ c7 ∧ k25.C w A7 v.f7.length v.f7 := by
  obtain ⟨v, hk⟩ := opnN25 (fuel + 1) enc w base spare held fuel cs x (by omega) h
  obtain ⟨A6, c6, A7, c7, e, m6, g6, m7, g7⟩ := k25_open hk
  exact ⟨v, A6, c6, A7, c7, gd_of _ v (Nat.lt_succ_self _) w cs hk, e, m6, g6, m7, g7⟩
theorem heap59 : Kd.Heap k59 := Kd.heap_iso _ (Kd.heap_pair (Kd.heap_int _) (Kd.heap_int _))
theorem heap25 : Kd.Heap k25 := Kd.heap_fix (fun _ hd => Kd.heap_iso _ (Kd.heap_pair (Kd.heap_int _) (Kd.heap_pair (Kd.heap_int _) (Kd.heap_pair (Kd.heap_int _) (Kd.heap_pair (Kd.heap_int _) (Kd.heap_pair Kd.heap_bool (Kd.heap_pair Kd.heap_string (Kd.heap_pair (Kd.heap_slice 59 heap59) (Kd.heap_slice 25 hd)))))))))
end Go.Proofs.Ytimckmfgjpcigaa.OpnNode
