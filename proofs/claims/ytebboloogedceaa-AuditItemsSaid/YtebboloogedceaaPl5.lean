/- Plain law of AuditEdges: both tell whether all places are edges. -/
import Derived.Test.YtebboloogedceaaPl4
import Derived.Test.YtebboloogedceaaPEL
set_option linter.unusedVariables false
namespace Go.Proofs.Ytebboloogedceaa.Pure
open Go Go.RowKit Go.Proofs.Ytebboloogedceaa.PA Go.Proofs.YtebboloogedceaaW.PrintWords Go.Proofs.YtebboloogedceaaW.PrintLast Go.Proofs.YtebboloogedceaaW.PrintMore

/-- From some number of rounds on, the answer is r. -/
def Ev {α : Type} (f : Nat → Option α) (r : α) : Prop := ∃ K, ∀ k, K ≤ k → f k = some r
theorem Ev.const {α : Type} (r : α) : Ev (fun _ => some r) r := ⟨0, fun _ _ => rfl⟩
theorem Ev.bind {α β : Type} {f : Nat → Option α} {g : Nat → α → Option β} {a : α} {r : β} (h : Ev f a) (h2 : Ev (fun k => g k a) r) : Ev (fun k => (f k).bind (g k)) r := by
  obtain ⟨K, hK⟩ := h
  obtain ⟨L, hL⟩ := h2
  refine ⟨max K L, fun k hk => ?_⟩
  have h1 := hK k (by omega)
  have h3 := hL k (by omega)
  show (f k).bind (g k) = some r
  rw [h1]; exact h3
theorem Ev.succ {α : Type} {f : Nat → Option α} {r : α} (h : Ev (fun k => f (k + 1)) r) : Ev f r := by
  obtain ⟨K, hK⟩ := h
  refine ⟨K + 1, fun k hk => ?_⟩
  obtain ⟨m, rfl⟩ : ∃ m, k = m + 1 := ⟨k - 1, by omega⟩
  exact hK m (by omega)
theorem Ev.get {α : Type} {f : Nat → Option α} {r : α} (h : Ev f r) : ∃ k, f k = some r := ⟨_, h.choose_spec _ (Nat.le_refl _)⟩
theorem Ev.pos {α : Type} {c : Prop} [Decidable c] {f g : Nat → Option α} {r : α} (hc : c) (h : Ev f r) : Ev (fun k => if c then f k else g k) r := by
  simpa only [if_pos hc] using h
theorem Ev.neg {α : Type} {c : Prop} [Decidable c] {f g : Nat → Option α} {r : α} (hc : ¬c) (h : Ev g r) : Ev (fun k => if c then f k else g k) r := by
  simpa only [if_neg hc] using h
theorem up1 {n i : Nat} (hn : n ≤ 9223372036854775807) (h : i < n) : wrap64 ((i : Int) + 1) = ((i + 1 : Nat) : Int) := by
  rw [w64 (by omega) (by omega)]; omega
theorem rdA {xs : List S39} {i : Nat} (h : i < xs.length) : rd_T39 xs (i : Int) = xs[i] := by unfold rd_T39; simp [List.getD_eq_getElem?_getD, h]
theorem rdB {xs : List S29} {i : Nat} (h : i < xs.length) : rd_T29 xs (i : Int) = xs[i] := by unfold rd_T29; simp [List.getD_eq_getElem?_getD, h]
theorem rdC {xs : List S26} {i : Nat} (h : i < xs.length) : rd_T26 xs (i : Int) = xs[i] := by unfold rd_T26; simp [List.getD_eq_getElem?_getD, h]

def edgeB (xs : List S39) (size v : Int) : Bool := decide (v = size) || xs.any (fun x => x.f1 == v)
theorem edge_loop (xs : List S39) (hx : xs.length ≤ 8000000) (v : Int) : ∀ (n i : Nat), xs.length - i = n → Ev (fun k => rubricatorref24_edge.l0 k v xs (xs.length : Int) (i : Int)) ((xs.drop i).any (fun x => x.f1 == v)) := by
  intro n
  induction n with
  | zero =>
    intro i hn
    rw [List.drop_eq_nil_of_le (by omega)]
    refine Ev.succ ?_
    simp only [rubricatorref24_edge.l0]
    exact Ev.neg (by omega) (Ev.const _)
  | succ n ih =>
    intro i hn
    have hi : i < xs.length := by omega
    refine Ev.succ ?_
    simp only [rubricatorref24_edge.l0, rdA hi, up1 (n := xs.length) (by omega) hi]
    refine Ev.pos (by omega) (Ev.pos (by omega) (Ev.pos (by omega) ?_))
    rw [List.drop_eq_getElem_cons hi, List.any_cons]
    by_cases c : xs[i].f1 = v
    · refine Ev.pos c ?_
      rw [show (xs[i].f1 == v) = true from beq_iff_eq.mpr c, Bool.true_or]
      exact Ev.const _
    · refine Ev.neg c ?_
      rw [show (xs[i].f1 == v) = false from beq_eq_false_iff_ne.mpr c, Bool.false_or]
      exact ih (i + 1) (by omega)
theorem edge_ev (xs : List S39) (hx : xs.length ≤ 8000000) (size v : Int) : Ev (fun k => rubricatorref24_edge.f k xs size v) (edgeB xs size v) := by
  unfold rubricatorref24_edge.f edgeB
  by_cases c : v = size
  · refine Ev.pos c ?_
    simp only [c, decide_true, Bool.true_or]
    exact Ev.const _
  · refine Ev.neg c ?_
    simp only [c, decide_false, Bool.false_or]
    exact edge_loop xs hx v _ 0 rfl
theorem contains_edge (xs : List S39) (size v : Int) : ([size] ++ xs.map (·.f1)).contains v = edgeB xs size v := by
  unfold edgeB
  rw [List.contains_eq_any_beq, List.any_append, List.any_map]
  simp only [List.any_cons, List.any_nil, Bool.or_false]
  congr 1
  exact Bool.eq_iff_iff.mpr (by simp; exact ⟨fun ⟨x, a, b⟩ => ⟨x, a, b.symm⟩, fun ⟨x, a, b⟩ => ⟨x, a, b.symm⟩⟩)

theorem collect {xs : List S39} (hx : xs.length ≤ 8000000) (hw : ∀ x ∈ xs, (Lit.int .i64 x.f1).wf = true) (L : List S29) {r : Bool} : ∀ (n i : Nat), xs.length - i = n → ∀ acc : List Int, acc.length + n ≤ 9000000 →
    Ev (fun k => audit_Edges.l1 k (acc ++ (xs.drop i).map (·.f1)) L (L.length : Int) 0 (-1) (-1)) r → Ev (fun k => audit_Edges.l0 k L acc xs (xs.length : Int) (i : Int)) r := by
  intro n
  induction n with
  | zero =>
    intro i hn acc ha h
    rw [List.drop_eq_nil_of_le (by omega)] at h
    simp only [List.map_nil, List.append_nil] at h
    refine Ev.succ ?_
    simp only [audit_Edges.l0]
    exact Ev.neg (by omega) h
  | succ n ih =>
    intro i hn acc ha h
    have hi : i < xs.length := by omega
    refine Ev.succ ?_
    simp only [audit_Edges.l0, rdA hi, up1 (n := xs.length) (by omega) hi]
    refine Ev.pos (by omega) (Ev.pos (by omega) (Ev.pos (by omega) (Ev.pos ⟨by omega, hw _ (List.getElem_mem hi)⟩ (ih (i + 1) (by omega) _ (by simp; omega) ?_))))
    rw [List.drop_eq_getElem_cons hi, List.map_cons] at h
    rw [List.append_assoc]
    exact h
def WfS (x : S26) : Prop := (Lit.int .i64 x.f0).wf = true ∧ (Lit.int .i64 x.f1).wf = true
def WfF (f : S29) : Prop := f.f0.length ≤ 9223372036854775807 ∧ ∀ x ∈ f.f0, WfS x

theorem inner {b : List Int} {xs : List S39} (hx : xs.length ≤ 8000000) {L : List S29} {i : Int} {sp : List S26} (hl : sp.length ≤ 9223372036854775807) (hs : ∀ x ∈ sp, WfS x)
    {r : Bool} (h1 : Ev (fun k => audit_Edges.l1 k ([(b.length : Int)] ++ xs.map (·.f1)) L (L.length : Int) (wrap64 (i + 1)) (-1) (-1)) r) (h2 : Ev (fun k => rubricatorref24_Edges.l0 k b xs L (L.length : Int) (wrap64 (i + 1))) r) :
    ∀ (n j : Nat), sp.length - j = n → ∃ r, Ev (fun k => audit_Edges.l2 k ([(b.length : Int)] ++ xs.map (·.f1)) L (L.length : Int) i sp (sp.length : Int) (j : Int) (-1) (-1)) r ∧ Ev (fun k => rubricatorref24_Edges.l1 k b xs L (L.length : Int) i sp (sp.length : Int) (j : Int)) r := by
  intro n
  induction n with
  | zero =>
    intro j hn
    refine ⟨r, Ev.succ ?_, Ev.succ ?_⟩
    · simp only [audit_Edges.l2]
      exact Ev.neg (by omega) h1
    · simp only [rubricatorref24_Edges.l1]
      exact Ev.neg (by omega) h2
  | succ n ih =>
    intro j hn
    have hj : j < sp.length := by omega
    obtain ⟨w0, w1⟩ := hs sp[j] (List.getElem_mem hj)
    obtain ⟨r', q1, q2⟩ := ih (j + 1) (by omega)
    have eA := edge_ev xs hx (b.length : Int) sp[j].f0
    have eB := edge_ev xs hx (b.length : Int) sp[j].f1
    have A : ∀ {r'' : Bool}, Ev (fun k => if (!(sp[j].f0 == (-1)) || (!(sp[j].f1 == (-1)))) = true then (if sp[j].f0 > sp[j].f1 then (some false) else (if (Lit.int .i64 sp[j].f0).wf = true then (if (([(b.length : Int)] ++ xs.map (·.f1)).contains sp[j].f0 = true) then (if (Lit.int .i64 sp[j].f1).wf = true then (if (([(b.length : Int)] ++ xs.map (·.f1)).contains sp[j].f1 = true) then (audit_Edges.l2 k ([(b.length : Int)] ++ xs.map (·.f1)) L (L.length : Int) i sp (sp.length : Int) ((j + 1 : Nat) : Int) (-1) (-1)) else (some false)) else (none)) else (some false)) else (none))) else (audit_Edges.l2 k ([(b.length : Int)] ++ xs.map (·.f1)) L (L.length : Int) i sp (sp.length : Int) ((j + 1 : Nat) : Int) (-1) (-1))) r'' → Ev (fun k => audit_Edges.l2 k ([(b.length : Int)] ++ xs.map (·.f1)) L (L.length : Int) i sp (sp.length : Int) (j : Int) (-1) (-1)) r'' := by
      intro r'' h
      refine Ev.succ ?_
      simp only [audit_Edges.l2, rdC hj, up1 hl hj]
      exact Ev.pos (by omega) (Ev.pos (by omega) (Ev.pos (by omega) h))
    have B : ∀ {r'' : Bool}, Ev (fun k => if ((sp[j].f0 == (-1)) && (sp[j].f1 == (-1))) = true then (rubricatorref24_Edges.l1 k b xs L (L.length : Int) i sp (sp.length : Int) ((j + 1 : Nat) : Int)) else (if sp[j].f0 > sp[j].f1 then (some false) else ((rubricatorref24_edge.f k xs (b.length : Int) sp[j].f0).bind fun t149 => (if t149 = true then ((rubricatorref24_edge.f k xs (b.length : Int) sp[j].f1).bind fun t150 => (if t150 = true then (rubricatorref24_Edges.l1 k b xs L (L.length : Int) i sp (sp.length : Int) ((j + 1 : Nat) : Int)) else (some false))) else (some false))))) r'' → Ev (fun k => rubricatorref24_Edges.l1 k b xs L (L.length : Int) i sp (sp.length : Int) (j : Int)) r'' := by
      intro r'' h
      refine Ev.succ ?_
      simp only [rubricatorref24_Edges.l1, rdC hj, up1 hl hj]
      exact Ev.pos (by omega) (Ev.pos (by omega) (Ev.pos (by omega) h))
    by_cases c : ((sp[j].f0 == (-1)) && (sp[j].f1 == (-1))) = true
    · exact ⟨r', A (Ev.neg (by simp at c; simp [c]) q1), B (Ev.pos c q2)⟩
    have c' : (!(sp[j].f0 == (-1)) || (!(sp[j].f1 == (-1)))) = true := by
      cases h0 : (sp[j].f0 == (-1)) <;> cases h1 : (sp[j].f1 == (-1)) <;> simp_all
    by_cases d : sp[j].f0 > sp[j].f1
    · exact ⟨false, A (Ev.pos c' (Ev.pos d (Ev.const _))), B (Ev.neg c (Ev.pos d (Ev.const _)))⟩
    cases g0 : edgeB xs (b.length : Int) sp[j].f0 with
    | false =>
      rw [g0] at eA
      exact ⟨false, A (Ev.pos c' (Ev.neg d (Ev.pos w0 (Ev.neg (by rw [contains_edge, g0]; decide) (Ev.const _))))), B (Ev.neg c (Ev.neg d (Ev.bind eA (Ev.neg (by decide) (Ev.const _)))))⟩
    | true =>
      rw [g0] at eA
      cases g1 : edgeB xs (b.length : Int) sp[j].f1 with
      | false =>
        rw [g1] at eB
        exact ⟨false, A (Ev.pos c' (Ev.neg d (Ev.pos w0 (Ev.pos (by rw [contains_edge, g0]) (Ev.pos w1 (Ev.neg (by rw [contains_edge, g1]; decide) (Ev.const _))))))), B (Ev.neg c (Ev.neg d (Ev.bind eA (Ev.pos rfl (Ev.bind eB (Ev.neg (by decide) (Ev.const _)))))))⟩
      | true =>
        rw [g1] at eB
        exact ⟨r', A (Ev.pos c' (Ev.neg d (Ev.pos w0 (Ev.pos (by rw [contains_edge, g0]) (Ev.pos w1 (Ev.pos (by rw [contains_edge, g1]) q1)))))), B (Ev.neg c (Ev.neg d (Ev.bind eA (Ev.pos rfl (Ev.bind eB (Ev.pos rfl q2))))))⟩

theorem outer {b : List Int} {xs : List S39} (hx : xs.length ≤ 8000000) {L : List S29} (hL : L.length ≤ 9223372036854775807) (hw : ∀ f ∈ L, WfF f) :
    ∀ (n i : Nat), L.length - i = n → ∃ r, Ev (fun k => audit_Edges.l1 k ([(b.length : Int)] ++ xs.map (·.f1)) L (L.length : Int) (i : Int) (-1) (-1)) r ∧ Ev (fun k => rubricatorref24_Edges.l0 k b xs L (L.length : Int) (i : Int)) r ∧ (L = [] → r = true) := by
  intro n
  induction n with
  | zero =>
    intro i hn
    refine ⟨true, Ev.succ ?_, Ev.succ ?_, fun _ => rfl⟩
    · simp only [audit_Edges.l1]
      exact Ev.neg (by omega) (Ev.const _)
    · simp only [rubricatorref24_Edges.l0]
      exact Ev.neg (by omega) (Ev.const _)
  | succ n ih =>
    intro i hn
    have hi : i < L.length := by omega
    obtain ⟨r, q1, q2, _⟩ := ih (i + 1) (by omega)
    rw [← up1 hL hi] at q1 q2
    obtain ⟨w0, w1⟩ := hw L[i] (List.getElem_mem hi)
    obtain ⟨r', p1, p2⟩ := inner hx w0 w1 q1 q2 _ 0 rfl
    refine ⟨r', Ev.succ ?_, Ev.succ ?_, fun e => by rw [e] at hi; cases hi⟩
    · simp only [audit_Edges.l1, rdB hi]
      exact Ev.pos (by omega) (Ev.pos (by omega) (Ev.pos (by omega) p1))
    · simp only [rubricatorref24_Edges.l0, rdB hi]
      exact Ev.pos (by omega) (Ev.pos (by omega) (Ev.pos (by omega) p2))
end Go.Proofs.Ytebboloogedceaa.Pure
