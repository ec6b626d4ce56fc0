/- Plain law of AuditEdges, the end. -/
import Derived.Test.YtebboloogedceaaPl5
set_option linter.unusedVariables false
namespace Go.Proofs.Ytebboloogedceaa.Pure
open Go Go.RowKit Go.Proofs.Ytebboloogedceaa.PA Go.Proofs.YtebboloogedceaaW.PrintWords Go.Proofs.YtebboloogedceaaW.PrintLast Go.Proofs.YtebboloogedceaaW.PrintMore

theorem itemsF_bd (f : Nat) : ∀ (b : List Int) (p : Int), b.length ≤ f → ∀ x ∈ itemsF f b p, p ≤ x.f1 ∧ x.f1 ≤ x.f2 ∧ x.f2 ≤ p + b.length := by
  induction f with
  | zero => intro b p _ x h; cases h
  | succ f ih =>
    intro b p hf x h
    rw [itemsF] at h
    by_cases hp : 0 < (b.length : Int)
    · have n := dec1_n hp
      rw [if_pos hp] at h
      rcases List.mem_cons.1 h with rfl | h
      · dsimp only; omega
      · have := ih _ _ (by rw [List.length_drop]; omega) x h
        rw [List.length_drop] at this
        omega
    · rw [if_neg hp] at h; cases h


theorem edges_ev {b : List Int} (hb : Byt b) (hl : b.length ≤ 1048576) {L : List S29} (hL : L.length ≤ 1048576) (hw : ∀ f ∈ L, WfF f) :
    ∃ r, Ev (fun k => audit_Edges.f k b L) r ∧ Ev (fun k => rubricatorref24_Edges.f k b L) r ∧ (L = [] → r = true) := by
  have hn := itemsF_len b.length b 0
  have hwx : ∀ x ∈ itemsF b.length b 0, (Lit.int .i64 x.f1).wf = true := by
    intro x hx
    have := itemsF_bd b.length b 0 (Nat.le_refl _) x hx
    simp [Lit.wf, IntKind.min, IntKind.max, IntKind.bits, IntKind.signed]
    omega
  obtain ⟨r, q1, q2, q3⟩ := outer (b := b) (xs := itemsF b.length b 0) (by omega) (L := L) (by omega) hw _ 0 rfl
  refine ⟨r, ?_, ?_, q3⟩
  · unfold audit_Edges.f
    refine Ev.pos ⟨by simp, by simp [Lit.wf, IntKind.min, IntKind.max, IntKind.bits, IntKind.signed]; omega⟩ (Ev.bind ⟨b.length + 12, fun k hk => decode_spec hb (by omega) k hk⟩ ?_)
    refine collect (by omega) hwx L _ 0 rfl _ (by simp; omega) ?_
    rw [List.drop_zero, List.nil_append]
    exact q1
  · unfold rubricatorref24_Edges.f
    exact Ev.bind ⟨b.length + 26, fun k hk => ref_decode_spec hb (by omega) k hk⟩ q2

theorem AuditEdges_true (b : List Int) (L : List S29) (hb : ∀ x ∈ b, (Lit.int .u8 x).wf = true) (hl : b.length ≤ 1048576) (hw : ∀ f ∈ L, WfF f) (hL : L.length ≤ 1048576) : ∃ k, rubricatorlaw24_AuditEdges.f k b L = some true := by
  obtain ⟨r, q1, q2, _⟩ := edges_ev (byt_of hb) hl hL hw
  obtain ⟨r2, p1, _, p3⟩ := edges_ev (byt_of hb) hl (L := []) (by simp) (by simp)
  obtain rfl := p3 rfl
  refine Ev.get (f := fun k => rubricatorlaw24_AuditEdges.f k b L) ?_
  unfold rubricatorlaw24_AuditEdges.f
  exact Ev.bind q1 (Ev.bind q2 (Ev.pos (by simp) (Ev.bind p1 (Ev.const _))))
end Go.Proofs.Ytebboloogedceaa.Pure
