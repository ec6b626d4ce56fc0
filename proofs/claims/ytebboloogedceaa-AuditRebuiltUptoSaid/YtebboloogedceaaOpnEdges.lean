/- How the argument []api.Found of AuditEdges is read. -/
import Derived.Test.YtebboloogedceaaOpens
import Derived.Test.YtebboloogedceaaPl5
namespace Go.Proofs.Ytebboloogedceaa.OpnEdges
open Go Go.Proofs.Ytebboloogedceaa.opens Go.Proofs.Ytebboloogedceaa.PA Go.Proofs.YtebboloogedceaaW.PrintWords
theorem opn26 : Opn Try.prog 26 k26 (fun b => (Lit.int .i64 b.f0).wf = true ∧ (Lit.int .i64 b.f1).wf = true) :=
  opn_struct2 (f := fun x : S26 => (x.f0, x.f1)) (fun a => ⟨a.1, a.2⟩) (fun _ => rfl) Try.underlying26 rfl (by kernel_rfl) (by kernel_rfl) (opn_int Try.underlying3) (opn_int Try.underlying3)
theorem opn27 : Opn Try.prog 27 (Kd.slice 26 k26) (fun xs => ∀ x ∈ xs, (Lit.int .i64 x.f0).wf = true ∧ (Lit.int .i64 x.f1).wf = true) := opn_slice Try.underlying27 (by kernel_rfl) opn26
theorem opn29 : Opn Try.prog 29 k29 (fun b => ∀ x ∈ b.f0, (Lit.int .i64 x.f0).wf = true ∧ (Lit.int .i64 x.f1).wf = true) :=
  opn_struct1 (f := fun x : S29 => x.f0) (fun a => ⟨a⟩) (fun _ => rfl) Try.underlying29 rfl (by kernel_rfl) opn27
theorem opn29b : Opn Try.prog 29 k29 (fun b => Pure.WfF b) := fun enc w base spare held fuel cs x h => by
  obtain ⟨v, hk, hg⟩ := opn29 enc w base spare held fuel cs x h
  refine ⟨v, hk, ?_, hg⟩
  obtain ⟨A, c, _, _, hC⟩ := k29_open hk
  exact hC.2.1
theorem opn22 : Opn Try.prog 22 (Kd.slice 29 k29) (fun xs => ∀ x ∈ xs, Pure.WfF x) := opn_slice Try.underlying22 (by kernel_rfl) opn29b
end Go.Proofs.Ytebboloogedceaa.OpnEdges
