/- For every node: the law WidthOrder holds. No condition. -/
import Derived.Test.YtimckmfgjpcigaaRows
import Derived.Test.YtimckmfgjpcigaaPlain4
import Derived.Test.YtimckmfgjpcigaaOpnNode
import Derived.Test.YtimckmfgjpcigaaWSized
import Derived.WalkKit
import Derived.ProofKit
import Derived.OpenShut
import Derived.ShutString
import Derived.ChangeOld
import Derived.Below
import Derived.SizedLaws
import Derived.JoinedCond
import Derived.Deep.CondSized
import Derived.Deep.Slices
namespace Go.Proofs.Ytimckmfgjpcigaa.widthOrderR
open Go.ChangeShapes Go.WideShapes Go.ChangeAt Go.RowKit
open Go.ChangeMaps (open_string shut_string)
open Go.Proofs.Ytimckmfgjpcigaa.PW Go.Proofs.YtimckmfgjpcigaaW.PrintWords Go.Proofs.YtimckmfgjpcigaaW.PrintLast
set_option linter.unusedVariables false
theorem own : ownKnob Try.prog.godebug = none := by kernel_rfl
theorem laidOut : laidOutB Try.prog = true := by kernel_rfl
def IsRow (k : IntKind) (w : World) (a : Option Addr) (len cap : Nat) (zs : List Int) : Prop :=
  (a = none ∧ len = 0 ∧ cap = 0 ∧ zs = []) ∨
  ∃ x, a = some x ∧ len ≤ cap ∧ cap ≤ maxLen ∧ zs.length = cap ∧ (∀ i, i < zs.length → w.cell? (x.add i) = some (.int k (zs.getD i 0))) ∧ ∀ n ∈ zs, (Lit.int k n).wf = true
theorem walk (x0 : S25) (A0 : Option Addr) (c0 : Nat) (B0 : Option Addr) (e0 : Nat) (w : World) (hg0 : Plain.Gd x0) (m0 : x0.f6.length ≤ c0) (g0 : k59.C w A0 x0.f6.length x0.f6) (n0 : x0.f7.length ≤ e0) (j0 : k25.C w B0 x0.f7.length x0.f7) :
    Calls Try.prog 4 #[.agg #[.int .i64 x0.f0, .int .i64 x0.f1, .int .i64 x0.f2, .int .i64 x0.f3, .bool x0.f4, .string x0.f5, .slice A0 x0.f6.length c0, .slice B0 x0.f7.length e0]] w fun e w' => e = .returned (.bool true) ∧ Below w.heap.size w w' := by
  obtain ⟨k, h⟩ := Plain.widthOrder  hg0
  refine (rubricatorlaw18_WidthOrder.calls k x0.f0 x0.f1 x0.f2 x0.f3 x0.f4 x0.f5 A0 c0 x0.f6 B0 e0 x0.f7 true w g0 m0 j0 n0 h).mono ?_
  rintro e w' ⟨rfl, hd⟩
  exact ⟨rfl, hd⟩
set_option maxRecDepth 100000 in
theorem lifted (os : Os) (started : os.Started) (H : Type) (enc : TypeId × Value → H) :
    ReturnsInHanded {} Try.checked os 4 .any (Rows.widthOrderSpec.pre6 enc Try.prog Try.f4 Rows.widthOrderRow.domain false) (Rows.widthOrderSpec.post enc Try.prog Try.f4 false true false false) := by
  refine returnsInHanded_of_change_sized (C := Try.checked) own started (by kernel_rfl) Try.func4
    (ChangeSpec.witness6 (enc := enc) (C := Try.checked) false ⟨#[], #[.agg #[.int .i64 0, .int .i64 0, .int .i64 0, .int .i64 0, .bool false, .string ⟨#[]⟩, .slice none 0 0, .slice none 0 0]], []⟩ 8 (by kernel_rfl) (by kernel_rfl) (by kernel_rfl) (by kernel_rfl)) ?_
  intro W base args ds gs before hval0 hW hcnd hsz0 _
  have hsz : (DataW.weightsEach Try.prog (Try.f4.params.toList ++ Rows.widthOrderSpec.plain.varTypes Try.prog) (ds ++ gs)).all (· ≤ reachBytes) = true := hsz0
  have hval : ∀ (j : Nat) t v, Try.f4.params[j]? = some t → args[j]? = some v → Value.okWide Try.prog W .any base t v := hval0
  have hW' := hW
  obtain ⟨p, q, hA0, hV, rfl, hfz, hnd⟩ := hW
  have hA : DataW.TrodAll enc Try.prog W 0 (fun _ => true) true Try.f4.params.toList args.toList ds p := hA0
  rw [Try.params4] at hA hval hsz
  obtain ⟨v0, vs0, d0, ds0, p0, q0, hargs, rfl, rfl, h0, r0⟩ := trodAll_cons hA
  obtain ⟨rfl, rfl, rfl⟩ := trodAll_nil r0
  obtain rfl : args = #[v0] := by cases args; simp_all
  obtain ⟨rfl, rfl⟩ := trodVars_none hV
  obtain ⟨cs0, rfl, hz0⟩ := okWide_struct Try.underlying25 (hval 0 25 v0 rfl rfl)
  have k0 := h0
  have lt0 : ∀ x ∈ p0, x.block < W.heap.size := by obtain ⟨m, hm⟩ := k0; exact DataW.trod_lt m _ _ _ hm
  obtain ⟨x0, A0, c0, B0, e0, hg0, hcs0, m0, g0, n0, j0⟩ : ∃ (x : S25) (A : Option Addr) (c : Nat) (B : Option Addr) (e : Nat), Plain.Gd x ∧ cs0 = #[.int .i64 x.f0, .int .i64 x.f1, .int .i64 x.f2, .int .i64 x.f3, .bool x.f4, .string x.f5, .slice A x.f6.length c, .slice B x.f7.length e] ∧ x.f6.length ≤ c ∧ k59.C W A x.f6.length x.f6 ∧ x.f7.length ≤ e ∧ k25.C W B x.f7.length x.f7 := by
    obtain ⟨fuel, hf⟩ := h0
    obtain ⟨x, A, c, B, e, hg, hcs, q⟩ := OpnNode.opn25 enc W 0 _ _ fuel _ _ hf
    refine ⟨x, A, c, B, e, hg, ?_, q⟩
    exact Array.toList_inj.mp (hcs.trans rfl)
  subst hcs0
  clear hA0 hval0 hsz0 hsz
  refine (walk x0 A0 c0 B0 e0 W hg0 m0 g0 n0 j0).mono fun e W' ⟨he, bel⟩ => ?_
  subst he
  exact ⟨_, rfl, _, _, _, [], _, [], hW', trodAll_mk1 (shut_bool Try.underlying4 _), (trodAll_cons_mk (Below.trod laidOut (by kernel_rfl) (of_decide_eq_true (by kernel_rfl)) k0 bel lt0) trodAll_mk0), rfl, bel.frame _, fun h => by cases h⟩
theorem over : Rows.WidthOrderSaid :=
  OpenClaim.holds_of_wide 4 Try.f4 rfl rfl rfl rfl rfl rfl rfl ⟨rfl, rfl, rfl, rfl, rfl⟩ rfl rfl rfl rfl rfl (by kernel_rfl) Try.func4 (by kernel_rfl)
    (of_decide_eq_true (by kernel_rfl)) (by unfold Func.isWrapper; first | (rw [if_pos (by decide +kernel)]; kernel_rfl) | (rw [if_neg (by decide +kernel)]; exact ⟨rfl, rfl⟩))
    (fun os started H enc _ => lifted os started H enc)
end Go.Proofs.Ytimckmfgjpcigaa.widthOrderR
namespace Go.Proofs.Ytimckmfgjpcigaa
/-- The row, under a short name, for the claim. -/
theorem widthOrder_holds : Rows.WidthOrderSaid := widthOrderR.over
#print axioms widthOrder_holds
end Go.Proofs.Ytimckmfgjpcigaa
