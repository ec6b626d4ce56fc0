/- For every two nodes: the law WidthJoins holds. No condition. -/
import Derived.Test.YtimckmfgjpcigaaRows
import Derived.Test.YtimckmfgjpcigaaPlain5j
import Derived.Test.YtimckmfgjpcigaaOpnNodej
import Derived.Test.YtimckmfgjpcigaaWSized
import Derived.WalkKit
import Derived.ProofKit
import Derived.OpenShut
import Derived.ShutString
import Derived.ChangeOld
import Derived.Below
import Derived.SizedLaws
import Derived.JoinedCond
import Derived.Deep.CondSized
import Derived.Deep.Slices
namespace Go.Proofs.Ytimckmfgjpcigaa.widthJoinsR
open Go.ChangeShapes Go.WideShapes Go.ChangeAt Go.RowKit
open Go.ChangeMaps (open_string shut_string)
open Go.Proofs.Ytimckmfgjpcigaa.PW Go.Proofs.YtimckmfgjpcigaaW.PrintWords Go.Proofs.YtimckmfgjpcigaaW.PrintLast
set_option linter.unusedVariables false
theorem own : ownKnob Try.prog.godebug = none := by kernel_rfl
theorem laidOut : laidOutB Try.prog = true := by kernel_rfl
def IsRow (k : IntKind) (w : World) (a : Option Addr) (len cap : Nat) (zs : List Int) : Prop :=
  (a = none ∧ len = 0 ∧ cap = 0 ∧ zs = []) ∨
  ∃ x, a = some x ∧ len ≤ cap ∧ cap ≤ maxLen ∧ zs.length = cap ∧ (∀ i, i < zs.length → w.cell? (x.add i) = some (.int k (zs.getD i 0))) ∧ ∀ n ∈ zs, (Lit.int k n).wf = true
theorem walk (x0 : S25) (A0 : Option Addr) (c0 : Nat) (B0 : Option Addr) (e0 : Nat) (x1 : S25) (A1 : Option Addr) (c1 : Nat) (B1 : Option Addr) (e1 : Nat) (w : World) (hg0 : Plain.Gd x0) (m0 : x0.f6.length ≤ c0) (g0 : k59.C w A0 x0.f6.length x0.f6) (n0 : x0.f7.length ≤ e0) (j0 : k25.C w B0 x0.f7.length x0.f7) (hg1 : Plain.Gd x1) (m1 : x1.f6.length ≤ c1) (g1 : k59.C w A1 x1.f6.length x1.f6) (n1 : x1.f7.length ≤ e1) (j1 : k25.C w B1 x1.f7.length x1.f7) :
    Calls Try.prog 5 #[.agg #[.int .i64 x0.f0, .int .i64 x0.f1, .int .i64 x0.f2, .int .i64 x0.f3, .bool x0.f4, .string x0.f5, .slice A0 x0.f6.length c0, .slice B0 x0.f7.length e0], .agg #[.int .i64 x1.f0, .int .i64 x1.f1, .int .i64 x1.f2, .int .i64 x1.f3, .bool x1.f4, .string x1.f5, .slice A1 x1.f6.length c1, .slice B1 x1.f7.length e1]] w fun e w' => e = .returned (.bool true) ∧ Below w.heap.size w w' := by
  obtain ⟨k, h⟩ := Plain.widthJoins  hg0 hg1
  refine (rubricatorlaw18_WidthJoins.callsT k x0.f0 x0.f1 x0.f2 x0.f3 x0.f4 x0.f5 (fun k_ => k_ < w.heap.size) A0 c0 x0.f6 (fun k_ => k_ < w.heap.size) B0 e0 x0.f7 x1.f0 x1.f1 x1.f2 x1.f3 x1.f4 x1.f5 (fun k_ => k_ < w.heap.size) A1 c1 x1.f6 (fun k_ => k_ < w.heap.size) B1 e1 x1.f7 w (Kd.V_mk m0 (Kd.C_F OpnNode.heap59 g0)) (Kd.V_mk n0 (Kd.C_F OpnNode.heap25 j0)) (Kd.V_mk m1 (Kd.C_F OpnNode.heap59 g1)) (Kd.V_mk n1 (Kd.C_F OpnNode.heap25 j1)) h).mono ?_
  rintro e w' ⟨rfl, hd⟩
  exact ⟨rfl, hd⟩
set_option maxRecDepth 100000 in
theorem lifted (os : Os) (started : os.Started) (H : Type) (enc : TypeId × Value → H) :
    ReturnsInHanded {} Try.checked os 5 .any (Rows.widthJoinsSpec.pre6 enc Try.prog Try.f5 Rows.widthJoinsRow.domain false) (Rows.widthJoinsSpec.post enc Try.prog Try.f5 false true false false) := by
  refine returnsInHanded_of_change_sized (C := Try.checked) own started (by kernel_rfl) Try.func5
    (ChangeSpec.witness6 (enc := enc) (C := Try.checked) false ⟨#[], #[.agg #[.int .i64 0, .int .i64 0, .int .i64 0, .int .i64 0, .bool false, .string ⟨#[]⟩, .slice none 0 0, .slice none 0 0], .agg #[.int .i64 0, .int .i64 0, .int .i64 0, .int .i64 0, .bool false, .string ⟨#[]⟩, .slice none 0 0, .slice none 0 0]], []⟩ 8 (by kernel_rfl) (by kernel_rfl) (by kernel_rfl) (by kernel_rfl)) ?_
  intro W base args ds gs before hval0 hW hcnd hsz0 _
  have hsz : (DataW.weightsEach Try.prog (Try.f5.params.toList ++ Rows.widthJoinsSpec.plain.varTypes Try.prog) (ds ++ gs)).all (· ≤ reachBytes) = true := hsz0
  have hval : ∀ (j : Nat) t v, Try.f5.params[j]? = some t → args[j]? = some v → Value.okWide Try.prog W .any base t v := hval0
  have hW' := hW
  obtain ⟨p, q, hA0, hV, rfl, hfz, hnd⟩ := hW
  have hA : DataW.TrodAll enc Try.prog W 0 (fun _ => true) true Try.f5.params.toList args.toList ds p := hA0
  rw [Try.params5] at hA hval hsz
  obtain ⟨v0, vs0, d0, ds0, p0, q0, hargs, rfl, rfl, h0, r0⟩ := trodAll_cons hA
  obtain ⟨v1, vs1, d1, ds1, p1, q1, rfl, rfl, rfl, h1, r1⟩ := trodAll_cons r0
  obtain ⟨rfl, rfl, rfl⟩ := trodAll_nil r1
  obtain rfl : args = #[v0, v1] := by cases args; simp_all
  obtain ⟨rfl, rfl⟩ := trodVars_none hV
  obtain ⟨cs0, rfl, hz0⟩ := okWide_struct Try.underlying25 (hval 0 25 v0 rfl rfl)
  have k0 := h0
  have lt0 : ∀ x ∈ p0, x.block < W.heap.size := by obtain ⟨m, hm⟩ := k0; exact DataW.trod_lt m _ _ _ hm
  obtain ⟨x0, A0, c0, B0, e0, hg0, hcs0, m0, g0, n0, j0⟩ : ∃ (x : S25) (A : Option Addr) (c : Nat) (B : Option Addr) (e : Nat), Plain.Gd x ∧ cs0 = #[.int .i64 x.f0, .int .i64 x.f1, .int .i64 x.f2, .int .i64 x.f3, .bool x.f4, .string x.f5, .slice A x.f6.length c, .slice B x.f7.length e] ∧ x.f6.length ≤ c ∧ k59.C W A x.f6.length x.f6 ∧ x.f7.length ≤ e ∧ k25.C W B x.f7.length x.f7 := by
    obtain ⟨fuel, hf⟩ := h0
    obtain ⟨x, A, c, B, e, hg, hcs, q⟩ := OpnNode.opn25 enc W 0 _ _ fuel _ _ hf
    refine ⟨x, A, c, B, e, hg, ?_, q⟩
    exact Array.toList_inj.mp (hcs.trans rfl)
  subst hcs0
  obtain ⟨cs1, rfl, hz1⟩ := okWide_struct Try.underlying25 (hval 1 25 v1 rfl rfl)
  have k1 := h1
  have lt1 : ∀ x ∈ p1, x.block < W.heap.size := by obtain ⟨m, hm⟩ := k1; exact DataW.trod_lt m _ _ _ hm
  obtain ⟨x1, A1, c1, B1, e1, hg1, hcs1, m1, g1, n1, j1⟩ : ∃ (x : S25) (A : Option Addr) (c : Nat) (B : Option Addr) (e : Nat), Plain.Gd x ∧ cs1 = #[.int .i64 x.f0, .int .i64 x.f1, .int .i64 x.f2, .int .i64 x.f3, .bool x.f4, .string x.f5, .slice A x.f6.length c, .slice B x.f7.length e] ∧ x.f6.length ≤ c ∧ k59.C W A x.f6.length x.f6 ∧ x.f7.length ≤ e ∧ k25.C W B x.f7.length x.f7 := by
    obtain ⟨fuel, hf⟩ := h1
    obtain ⟨x, A, c, B, e, hg, hcs, q⟩ := OpnNode.opn25 enc W 0 _ _ fuel _ _ hf
    refine ⟨x, A, c, B, e, hg, ?_, q⟩
    exact Array.toList_inj.mp (hcs.trans rfl)
  subst hcs1
  clear hA0 hval0 hsz0 hsz
  refine (walk x0 A0 c0 B0 e0 x1 A1 c1 B1 e1 W hg0 m0 g0 n0 j0 hg1 m1 g1 n1 j1).mono fun e W' ⟨he, bel⟩ => ?_
  subst he
  exact ⟨_, rfl, _, _, _, [], _, [], hW', trodAll_mk1 (shut_bool Try.underlying4 _), (trodAll_cons_mk (Below.trod laidOut (by kernel_rfl) (of_decide_eq_true (by kernel_rfl)) k0 bel lt0) (trodAll_cons_mk (Below.trod laidOut (by kernel_rfl) (of_decide_eq_true (by kernel_rfl)) k1 bel lt1) trodAll_mk0)), rfl, bel.frame _, fun h => by cases h⟩
theorem over : Rows.WidthJoinsSaid :=
  OpenClaim.holds_of_wide 5 Try.f5 rfl rfl rfl rfl rfl rfl rfl ⟨rfl, rfl, rfl, rfl, rfl⟩ rfl rfl rfl rfl rfl (by kernel_rfl) Try.func5 (by kernel_rfl)
    (of_decide_eq_true (by kernel_rfl)) (by unfold Func.isWrapper; first | (rw [if_pos (by decide +kernel)]; kernel_rfl) | (rw [if_neg (by decide +kernel)]; exact ⟨rfl, rfl⟩))
    (fun os started H enc _ => lifted os started H enc)
end Go.Proofs.Ytimckmfgjpcigaa.widthJoinsR
namespace Go.Proofs.Ytimckmfgjpcigaa
/-- The row, under a short name, for the claim. -/
theorem widthJoins_holds : Rows.WidthJoinsSaid := widthJoinsR.over
#print axioms widthJoins_holds
end Go.Proofs.Ytimckmfgjpcigaa
