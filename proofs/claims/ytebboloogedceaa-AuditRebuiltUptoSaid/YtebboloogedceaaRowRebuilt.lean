/- For all bytes, parts and matches of the bulk: audit.Rebuilt tells what the reference's Rebuilt tells. -/
import Derived.Test.YtebboloogedceaaRows
import Derived.Test.YtebboloogedceaaPRL
import Derived.Test.YtebboloogedceaaPl7
import Derived.Test.YtebboloogedceaaOpnEdges
import Derived.Test.YtebboloogedceaaOpnParts
import Derived.Test.YtebboloogedceaaWSized
import Derived.Test.YtebboloogedceaaBulk
import Derived.WalkKit
import Derived.ProofKit
import Derived.OpenShut
import Derived.ShutString
import Derived.ChangeOld
import Derived.Below
import Derived.SizedLaws
import Derived.JoinedCond
import Derived.Deep.CondSized
import Derived.Deep.Slices
namespace Go.Proofs.Ytebboloogedceaa.auditRebuiltUptoR
open Go.ChangeShapes Go.WideShapes Go.ChangeAt Go.RowKit
open Go.ChangeMaps (open_string shut_string)
open Go.Proofs.Ytebboloogedceaa.PA Go.Proofs.YtebboloogedceaaW.PrintWords Go.Proofs.YtebboloogedceaaW.PrintLast
set_option linter.unusedVariables false
theorem own : ownKnob Try.prog.godebug = none := by kernel_rfl
theorem laidOut : laidOutB Try.prog = true := by kernel_rfl
def IsRow (k : IntKind) (w : World) (a : Option Addr) (len cap : Nat) (zs : List Int) : Prop :=
  (a = none ∧ len = 0 ∧ cap = 0 ∧ zs = []) ∨
  ∃ x, a = some x ∧ len ≤ cap ∧ cap ≤ maxLen ∧ zs.length = cap ∧ (∀ i, i < zs.length → w.cell? (x.add i) = some (.int k (zs.getD i 0))) ∧ ∀ n ∈ zs, (Lit.int k n).wf = true
theorem walk (a0 : Option Addr) (len0 cap0 : Nat) (z0 : List Int) (a1 : Option Addr) (cap1 : Nat) (l1 : List (List Int)) (a2 : Option Addr) (cap2 : Nat) (l2 : List S29) (w : World) (w0 : IsRow .u8 w a0 len0 cap0 z0) (y0 : len0 ≤ 1048576) (hr1 : Kd.C (Kd.slice 5 (Kd.int .u8)) w a1 l1.length l1) (hc1 : l1.length ≤ cap1) (hw1 : ∀ x ∈ l1, OpnParts.PartOk x) (y1 : l1.length ≤ 1048576) (hr2 : Kd.C k29 w a2 l2.length l2) (hc2 : l2.length ≤ cap2) (hw2 : ∀ x ∈ l2, Pure.WfF x) (y2 : l2.length ≤ 1048576) :
    Calls Try.prog 6 #[.slice a0 len0 cap0, .slice a1 l1.length cap1, .slice a2 l2.length cap2] w fun e w' => e = .returned (.bool true) ∧ Below w.heap.size w w' := by
  obtain ⟨l0, rfl, hr0, hm0, hw0, hc0⟩ := ReadsInt.ofRowC w0
  have hm1 : l1.length ≤ 9223372036854775807 := hr1.2.1
  have hm2 : l2.length ≤ 9223372036854775807 := hr2.2.1
  obtain ⟨k, h⟩ := Pure.AuditRebuilt_true l0 l1 l2 hw0 y0 hw1 y1 hw2 y2
  refine (rubricatorlaw24_AuditRebuilt.calls k (fun k_ => k_ < w.heap.size) _ _ l0 _ _ l1 _ _ l2 true w (Kd.V_mk hc0 (Kd.C_F (Kd.heap_int .u8) (Kd.C_of_reads (d := (0 : Int)) (h1 := fun _ => rfl) hr0))) hr1 hc1 hr2 hc2 h).mono ?_
  rintro e w' ⟨rfl, hd⟩
  exact ⟨rfl, hd⟩
set_option maxRecDepth 100000 in
theorem lifted (os : Os) (started : os.Started) (H : Type) (enc : TypeId × Value → H) (F : Stop.Interp) :
    ReturnsInHanded {} Try.checked os 6 .any ((Rows.OpenSpec.upto Rows.auditRebuiltSpec).pre6 enc Try.prog Try.f6 Rows.auditRebuiltUptoRow.domain false) (((Rows.OpenSpec.upto Rows.auditRebuiltSpec).at F).post enc Try.prog Try.f6 false true false false) := by
  refine returnsInHanded_of_cond_sized (C := Try.checked) (s := Rows.OpenSpec.upto Rows.auditRebuiltSpec) (k := Rows.uptoSmall) rfl own started (by kernel_rfl) Try.func6
    (OpenSpec.witness (enc := enc) (C := Try.checked) (s := Rows.OpenSpec.upto Rows.auditRebuiltSpec) (k := Rows.uptoSmall) rfl false ⟨#[], #[.slice none 0 0, .slice none 0 0, .slice none 0 0], []⟩ 8 (by kernel_rfl) (by kernel_rfl) (by kernel_rfl)
      (x := ([.nil, .nil, .nil], [], [])) (by kernel_rfl) rfl (by kernel_rfl)) ?_
  intro W base args ds gs before hval0 hW hcnd hk hsz0 _
  have hval : ∀ (j : Nat) t v, Try.f6.params[j]? = some t → args[j]? = some v → Value.okWide Try.prog W .any base t v := hval0
  have hW' := hW
  obtain ⟨p, q, hA0, hV, rfl, hfz, hnd⟩ := hW
  have hA : DataW.TrodAll enc Try.prog W 0 (fun _ => true) true Try.f6.params.toList args.toList ds p := hA0
  rw [Try.params6] at hA hval
  obtain ⟨v0, vs0, d0, ds0, p0, q0, hargs, rfl, rfl, h0, r0⟩ := trodAll_cons hA
  obtain ⟨v1, vs1, d1, ds1, p1, q1, rfl, rfl, rfl, h1, r1⟩ := trodAll_cons r0
  obtain ⟨v2, vs2, d2, ds2, p2, q2, rfl, rfl, rfl, h2, r2⟩ := trodAll_cons r1
  obtain ⟨rfl, rfl, rfl⟩ := trodAll_nil r2
  obtain rfl : args = #[v0, v1, v2] := by cases args; simp_all
  obtain ⟨rfl, rfl⟩ := trodVars_none hV
  have hkb := bulks.bound hk
  obtain ⟨a0, len0, cap0, rfl⟩ := okWide_slice Try.underlying32 (hval 0 32 v0 rfl rfl)
  have k0 := h0
  have lt0 : ∀ x ∈ p0, x.block < W.heap.size := by obtain ⟨m, hm⟩ := k0; exact DataW.trod_lt m _ _ _ hm
  have y0 : len0 ≤ 1048576 := by
    have b := bulks.part_le (d := d0) (by simp : d0 ∈ ([d0, d1, d2] ++ [] : List (DataW H)))
    exact Nat.le_trans (bulks.trod_len Try.underlying32 k0) (Nat.le_trans b hkb)
  obtain ⟨z0, w0⟩ : ∃ zs, IsRow .u8 W a0 len0 cap0 zs := by
    obtain ⟨fuel, hf⟩ := h0
    rcases open_ints Try.underlying32 Try.underlying5 (by kernel_rfl) hf with ⟨hcs, _⟩ | ⟨x, l, c, zs, hcs, _, hl, hm, hz, _, hcell, hwz⟩
    · simp [Value.cells] at hcs
      obtain ⟨rfl, rfl, rfl⟩ := hcs
      exact ⟨[], .inl ⟨rfl, rfl, rfl, rfl⟩⟩
    · simp [Value.cells] at hcs
      obtain ⟨rfl, rfl, rfl⟩ := hcs
      exact ⟨zs, .inr ⟨_, rfl, hl, hm, by simpa using hz, hcell, hwz⟩⟩
  obtain ⟨a1, len1, cap1, rfl⟩ := okWide_slice Try.underlying34 (hval 1 34 v1 rfl rfl)
  have k1 := h1
  have lt1 : ∀ x ∈ p1, x.block < W.heap.size := by obtain ⟨m, hm⟩ := k1; exact DataW.trod_lt m _ _ _ hm
  have y1 : len1 ≤ 1048576 := by
    have b := bulks.part_le (d := d1) (by simp : d1 ∈ ([d0, d1, d2] ++ [] : List (DataW H)))
    exact Nat.le_trans (bulks.trod_len Try.underlying34 k1) (Nat.le_trans b hkb)
  obtain ⟨l1, hr1, hc1, hw1, hle1⟩ : ∃ l : List (List Int), Kd.C (Kd.slice 5 (Kd.int .u8)) W a1 l.length l ∧ l.length ≤ cap1 ∧ (∀ x ∈ l, OpnParts.PartOk x) ∧ len1 = l.length := by
    obtain ⟨fuel, hf⟩ := h1
    obtain ⟨l, ⟨A_, c_, hcs, hl, hC⟩, hg⟩ := OpnParts.opnParts enc W 0 _ _ fuel _ _ hf (Nat.le_trans (bulks.part_le (d := d1) (by simp : d1 ∈ ([d0, d1, d2] ++ [] : List (DataW H)))) hkb)
    simp [Value.cells] at hcs
    obtain ⟨rfl, rfl, rfl⟩ := hcs
    exact ⟨l, hC, hl, hg, rfl⟩
  subst hle1
  obtain ⟨a2, len2, cap2, rfl⟩ := okWide_slice Try.underlying22 (hval 2 22 v2 rfl rfl)
  have k2 := h2
  have lt2 : ∀ x ∈ p2, x.block < W.heap.size := by obtain ⟨m, hm⟩ := k2; exact DataW.trod_lt m _ _ _ hm
  have y2 : len2 ≤ 1048576 := by
    have b := bulks.part_le (d := d2) (by simp : d2 ∈ ([d0, d1, d2] ++ [] : List (DataW H)))
    exact Nat.le_trans (bulks.trod_len Try.underlying22 k2) (Nat.le_trans b hkb)
  obtain ⟨l2, hr2, hc2, hw2, hle2⟩ : ∃ l : List S29, Kd.C k29 W a2 l.length l ∧ l.length ≤ cap2 ∧ (∀ x ∈ l, Pure.WfF x) ∧ len2 = l.length := by
    obtain ⟨fuel, hf⟩ := h2
    obtain ⟨l, ⟨A_, c_, hcs, hl, hC⟩, hg⟩ := OpnEdges.opn22 enc W 0 _ _ fuel _ _ hf
    simp [Value.cells] at hcs
    obtain ⟨rfl, rfl, rfl⟩ := hcs
    exact ⟨l, hC, hl, hg, rfl⟩
  subst hle2
  clear hA0 hval0 hsz0 hk hkb
  refine (walk a0 len0 cap0 z0 a1 cap1 l1 a2 cap2 l2 W w0 y0 hr1 hc1 hw1 y1 hr2 hc2 hw2 y2).mono fun e W' ⟨he, bel⟩ => ?_
  subst he
  exact ⟨_, rfl, _, _, _, [], _, [], hW', trodAll_mk1 (shut_bool Try.underlying4 _), (trodAll_cons_mk (Below.trod laidOut (by kernel_rfl) (of_decide_eq_true (by kernel_rfl)) k0 bel lt0) (trodAll_cons_mk (Below.trod laidOut (by kernel_rfl) (of_decide_eq_true (by kernel_rfl)) k1 bel lt1) (trodAll_cons_mk (Below.trod laidOut (by kernel_rfl) (of_decide_eq_true (by kernel_rfl)) k2 bel lt2) trodAll_mk0))), rfl, bel.frame _, fun h => by cases h⟩
theorem over : Rows.AuditRebuiltUptoSaid :=
  OpenClaim.holds_of_cond 6 Try.f6 rfl rfl rfl rfl rfl rfl rfl ⟨rfl, rfl, rfl, rfl, rfl⟩ rfl rfl rfl rfl rfl (by kernel_rfl) Try.func6 (by kernel_rfl)
    (of_decide_eq_true (by kernel_rfl)) (by unfold Func.isWrapper; first | (rw [if_pos (by decide +kernel)]; kernel_rfl) | (rw [if_neg (by decide +kernel)]; exact ⟨rfl, rfl⟩))
    (fun os started H enc _ F => lifted os started H enc F)
end Go.Proofs.Ytebboloogedceaa.auditRebuiltUptoR
namespace Go.Proofs.Ytebboloogedceaa
/-- The row, under a short name, for the claim. -/
theorem auditRebuiltUpto_holds : Rows.AuditRebuiltUptoSaid := auditRebuiltUptoR.over
#print axioms auditRebuiltUpto_holds
end Go.Proofs.Ytebboloogedceaa
