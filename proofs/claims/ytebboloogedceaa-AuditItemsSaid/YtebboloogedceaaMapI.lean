/- A map[int]bool that the call itself has made, whose values are all true: what its keys are (no walk here). -/
import Derived.Test.YtebboloogedceaaPA0
import Derived.Maps.Own
import Derived.Maps.Views
import Derived.Maps.OwnIn
namespace Go.Proofs.Ytebboloogedceaa.MapI
open Go Go.ChangeMaps Go.Maps Go.Proofs Go.RowKit Go.Proofs.YtebboloogedceaaW.PrintWords

/-- Block b of W is a map whose keys are those of ks, each with 'true'. -/
def Is (W : World) (b : Nat) (ks : List Int) : Prop :=
  ∃ D : DataW Unit, W.ownsMap Try.prog 3 (plainElem Try.prog 4) b ks.length D ∧ IsMap D ∧ ∀ k : Int, (Lit.int .i64 k).wf = true → D.atKey (.int .i64 k) (.lit (.bool false)) = .lit (.bool (ks.contains k))

theorem keyed : Keyed Try.prog 3 := int_keyed Try.underlying3
theorem keyOf3 {k : Int} (h : (Lit.int .i64 k).wf = true) : keyOf Try.prog 3 (.int .i64 k) = some (.int .i64 k) := keyOf_int_mk Try.underlying3 h

theorem made (w : World) : Is (w.alloc (.map #[] 0)) w.heap.size [] :=
  ⟨.map [], World.ownsMap_made w Try.prog 3 _, ⟨[], rfl⟩, fun k _ => by simp [DataW.atKey]⟩

theorem Is.kept {w w' : World} {b : Nat} {ks : List Int} {row : Option Nat} (h : Is w b ks) (hg : w.grownBy w' row) (hne : some b ≠ row) : Is w' b ks := by
  obtain ⟨D, h1, h2, h3⟩ := h
  exact ⟨D, h1.kept hg hne, h2, h3⟩
theorem Is.block {w w' : World} {b : Nat} {ks : List Int} (h : Is w b ks) (hb : w'.heap[b]? = w.heap[b]?) : Is w' b ks := by
  obtain ⟨D, ⟨es, clock, q, r⟩, h2, h3⟩ := h
  exact ⟨D, ⟨es, clock, hb.trans q, r⟩, h2, h3⟩
theorem Is.lt {w : World} {b : Nat} {ks : List Int} (h : Is w b ks) : b < w.heap.size := by
  obtain ⟨D, h1, _⟩ := h
  exact h1.lt

/-- 'm[k]', a bool: the world doesn't turn. -/
theorem Is.look {w : World} {b : Nat} {ks : List Int} (h : Is w b ks) {k : Int} (hk : (Lit.int .i64 k).wf = true) : (Instr.lookup 42 (.map (some b)) (.int .i64 k) false).run Try.prog w = .ok (.bool (ks.contains k)) w := by
  obtain ⟨D, h1, h2, h3⟩ := h
  have hz : (zeroValue 4).run Try.prog w = .ok (.bool false) w := by
    have e : Try.t4.zero = some (.bool false) := by kernel_rfl
    simp [zeroValue, e]
  obtain ⟨v, ps, hrun, hv⟩ := h1.lookup keyed Try.underlying42 hz (plainElem_bool Try.underlying4 false) (keyOf3 hk)
  rw [h3 k hk] at hv
  rw [hrun]
  unfold plainElem at hv
  rw [Try.underlying4] at hv
  split at hv <;> simp_all

/-- 'm[k] = true'. -/
theorem Is.store {w : World} {b : Nat} {ks : List Int} (h : Is w b ks) {k : Int} (hk : (Lit.int .i64 k).wf = true) (hn : ks.length < maxLen) :
    ∃ w', (Instr.mapUpdate 42 (.map (some b)) (.int .i64 k) (.bool true)).run Try.prog w = .ok () w' ∧ Is w' b (ks ++ [k]) ∧ w.grownBy w' (some b) := by
  obtain ⟨D, h1, h2, h3⟩ := h
  obtain ⟨w', r1, r2, r3⟩ := h1.update keyed Try.underlying42 hn (keyOf3 hk) (plainElem_bool Try.underlying4 true)
  refine ⟨w', r1, ⟨D.put (.int .i64 k) (.lit (.bool true)), by simpa using r2, ?_, fun j hj => ?_⟩, r3⟩
  · obtain ⟨es, rfl⟩ := h2
    exact ⟨_, rfl⟩
  · by_cases e : j = k
    · subst e
      rw [atKey_put_same h2 (by simp [WideAt.IsKeyLit])]
      simp
    · rw [atKey_put_other (by simpa using e), h3 j hj]
      simp [e]

/-- The same, told as an own row is: the value, the place where it begins, what its own block is none of. -/
def IsV (W : World) (base : Nat) (ok : Nat → Prop) (v : Value) (ks : List Int) : Prop := ∃ b, v = .map (some b) ∧ base ≤ b ∧ ok b ∧ Is W b ks
section
variable {W W1 : World} {base : Nat} {ok ok' : Nat → Prop} {v : Value} {ks : List Int}
theorem V_alloc (h : IsV W base ok v ks) (o : Obj) : IsV (W.alloc o) base ok v ks := by
  obtain ⟨b, e, h1, h2, h3⟩ := h
  exact ⟨b, e, h1, h2, h3.kept (World.grownBy_alloc W o none) (by simp)⟩
theorem V_drew (h : IsV W base ok v ks) : IsV W.drew base ok v ks := h
theorem V_below (h : IsV W base ok v ks) (hb : Below W.heap.size W W1) : IsV W1 base ok v ks := by
  obtain ⟨b, e, h1, h2, h3⟩ := h
  exact ⟨b, e, h1, h2, h3.block (hb.block b h3.lt)⟩
theorem V_drewN (h : IsV W base ok v ks) (m : Nat) : IsV (W.drewN m) base ok v ks := V_below h (Go.Proofs.YtebboloogedceaaW.PrintWords.pw_below_drewN (Below.refl _ _) m)
theorem V_mono (h : IsV W base ok v ks) (hok : ∀ k, ok k → ok' k) : IsV W base ok' v ks := by
  obtain ⟨b, e, h1, h2, h3⟩ := h
  exact ⟨b, e, h1, hok b h2, h3⟩
theorem V_types (h : IsV W base ok v ks) {g t : Nat} {cells : Array Value} (hb : W.heap[g]? = some (.cells cells t (0, 0))) : IsV W base (fun k => ok k ∧ k ≠ g) v ks := by
  obtain ⟨b, e, h1, h2, h3⟩ := h
  refine ⟨b, e, h1, ⟨h2, fun q => ?_⟩, h3⟩
  obtain ⟨D, ⟨es, clock, r, _⟩, _⟩ := h3
  rw [q, hb] at r
  cases r
theorem V_far (h : IsV W base ok v ks) {p : Addr} (hok : ∀ k, ok k → k ≠ p.block) (u : Value) : IsV (W.setCell p u) base ok v ks := by
  obtain ⟨b, e, h1, h2, h3⟩ := h
  exact ⟨b, e, h1, h2, h3.block (Below.heap_setCell W p u b (hok b h2))⟩
theorem V_elderB (h : IsV W base ok v ks) (a : Nat) (ha : W.heap.size ≤ a) : IsV W base (fun k => ok k ∧ k ≠ a) v ks := by
  obtain ⟨b, e, h1, h2, h3⟩ := h
  exact ⟨b, e, h1, ⟨h2, by have := h3.lt; omega⟩, h3⟩
end
theorem V_made (W : World) {base : Nat} (h : base ≤ W.heap.size) : IsV (W.alloc (.map #[] 0)) base (fun _ => True) (.map (some W.heap.size)) [] := ⟨_, rfl, h, trivial, made W⟩
theorem R_kept {α : Type} {d : Go.Proofs.YtebboloogedceaaW.PrintWords.Kd α} {e : Nat} {W W1 : World} {base : Nat} {ok : Nat → Prop} {v : Value} {xs : List α} {b : Nat} {ks : List Int} (h : d.R e W base ok v xs) (hm : Is W b ks) (hg : W.grownBy W1 (some b)) : d.R e W1 base ok v xs := by
  have h1 := Go.Proofs.YtebboloogedceaaW.PrintWords.Kd.R_grown (row := some b) (Go.Proofs.YtebboloogedceaaW.PrintWords.Kd.R_bound h) hg (fun k hk => by
    obtain ⟨_, _, _, q, _, cells, hc⟩ := hk
    intro he
    injection he with he
    subst he
    obtain ⟨D, ⟨es, clock, r, _⟩, _⟩ := hm
    rw [hc] at r
    cases r)
  exact Go.Proofs.YtebboloogedceaaW.PrintWords.Kd.R_mono h1 (fun _ hk => hk.1)
theorem blk_kept {W W1 : World} {b g t : Nat} {cells : Array Value} {ks : List Int} (h : W.heap[g]? = some (.cells cells t (0, 0))) (hm : Is W b ks) (hg : W.grownBy W1 (some b)) : W1.heap[g]? = some (.cells cells t (0, 0)) := by
  have hlt : g < W.heap.size := (Array.getElem?_eq_some_iff.1 h).1
  refine (hg.block g hlt ?_).trans h
  intro he
  injection he with he
  subst he
  obtain ⟨D, ⟨es, clock, r, _⟩, _⟩ := hm
  rw [h] at r
  cases r
theorem wp_store {ops : Array Oper} {rest : List Oper} {o : Oper} {a : Act} {Q : Exit → Act → World → Prop} {w0 W : World} (base : Nat) {ok : Nat → Prop} {vv : Value} {ks : List Int}
    (hgd : o.guard = none) (m x v : Operand) (hop : o.op = Op.mapUpdate 42 m x v ∨ o.op = Op.insert 42 m x v) (hm : a.eval m = vv) (k : Int) (hx : a.eval x = .int .i64 k) (hv : a.eval v = .bool true) (hk : (Lit.int .i64 k).wf = true) (hn : ks.length < 17592186044416)
    (HO : IsV W base ok vv ks) (HB : Below base w0 W)
    (h : ∀ w1, IsV w1 base ok vv (ks ++ [k]) → Below base w0 w1 → (∃ b, Is W b ks ∧ W.grownBy w1 (some b)) → wpList Try.prog ops Q rest (a.put o.dst undef) w1) : wpList Try.prog ops Q (o :: rest) a W := by
  obtain ⟨b, rfl, h1, h2, h3⟩ := HO
  refine wpList_plain hgd fun K' hK' => ?_
  obtain ⟨w', hrun, r1, r2⟩ := h3.store hk (by unfold maxLen; omega)
  have hfin := h w' ⟨b, rfl, h1, h2, r1⟩ (HB.grown r2 (by have := h3.lt; omega) (fun j hj => by cases hj; exact h1)) ⟨b, h3, r2⟩
  unfold Oper.wp
  rcases hop with hop | hop <;> (simp [execOp, hop, hm, hx, hv, hrun, Result.andThen]; exact hK' _ _ hfin)
theorem wp_look {ops : Array Oper} {rest : List Oper} {o : Oper} {a : Act} {Q : Exit → Act → World → Prop} {W : World} {base : Nat} {ok : Nat → Prop} {b : Nat} {ks : List Int} {r : Bool}
    (hgd : o.guard = none) (m x : Operand) (hop : o.op = Op.lookup 42 m x false) (hm : a.eval m = .map (some b)) (k : Int) (hx : a.eval x = .int .i64 k) (hk : (Lit.int .i64 k).wf = true)
    (HO : IsV W base ok (.map (some b)) ks) (hr : ks.contains k = r) (h : wpList Try.prog ops Q rest (a.put o.dst (.bool r)) W) : wpList Try.prog ops Q (o :: rest) a W := by
  obtain ⟨b', e, h1, h2, h3⟩ := HO
  cases e
  refine wpList_plain hgd fun K' hK' => ?_
  have hrun := h3.look hk
  rw [hr] at hrun
  unfold Oper.wp
  simp [execOp, hop, hm, hx, hrun, Result.andThen]
  exact hK' _ _ h
end Go.Proofs.Ytebboloogedceaa.MapI
