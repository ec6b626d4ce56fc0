/- Plain law of AuditRebuilt: both tell whether the parts and the matches, one behind the other, are the bytes. -/
import Derived.Test.YtebboloogedceaaPl5
import Derived.Test.YtebboloogedceaaPRL
set_option linter.unusedVariables false
namespace Go.Proofs.Ytebboloogedceaa.Pure
open Go Go.RowKit Go.Proofs.Ytebboloogedceaa.PA Go.Proofs.YtebboloogedceaaW.PrintWords Go.Proofs.YtebboloogedceaaW.PrintLast Go.Proofs.YtebboloogedceaaW.PrintMore

/-- A match's first span. -/
def sp0 (f : S29) : S26 := rd_T26 f.f0 0
def Fits (size a : Int) (f : S29) : Prop := 0 < (f.f0.length : Int) ∧ a ≤ (sp0 f).f0 ∧ (sp0 f).f0 ≤ (sp0 f).f1 ∧ (sp0 f).f1 ≤ size

theorem ordered_ev (xs : List S29) (hx : xs.length ≤ 9223372036854775807) (size : Int) : ∀ (n i : Nat), xs.length - i = n → ∀ (a e ls le : Int), 0 ≤ a → a = le → e = (if ls = le then le else -1) →
    ∃ r, Ev (fun k => audit_Ordered.l0 k size a e xs (xs.length : Int) (i : Int)) r ∧ Ev (fun k => rubricatorref24_Ordered.l0 k size xs (xs.length : Int) (i : Int) ls le) r ∧ (r = true → ∀ f ∈ xs.drop i, Fits size a f) := by
  intro n
  induction n with
  | zero =>
    intro i hn a e ls le ha hae he
    refine ⟨true, Ev.succ ?_, Ev.succ ?_, fun _ f hf => ?_⟩
    · simp only [audit_Ordered.l0]; exact Ev.neg (by omega) (Ev.const _)
    · simp only [rubricatorref24_Ordered.l0]; exact Ev.neg (by omega) (Ev.const _)
    · rw [List.drop_eq_nil_of_le (by omega)] at hf; cases hf
  | succ n ih =>
    intro i hn a e ls le ha hae he
    have hi : i < xs.length := by omega
    have A : ∀ {r : Bool}, Ev (fun k => if ((xs[i].f0).length : Int) = 0 then some false else if 0 < ((xs[i].f0).length : Int) then (if (sp0 xs[i]).f0 < a then (audit_Ordered.j1 k size xs (xs.length : Int) (i : Int) true (sp0 xs[i]).f0 (sp0 xs[i]).f1) else (if (sp0 xs[i]).f1 < (sp0 xs[i]).f0 then (audit_Ordered.j1 k size xs (xs.length : Int) (i : Int) true (sp0 xs[i]).f0 (sp0 xs[i]).f1) else (if (sp0 xs[i]).f1 > size then (audit_Ordered.j1 k size xs (xs.length : Int) (i : Int) true (sp0 xs[i]).f0 (sp0 xs[i]).f1) else (if (sp0 xs[i]).f1 = (sp0 xs[i]).f0 then (audit_Ordered.j1 k size xs (xs.length : Int) (i : Int) ((sp0 xs[i]).f0 == e) (sp0 xs[i]).f0 (sp0 xs[i]).f1) else (audit_Ordered.j1 k size xs (xs.length : Int) (i : Int) false (sp0 xs[i]).f0 (sp0 xs[i]).f1))))) else none) r → Ev (fun k => audit_Ordered.l0 k size a e xs (xs.length : Int) (i : Int)) r := by
      intro r h
      refine Ev.succ ?_
      simp only [audit_Ordered.l0, rdB hi]
      exact Ev.pos (by omega) (Ev.pos (by omega) (Ev.pos (by omega) h))
    have B : ∀ {r : Bool}, Ev (fun k => if ((xs[i].f0).length : Int) = 0 then some false else if 0 < ((xs[i].f0).length : Int) then (if (sp0 xs[i]).f0 < le then some false else (if (sp0 xs[i]).f1 < (sp0 xs[i]).f0 then some false else (if (sp0 xs[i]).f1 > size then some false else (if ((sp0 xs[i]).f0 == ls && ((sp0 xs[i]).f1 == le)) = true then (if (sp0 xs[i]).f0 = (sp0 xs[i]).f1 then some false else rubricatorref24_Ordered.l0 k size xs (xs.length : Int) ((i + 1 : Nat) : Int) (sp0 xs[i]).f0 (sp0 xs[i]).f1) else rubricatorref24_Ordered.l0 k size xs (xs.length : Int) ((i + 1 : Nat) : Int) (sp0 xs[i]).f0 (sp0 xs[i]).f1)))) else none) r → Ev (fun k => rubricatorref24_Ordered.l0 k size xs (xs.length : Int) (i : Int) ls le) r := by
      intro r h
      refine Ev.succ ?_
      simp only [rubricatorref24_Ordered.l0, rdB hi, up1 hx hi]
      exact Ev.pos (by omega) (Ev.pos (by omega) (Ev.pos (by omega) h))
    have J1 : ∀ {s t : Int}, Ev (fun k => audit_Ordered.j1 k size xs (xs.length : Int) (i : Int) true s t) false := by
      intro s t
      refine Ev.succ ?_
      simp only [audit_Ordered.j1]
      exact Ev.pos (by simp) (Ev.const _)
    have J0 : ∀ {s t : Int} {r : Bool}, Ev (fun k => audit_Ordered.l0 k size t (if s = t then t else -1) xs (xs.length : Int) ((i + 1 : Nat) : Int)) r → Ev (fun k => audit_Ordered.j1 k size xs (xs.length : Int) (i : Int) false s t) r := by
      intro s t r h
      refine Ev.succ ?_
      simp only [audit_Ordered.j1, up1 hx hi]
      refine Ev.neg (by simp) ?_
      by_cases c : s = t
      · rw [if_pos c] at h; exact Ev.pos c h
      · rw [if_neg c] at h; exact Ev.neg c h
    by_cases hl : ((xs[i].f0).length : Int) = 0
    · exact ⟨false, A (Ev.pos hl (Ev.const _)), B (Ev.pos hl (Ev.const _)), fun h => by cases h⟩
    have hp : 0 < ((xs[i].f0).length : Int) := by omega
    obtain ⟨s, hs⟩ : ∃ s, s = (sp0 xs[i]).f0 := ⟨_, rfl⟩
    obtain ⟨t, ht⟩ : ∃ t, t = (sp0 xs[i]).f1 := ⟨_, rfl⟩
    rw [← hs, ← ht] at A B
    subst hae
    by_cases c1 : s < a
    · exact ⟨false, A (Ev.neg hl (Ev.pos hp (Ev.pos c1 J1))), B (Ev.neg hl (Ev.pos hp (Ev.pos c1 (Ev.const _)))), fun h => by cases h⟩
    by_cases c2 : t < s
    · exact ⟨false, A (Ev.neg hl (Ev.pos hp (Ev.neg c1 (Ev.pos c2 J1)))), B (Ev.neg hl (Ev.pos hp (Ev.neg c1 (Ev.pos c2 (Ev.const _))))), fun h => by cases h⟩
    by_cases c3 : t > size
    · exact ⟨false, A (Ev.neg hl (Ev.pos hp (Ev.neg c1 (Ev.neg c2 (Ev.pos c3 J1))))), B (Ev.neg hl (Ev.pos hp (Ev.neg c1 (Ev.neg c2 (Ev.pos c3 (Ev.const _)))))), fun h => by cases h⟩
    obtain ⟨r, q1, q2, q3⟩ := ih (i + 1) (by omega) t (if s = t then t else -1) s t (by omega) rfl rfl
    have F : r = true → ∀ f ∈ xs.drop i, Fits size a f := by
      intro h f hf
      rw [List.drop_eq_getElem_cons hi] at hf
      rcases List.mem_cons.1 hf with rfl | hf
      · exact ⟨hp, by omega, by omega, by omega⟩
      · obtain ⟨f1, f2, f3, f4⟩ := q3 h f hf
        exact ⟨f1, by omega, f3, f4⟩
    by_cases c4 : t = s
    · by_cases c5 : ls = a ∧ s = a
      · refine ⟨false, A (Ev.neg hl (Ev.pos hp (Ev.neg c1 (Ev.neg c2 (Ev.neg c3 (Ev.pos c4 ?_)))))), B (Ev.neg hl (Ev.pos hp (Ev.neg c1 (Ev.neg c2 (Ev.neg c3 (Ev.pos ?_ (Ev.pos c4.symm (Ev.const _)))))))), fun h => by cases h⟩
        · rw [show (s == e) = true from by rw [he, if_pos c5.1]; simp [c5.2]]
          exact J1
        · simp; omega
      · refine ⟨r, A (Ev.neg hl (Ev.pos hp (Ev.neg c1 (Ev.neg c2 (Ev.neg c3 (Ev.pos c4 ?_)))))), B (Ev.neg hl (Ev.pos hp (Ev.neg c1 (Ev.neg c2 (Ev.neg c3 (Ev.neg ?_ q2)))))), F⟩
        · rw [show (s == e) = false from by
            rw [he]
            by_cases c6 : ls = a
            · rw [if_pos c6]; simp; exact fun h => c5 ⟨c6, h⟩
            · rw [if_neg c6]; simp; omega]
          exact J0 q1
        · simp; omega
    · refine ⟨r, A (Ev.neg hl (Ev.pos hp (Ev.neg c1 (Ev.neg c2 (Ev.neg c3 (Ev.neg c4 (J0 q1))))))), B (Ev.neg hl (Ev.pos hp (Ev.neg c1 (Ev.neg c2 (Ev.neg c3 ?_))))), F⟩
      by_cases c7 : ((s == ls) && (t == a)) = true
      · exact Ev.pos c7 (Ev.neg (by omega) q2)
      · exact Ev.neg c7 q2

def By (l : List Int) : Prop := ∀ x ∈ l, 0 ≤ x ∧ x < 256
/-- A part that is small. -/
def Sm (l : List Int) : Prop := l.length ≤ 1048576 ∧ By l
theorem flat_len {ls : List (List Int)} (h : ∀ l ∈ ls, Sm l) : ls.flatten.length ≤ ls.length * 1048576 := by
  induction ls with
  | nil => simp
  | cons l r ih =>
    have h1 := (h l (by simp)).1
    have h2 := ih (fun x hx => h x (List.mem_cons_of_mem _ hx))
    simp only [List.flatten_cons, List.length_append, List.length_cons]
    omega
theorem join_some {ls : List (List Int)} (h0 : 0 < ls.length) (h1 : ls.length ≤ 4000000) (h : ∀ l ∈ ls, Sm l) : bytes_Join.f ls = some ls.flatten := by
  unfold bytes_Join.f
  have := flat_len h
  exact if_pos ⟨⟨h0, by omega⟩, fun l hl => (h l hl).2, by omega⟩
theorem Sm.cut {b : List Int} (h : Sm b) (lo hi : Nat) : Sm ((b.take hi).drop lo) :=
  ⟨by rw [List.length_drop, List.length_take]; have := h.1; omega, fun x hx => h.2 x (List.mem_of_mem_take (List.mem_of_mem_drop hx))⟩
theorem rdL {xs : List (List Int)} {i : Nat} (h : i < xs.length) : rd_L6 xs (i : Int) = xs[i] := by unfold rd_L6; simp [List.getD_eq_getElem?_getD, h]

theorem rebuilt_ev {b : List Int} (hb : Sm b) {parts : List (List Int)} (hp : ∀ l ∈ parts, Sm l) (hpl : parts.length ≤ 1048576) (L : List S29) (hL : L.length ≤ 1048576) (hf : ∀ f ∈ L, Fits (b.length : Int) 0 f) : ∀ (n i : Nat), L.length - i = n → ∀ (all : List (List Int)) (j : Nat), all.length ≤ 2 * i → i ≤ L.length → (∀ l ∈ all, Sm l) → j ≤ parts.length →
    ∃ r, Ev (fun k => audit_Rebuilt.l0 k b (parts.drop j) all L (L.length : Int) (i : Int)) r ∧ Ev (fun k => rubricatorref24_Rebuilt.l0 k b parts all.flatten (j : Int) L (L.length : Int) (i : Int)) r := by
  intro n
  induction n with
  | zero =>
    intro i hn all j ha hiL hs hj
    have hfl := flat_len hs
    by_cases c : j + 1 = parts.length
    · have hjl : j < parts.length := by omega
      have hd : parts.drop j = [parts[j]] := by rw [List.drop_eq_getElem_cons hjl, List.drop_eq_nil_of_le (by omega)]
      have hs2 : ∀ l ∈ all ++ [parts[j]], Sm l := fun l hl => by
        rcases List.mem_append.1 hl with h | h
        · exact hs l h
        · rw [List.mem_singleton.1 h]; exact hp _ (List.getElem_mem hjl)
      have hpj := (hp _ (List.getElem_mem hjl)).1
      refine ⟨((strOfNums (all ++ [parts[j]]).flatten).toList == (strOfNums b).toList), Ev.succ ?_, Ev.succ ?_⟩
      · simp only [audit_Rebuilt.l0, hd]
        refine Ev.neg (by omega) (Ev.pos (by simp) (Ev.pos (by simp) (Ev.pos (by omega) ?_)))
        simp only [show rd_L6 [parts[j]] 0 = parts[j] from rfl, join_some (ls := all ++ [parts[j]]) (by simp) (by simp; omega) hs2, bytes_Equal.f, Option.bind_some]
        exact Ev.const _
      · simp only [rubricatorref24_Rebuilt.l0, rdL hjl]
        refine Ev.neg (by omega) (Ev.pos (by rw [w64 (by omega) (by omega)]; omega) (Ev.pos (by omega) (Ev.pos (by omega) (Ev.pos (by omega) ?_))))
        rw [show all.flatten ++ parts[j] = (all ++ [parts[j]]).flatten from by simp]
        exact Ev.const _
    · refine ⟨false, Ev.succ ?_, Ev.succ ?_⟩
      · simp only [audit_Rebuilt.l0]
        exact Ev.neg (by omega) (Ev.neg (by rw [List.length_drop]; omega) (Ev.const _))
      · simp only [rubricatorref24_Rebuilt.l0]
        exact Ev.neg (by omega) (Ev.neg (by rw [w64 (by omega) (by omega)]; omega) (Ev.const _))
  | succ n ih =>
    intro i hn all j ha hiL hs hj
    have hi : i < L.length := by omega
    obtain ⟨f1, f2, f3, f4⟩ := hf _ (List.getElem_mem hi)
    have hfl := flat_len hs
    have A : ∀ {r : Bool}, Ev (fun k => if (sp0 L[i]).f0 = (sp0 L[i]).f1 then audit_Rebuilt.l0 k b (parts.drop j) all L (L.length : Int) ((i + 1 : Nat) : Int) else if ((parts.drop j).length : Int) = 0 then some false else if 0 < ((parts.drop j).length : Int) then (if 0 ≤ (sp0 L[i]).f0 then (if (sp0 L[i]).f0 ≤ (sp0 L[i]).f1 then (if (sp0 L[i]).f1 ≤ (b.length : Int) then ((some [rd_L6 (parts.drop j) 0, (b.take (sp0 L[i]).f1.toNat).drop (sp0 L[i]).f0.toNat]).bind fun y124 => if all.length + y124.length < 5864062014805 then (if 1 ≤ ((parts.drop j).length : Int) then audit_Rebuilt.l0 k b ((parts.drop j).drop 1) (all ++ y124) L (L.length : Int) ((i + 1 : Nat) : Int) else none) else none) else none) else none) else none) else none) r → Ev (fun k => audit_Rebuilt.l0 k b (parts.drop j) all L (L.length : Int) (i : Int)) r := by
      intro r h
      refine Ev.succ ?_
      simp only [audit_Rebuilt.l0, rdB hi, up1 (n := L.length) (by omega) hi]
      exact Ev.pos (by omega) (Ev.pos (by omega) (Ev.pos (by omega) (Ev.pos f1 h)))
    have B : ∀ {r : Bool}, Ev (fun k => if (sp0 L[i]).f0 = (sp0 L[i]).f1 then rubricatorref24_Rebuilt.l0 k b parts all.flatten (j : Int) L (L.length : Int) ((i + 1 : Nat) : Int) else if (j : Int) ≥ (parts.length : Int) then some false else if 0 ≤ (j : Int) then (if (j : Int) < (parts.length : Int) then (if all.flatten.length + (rd_L6 parts (j : Int)).length < 140737488355328 then ((some (all.flatten ++ rd_L6 parts (j : Int))).bind fun y150 => if 0 ≤ (sp0 L[i]).f0 then (if (sp0 L[i]).f0 ≤ (sp0 L[i]).f1 then (if (sp0 L[i]).f1 ≤ (b.length : Int) then (if y150.length + ((b.take (sp0 L[i]).f1.toNat).drop (sp0 L[i]).f0.toNat).length < 140737488355328 then rubricatorref24_Rebuilt.l0 k b parts (y150 ++ (b.take (sp0 L[i]).f1.toNat).drop (sp0 L[i]).f0.toNat) (wrap64 ((j : Int) + 1)) L (L.length : Int) ((i + 1 : Nat) : Int) else none) else none) else none) else none) else none) else none) else none) r → Ev (fun k => rubricatorref24_Rebuilt.l0 k b parts all.flatten (j : Int) L (L.length : Int) (i : Int)) r := by
      intro r h
      refine Ev.succ ?_
      simp only [rubricatorref24_Rebuilt.l0, rdB hi, up1 (n := L.length) (by omega) hi]
      exact Ev.pos (by omega) (Ev.pos (by omega) (Ev.pos (by omega) (Ev.pos f1 h)))
    by_cases c1 : (sp0 L[i]).f0 = (sp0 L[i]).f1
    · obtain ⟨r, q1, q2⟩ := ih (i + 1) (by omega) all j (by omega) (by omega) hs hj
      exact ⟨r, A (Ev.pos c1 q1), B (Ev.pos c1 q2)⟩
    by_cases c2 : j = parts.length
    · refine ⟨false, A (Ev.neg c1 (Ev.pos ?_ (Ev.const _))), B (Ev.neg c1 (Ev.pos ?_ (Ev.const _)))⟩
      · rw [List.length_drop]; omega
      · omega
    have hjl : j < parts.length := by omega
    have hdl : ((parts.drop j).length : Int) = parts.length - j := by rw [List.length_drop]; omega
    have hd0 : rd_L6 (parts.drop j) 0 = parts[j] := by rw [List.drop_eq_getElem_cons hjl]; rfl
    have hpj := (hp _ (List.getElem_mem hjl))
    have hcut := hb.cut (sp0 L[i]).f0.toNat (sp0 L[i]).f1.toNat
    generalize hC : (b.take (sp0 L[i]).f1.toNat).drop (sp0 L[i]).f0.toNat = C at A B hcut
    rw [hd0] at A
    rw [rdL hjl] at B
    obtain ⟨r, q1, q2⟩ := ih (i + 1) (by omega) (all ++ [parts[j], C]) (j + 1) (by simp; omega) (by omega) (fun l hl => by
      rcases List.mem_append.1 hl with h | h
      · exact hs l h
      · rcases List.mem_cons.1 h with rfl | h
        · exact hpj
        · rw [List.mem_singleton.1 h]; exact hcut) (by omega)
    refine ⟨r, A (Ev.neg c1 (Ev.neg (by omega) (Ev.pos (by omega) (Ev.pos f2 (Ev.pos f3 (Ev.pos f4 ?_)))))), B (Ev.neg c1 (Ev.neg (by omega) (Ev.pos (by omega) (Ev.pos (by omega) (Ev.pos ?_ ?_)))))⟩
    · simp only [Option.bind_some]
      refine Ev.pos (by simp; omega) (Ev.pos (by omega) ?_)
      rw [List.drop_drop]
      exact q1
    · have := hpj.1; omega
    · simp only [Option.bind_some]
      refine Ev.pos f2 (Ev.pos f3 (Ev.pos f4 (Ev.pos ?_ ?_)))
      · rw [List.length_append]; have := hpj.1; have := hcut.1; omega
      · rw [up1 (n := parts.length) (by omega) hjl]
        rw [show (all ++ [parts[j], C]).flatten = all.flatten ++ parts[j] ++ C from by simp] at q2
        exact q2

theorem by_of {l : List Int} (h : ∀ x ∈ l, (Lit.int .u8 x).wf = true) : By l := fun x hx => by
  have := bounds_u8 (h x hx); omega

theorem rebuilt_both {b : List Int} (hb : Sm b) {parts : List (List Int)} (hp : ∀ l ∈ parts, Sm l) (hpl : parts.length ≤ 1048576) (L : List S29) (hL : L.length ≤ 1048576) :
    ∃ r, Ev (fun k => audit_Rebuilt.f k b parts L) r ∧ Ev (fun k => rubricatorref24_Rebuilt.f k b parts L) r := by
  obtain ⟨r, q1, q2, q3⟩ := ordered_ev L (by omega) (b.length : Int) _ 0 rfl 0 (-1) (-1) 0 (by omega) rfl rfl
  by_cases h : r = true
  · subst h
    obtain ⟨r', p1, p2⟩ := rebuilt_ev hb hp hpl L hL (q3 rfl) _ 0 rfl [] 0 (by simp) (by omega) (by simp) (by omega)
    refine ⟨r', ?_, ?_⟩
    · unfold audit_Rebuilt.f audit_Ordered.f
      exact Ev.bind q1 (Ev.pos rfl p1)
    · unfold rubricatorref24_Rebuilt.f rubricatorref24_Ordered.f
      exact Ev.bind q2 (Ev.pos rfl p2)
  · have h : r = false := by simpa using h
    subst h
    refine ⟨false, ?_, ?_⟩
    · unfold audit_Rebuilt.f audit_Ordered.f
      exact Ev.bind q1 (Ev.neg (by simp) (Ev.const _))
    · unfold rubricatorref24_Rebuilt.f rubricatorref24_Ordered.f
      exact Ev.bind q2 (Ev.neg (by simp) (Ev.const _))

theorem rebuilt_self {b : List Int} (hb : Sm b) : Ev (fun k => audit_Rebuilt.f k b [b] []) true := by
  unfold audit_Rebuilt.f audit_Ordered.f
  refine Ev.bind (a := true) (Ev.succ ?_) (Ev.pos rfl (Ev.succ ?_))
  · simp only [audit_Ordered.l0]
    exact Ev.neg (by simp) (Ev.const _)
  · simp only [audit_Rebuilt.l0]
    refine Ev.neg (by simp) (Ev.pos (by simp) (Ev.pos (by simp) (Ev.pos (by simp) ?_)))
    simp only [show rd_L6 [b] 0 = b from rfl, List.nil_append, join_some (ls := [b]) (by simp) (by simp) (fun l hl => by rw [List.mem_singleton.1 hl]; exact hb), Option.bind_some]
    unfold bytes_Equal.f
    simp only [List.flatten_cons, List.flatten_nil, List.append_nil, beq_self_eq_true, Option.bind_some]
    exact Ev.const _

theorem AuditRebuilt_true (b : List Int) (parts : List (List Int)) (L : List S29) (hb : ∀ x ∈ b, (Lit.int .u8 x).wf = true) (hl : b.length ≤ 1048576) (hp : ∀ l ∈ parts, (∀ x ∈ l, (Lit.int .u8 x).wf = true) ∧ l.length ≤ 1048576) (hpl : parts.length ≤ 1048576) (hw : ∀ f ∈ L, WfF f) (hL : L.length ≤ 1048576) : ∃ k, rubricatorlaw24_AuditRebuilt.f k b parts L = some true := by
  have sb : Sm b := ⟨hl, by_of hb⟩
  obtain ⟨r, q1, q2⟩ := rebuilt_both sb (parts := parts) (fun l h => ⟨(hp l h).2, by_of (hp l h).1⟩) hpl L hL
  refine Ev.get (f := fun k => rubricatorlaw24_AuditRebuilt.f k b parts L) ?_
  unfold rubricatorlaw24_AuditRebuilt.f
  exact Ev.bind q1 (Ev.bind q2 (Ev.pos (by simp) (Ev.bind (rebuilt_self sb) (Ev.const _))))
end Go.Proofs.Ytebboloogedceaa.Pure
