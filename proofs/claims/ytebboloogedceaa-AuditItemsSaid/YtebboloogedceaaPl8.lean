/- Plain law of AuditItems: the items of bytes, as matches, stand in order, at edges, and rebuild the bytes. -/
import Derived.Test.YtebboloogedceaaPl6
import Derived.Test.YtebboloogedceaaPl7
import Derived.Test.YtebboloogedceaaPRI
import Derived.Lib.Bytes
set_option linter.unusedVariables false
namespace Go.Proofs.Ytebboloogedceaa.Pure
open Go Go.RowKit Go.Proofs.Ytebboloogedceaa.PA Go.Proofs.YtebboloogedceaaW.PrintWords Go.Proofs.YtebboloogedceaaW.PrintLast Go.Proofs.YtebboloogedceaaW.PrintMore

/-- Items one behind the other, from p to q. -/
def Chain : Int → List S39 → Int → Prop
  | p, [], q => p = q
  | p, x :: xs, q => x.f1 = p ∧ p < x.f2 ∧ Chain x.f2 xs q
theorem Chain.le : ∀ {xs : List S39} {p q : Int}, Chain p xs q → p ≤ q
  | [], p, q, h => by rw [show p = q from h]; omega
  | x :: xs, p, q, ⟨h1, h2, h3⟩ => by have := Chain.le h3; omega
theorem items_chain (f : Nat) : ∀ (b : List Int) (p : Int), b.length ≤ f → Chain p (itemsF f b p) (p + b.length) := by
  induction f with
  | zero =>
    intro b p h
    rw [List.eq_nil_of_length_eq_zero (show b.length = 0 by omega), itemsF]
    show p = p + _
    simp
  | succ f ih =>
    intro b p h
    rw [itemsF]
    by_cases hp : 0 < (b.length : Int)
    · have n := dec1_n hp
      rw [if_pos hp]
      refine ⟨rfl, by dsimp only; omega, ?_⟩
      have := ih (b.drop (dec1 b).2.1.toNat) (p + (dec1 b).2.1) (by rw [List.length_drop]; omega)
      rw [List.length_drop] at this
      rw [show p + (b.length : Int) = p + (dec1 b).2.1 + ((b.length - (dec1 b).2.1.toNat : Nat) : Int) from by omega]
      exact this
    · rw [if_neg hp]
      show p = _
      omega
theorem Chain.mem : ∀ {xs : List S39} {p q : Int}, Chain p xs q → ∀ x ∈ xs, p ≤ x.f1 ∧ x.f1 < x.f2 ∧ x.f2 ≤ q ∧ (x.f2 = q ∨ ∃ y ∈ xs, y.f1 = x.f2)
  | x :: xs, p, q, ⟨h1, h2, h3⟩, z, hz => by
    have hle := h3.le
    rcases List.mem_cons.1 hz with rfl | hz
    · refine ⟨by omega, by omega, hle, ?_⟩
      cases xs with
      | nil => exact .inl h3
      | cons y ys => exact .inr ⟨y, by simp, h3.1⟩
    · obtain ⟨a, b, c, d⟩ := Chain.mem h3 z hz
      refine ⟨by omega, b, c, ?_⟩
      rcases d with d | ⟨y, hy, e⟩
      · exact .inl d
      · exact .inr ⟨y, List.mem_cons_of_mem _ hy, e⟩
theorem Chain.last : ∀ {xs : List S39} {p q : Int}, Chain p xs q → xs ≠ [] → ∃ x ∈ xs, x.f2 = q
  | [], _, _, _, h => absurd rfl h
  | [x], p, q, ⟨_, _, h3⟩, _ => ⟨x, by simp, h3⟩
  | x :: y :: ys, p, q, ⟨_, _, h3⟩, _ => by
    obtain ⟨z, hz, e⟩ := Chain.last h3 (by simp)
    exact ⟨z, List.mem_cons_of_mem _ hz, e⟩

/-- An item as a match. -/
def asM (x : S39) : S29 := ⟨[⟨x.f1, x.f2⟩]⟩
theorem sp0_asM (x : S39) : sp0 (asM x) = ⟨x.f1, x.f2⟩ := rfl

theorem Ev.uniq {α : Type} {f : Nat → Option α} {a b : α} (h1 : Ev f a) (h2 : Ev f b) : a = b := by
  obtain ⟨K, hK⟩ := h1
  obtain ⟨L, hL⟩ := h2
  have := (hK (max K L) (by omega)).symm.trans (hL (max K L) (by omega))
  exact Option.some.inj this

theorem ordered_items (xs : List S39) (hx : xs.length ≤ 1048576) (size : Int) : ∀ (n i : Nat), xs.length - i = n → ∀ (a e q : Int), 0 ≤ a → Chain a (xs.drop i) q → q ≤ size → Ev (fun k => audit_Ordered.l0 k size a e (xs.map asM) ((xs.map asM).length : Int) (i : Int)) true := by
  intro n
  induction n with
  | zero =>
    intro i hn a e q _ hc hq
    refine Ev.succ ?_
    simp only [audit_Ordered.l0]
    exact Ev.neg (by rw [List.length_map]; omega) (Ev.const _)
  | succ n ih =>
    intro i hn a e q ha hc hq
    have hi : i < xs.length := by omega
    have him : i < (xs.map asM).length := by rw [List.length_map]; exact hi
    rw [List.drop_eq_getElem_cons hi] at hc
    obtain ⟨h1, h2, h3⟩ := hc
    have hle := h3.le
    refine Ev.succ ?_
    simp only [audit_Ordered.l0, rdB him]
    refine Ev.pos (by rw [List.length_map]; omega) (Ev.pos (by omega) (Ev.pos (by rw [List.length_map]; omega) ?_))
    simp only [List.getElem_map]
    simp only [show (rd_T26 (asM xs[i]).f0 0) = ⟨xs[i].f1, xs[i].f2⟩ from rfl]
    refine Ev.neg (by simp [asM]) (Ev.pos (by simp [asM]) (Ev.neg (by omega) (Ev.neg (by omega) (Ev.neg (by omega) (Ev.neg (by omega) (Ev.succ ?_))))))
    simp only [audit_Ordered.j1, up1 (n := (xs.map asM).length) (by rw [List.length_map]; omega) him]
    exact Ev.neg (by simp) (Ev.neg (by omega) (ih (i + 1) (by omega) _ _ q (by omega) h3 hq))

theorem ordered_over (xs : List S39) (hx : xs.length ≤ 1048576) {size q : Int} (hc : Chain 0 xs q) (hne : xs ≠ []) (hq : size < q) : Ev (fun k => audit_Ordered.f k (xs.map asM) size) false := by
  unfold audit_Ordered.f
  obtain ⟨r, q1, _, q3⟩ := ordered_ev (xs.map asM) (by rw [List.length_map]; omega) size _ 0 rfl 0 (-1) (-1) 0 (by omega) rfl rfl
  cases r with
  | false => exact q1
  | true =>
    obtain ⟨x, hx, e⟩ := hc.last hne
    have := q3 rfl (asM x) (by rw [List.drop_zero]; exact List.mem_map.2 ⟨x, hx, rfl⟩)
    have h4 := this.2.2.2
    rw [sp0_asM] at h4
    dsimp only at h4
    omega

theorem edges_items {b : List Int} (hb : Byt b) (hl : b.length ≤ 1000) : Ev (fun k => audit_Edges.f k b ((itemsF b.length b 0).map asM)) true := by
  have hn := itemsF_len b.length b 0
  have hwx : ∀ x ∈ itemsF b.length b 0, (Lit.int .i64 x.f1).wf = true ∧ (Lit.int .i64 x.f2).wf = true := by
    intro x hx
    have := itemsF_bd b.length b 0 (Nat.le_refl _) x hx
    simp [Lit.wf, IntKind.min, IntKind.max, IntKind.bits, IntKind.signed]
    omega
  have hch := items_chain b.length b 0 (Nat.le_refl _)
  rw [Int.zero_add] at hch
  have hde : ∀ k, b.length + 12 ≤ k → utf_Decode.f k b = some (itemsF b.length b 0) := fun k hk => decode_spec hb (by omega) k hk
  generalize itemsF b.length b 0 = xs at *
  have hset : ∀ v, (v = (b.length : Int) ∨ ∃ y ∈ xs, y.f1 = v) → ([(b.length : Int)] ++ xs.map (·.f1)).contains v = true := by
    intro v h
    rw [List.contains_iff_mem]
    rcases h with h | ⟨y, hy, e⟩
    · rw [h]; simp
    · exact List.mem_append_right _ (List.mem_map.2 ⟨y, hy, e⟩)
  have loop : ∀ (n i : Nat), xs.length - i = n → Ev (fun k => audit_Edges.l1 k ([(b.length : Int)] ++ xs.map (·.f1)) (xs.map asM) ((xs.map asM).length : Int) (i : Int) (-1) (-1)) true := by
    intro n
    induction n with
    | zero =>
      intro i hn
      refine Ev.succ ?_
      simp only [audit_Edges.l1]
      exact Ev.neg (by rw [List.length_map]; omega) (Ev.const _)
    | succ n ih =>
      intro i hn
      have hi : i < xs.length := by omega
      have him : i < (xs.map asM).length := by rw [List.length_map]; exact hi
      have hsucc : xs.length - (i + 1) = n := by omega
      have hu := up1 (n := (xs.map asM).length) (by rw [List.length_map]; omega) him
      have hmi : ((i : Int) < ((xs.map asM).length : Int)) := by omega
      obtain ⟨m1, m2, m3, m4⟩ := hch.mem _ (List.getElem_mem hi)
      obtain ⟨w1, w2⟩ := hwx _ (List.getElem_mem hi)
      refine Ev.succ ?_
      simp only [audit_Edges.l1, rdB him]
      refine Ev.pos hmi (Ev.pos (by omega) (Ev.pos hmi ?_))
      simp only [List.getElem_map]
      have nxt : Ev (fun k => audit_Edges.l2 k ([(b.length : Int)] ++ xs.map (·.f1)) (xs.map asM) ((xs.map asM).length : Int) (i : Int) (asM xs[i]).f0 ((asM xs[i]).f0.length : Int) 1 (-1) (-1)) true := by
        refine Ev.succ ?_
        simp only [audit_Edges.l2, hu]
        exact Ev.neg (by simp [asM]) (ih (i + 1) hsucc)
      refine Ev.succ ?_
      simp only [audit_Edges.l2, show (rd_T26 (asM xs[i]).f0 0) = ⟨xs[i].f1, xs[i].f2⟩ from rfl, show wrap64 (0 + 1) = 1 from w64 (by decide) (by decide)]
      refine Ev.pos (by simp [asM]) (Ev.pos (by omega) (Ev.pos (by simp [asM]) (Ev.pos (by simp; omega) (Ev.neg (by omega) (Ev.pos w1 (Ev.pos (hset _ (.inr ⟨_, List.getElem_mem hi, rfl⟩)) (Ev.pos w2 (Ev.pos (hset _ m4) nxt))))))))
  unfold audit_Edges.f
  have h0 := loop _ 0 rfl
  refine Ev.pos ⟨by simp, by simp [Lit.wf, IntKind.min, IntKind.max, IntKind.bits, IntKind.signed]; omega⟩ (Ev.bind ⟨b.length + 12, hde⟩ ?_)
  refine collect (by omega) (fun x hx => (hwx x hx).1) (xs.map asM) _ 0 rfl _ (by simp; omega) ?_
  rw [List.drop_zero, List.nil_append]
  exact h0
theorem cut_join (B : List Int) {a c : Nat} (h : a ≤ c) : B.take a ++ (B.take c).drop a = B.take c := by
  have : (B.take c).take a = B.take a := by rw [List.take_take, Nat.min_eq_left h]
  rw [← this, List.take_append_drop]

theorem rebuilt_items {B : List Int} (hB : Sm B) (xs : List S39) (hx : xs.length ≤ 1000) {q : Int} (hq : q ≤ B.length) : ∀ (n i : Nat), xs.length - i = n → i ≤ xs.length → ∀ (a : Int) (all : List (List Int)), 0 ≤ a → Chain a (xs.drop i) q → all.length ≤ 2 * i → (∀ l ∈ all, Sm l) → all.flatten = B.take a.toNat →
    Ev (fun k => audit_Rebuilt.l0 k B (List.replicate (n + 1) []) all (xs.map asM) ((xs.map asM).length : Int) (i : Int)) ((strOfNums (B.take q.toNat)).toList == (strOfNums B).toList) := by
  intro n
  induction n with
  | zero =>
    intro i hn hil a all ha hc hal hs hf
    rw [List.drop_eq_nil_of_le (by omega)] at hc
    obtain rfl : a = q := hc
    refine Ev.succ ?_
    simp only [audit_Rebuilt.l0]
    refine Ev.neg (by rw [List.length_map]; omega) (Ev.pos (by simp) (Ev.pos (by simp) (Ev.pos (by omega) ?_)))
    simp only [show rd_L6 (List.replicate (0 + 1) []) 0 = [] from rfl]
    rw [join_some (ls := all ++ [[]]) (by simp) (by simp; omega) (fun l hl => by
      rcases List.mem_append.1 hl with h | h
      · exact hs l h
      · rw [List.mem_singleton.1 h]; exact ⟨by simp, fun x hx => by cases hx⟩)]
    simp only [List.flatten_append, hf, List.flatten_cons, List.flatten_nil, List.append_nil, Option.bind_some, bytes_Equal.f]
    exact Ev.const _
  | succ n ih =>
    intro i hn hil a all ha hc hal hs hf
    have hi : i < xs.length := by omega
    have him : i < (xs.map asM).length := by rw [List.length_map]; exact hi
    rw [List.drop_eq_getElem_cons hi] at hc
    obtain ⟨h1, h2, h3⟩ := hc
    have hle := h3.le
    refine Ev.succ ?_
    simp only [audit_Rebuilt.l0, rdB him, up1 (n := (xs.map asM).length) (by rw [List.length_map]; omega) him]
    refine Ev.pos (by rw [List.length_map]; omega) (Ev.pos (by omega) (Ev.pos (by rw [List.length_map]; omega) ?_))
    simp only [List.getElem_map]
    simp only [show (rd_T26 (asM xs[i]).f0 0) = ⟨xs[i].f1, xs[i].f2⟩ from rfl]
    refine Ev.pos (by simp [asM]) (Ev.neg (by omega) (Ev.neg (by simp; omega) (Ev.pos (by simp; omega) (Ev.pos (by omega) (Ev.pos (by omega) (Ev.pos (by omega) ?_))))))
    simp only [Option.bind_some]
    refine Ev.pos (by simp; omega) (Ev.pos (by simp; omega) ?_)
    rw [show (List.replicate (n + 1 + 1) ([] : List Int)).drop 1 = List.replicate (n + 1) [] from rfl, show rd_L6 (List.replicate (n + 1 + 1) []) 0 = [] from rfl]
    refine ih (i + 1) (by omega) (by omega) xs[i].f2 _ (by omega) h3 (by simp; omega) (fun l hl => ?_) ?_
    · rcases List.mem_append.1 hl with h | h
      · exact hs l h
      · rcases List.mem_cons.1 h with rfl | h
        · exact ⟨by simp, fun x hx => by cases hx⟩
        · rw [List.mem_singleton.1 h]; exact hB.cut _ _
    · rw [List.flatten_append, hf]
      simp only [List.flatten_cons, List.flatten_nil, List.append_nil, List.nil_append]
      rw [h1]
      exact cut_join B (by omega)

theorem toList_snoc (b : List Int) (c : Int) : ((strOfNums b).toList == (strOfNums (b ++ [c])).toList) = false := by
  rw [Lib.strOfNums_toList, Lib.strOfNums_toList]
  refine beq_eq_false_iff_ne.mpr fun h => ?_
  have := congrArg List.length h
  simp [Lib.bytesOf] at this

theorem rebuilt_f {B : List Int} (hB : Sm B) {xs : List S39} (hx : xs.length ≤ 1000) {q : Int} (hq : q ≤ B.length) (hc : Chain 0 xs q) :
    Ev (fun k => audit_Rebuilt.f k B (List.replicate (xs.length + 1) []) (xs.map asM)) ((strOfNums (B.take q.toNat)).toList == (strOfNums B).toList) := by
  unfold audit_Rebuilt.f audit_Ordered.f
  exact Ev.bind (ordered_items xs (by omega) (B.length : Int) _ 0 rfl 0 (-1) q (by omega) hc hq) (Ev.pos rfl (rebuilt_items hB xs hx hq _ 0 rfl (by omega) 0 [] (by omega) hc (by simp) (by simp) (by simp)))

theorem items_loop {b : List Int} (hb : Byt b) (hs : Sm b) (hl : b.length ≤ 200) {c : Int} (hcb : 0 ≤ c ∧ c < 256) {xs : List S39} (hxs : xs = itemsF b.length b 0) : ∀ (n i : Nat), xs.length - i = n → i ≤ xs.length →
    Ev (fun k => rubricatorlaw24_AuditItems.l0 k b c ((xs.take i).map asM) (List.replicate (i + 1) []) xs (xs.length : Int) (i : Int)) true := by
  have hn : xs.length ≤ b.length := by rw [hxs]; exact itemsF_len _ _ _
  have hch := items_chain b.length b 0 (Nat.le_refl _)
  rw [Int.zero_add, ← hxs] at hch
  intro n
  induction n with
  | zero =>
    intro i hi hle
    have e : xs.take i = xs := List.take_of_length_le (by omega)
    have ei : i = xs.length := by omega
    rw [e, ei]
    refine Ev.succ ?_
    simp only [rubricatorlaw24_AuditItems.l0, bytes_Clone.f, Option.bind_some, List.nil_append, List.length_nil, Nat.zero_add]
    refine Ev.neg (by omega) (Ev.bind (a := b) ?_ ?_)
    · exact Ev.pos (by omega) (Ev.const _)
    refine Ev.pos (by omega) (Ev.bind (a := true) ?_ (Ev.pos rfl (Ev.bind (a := true) ?_ (Ev.pos rfl (Ev.bind (a := true) ?_ (Ev.pos rfl (Ev.bind (a := false) ?_ (Ev.neg (by simp) ?_))))))))
    · unfold audit_Ordered.f
      exact ordered_items xs (by omega) (b.length : Int) _ 0 rfl 0 (-1) _ (by omega) hch (by omega)
    · have := edges_items hb (by omega)
      rw [← hxs] at this
      exact this
    · have := rebuilt_f hs (xs := xs) (by omega) (q := (b.length : Int)) (by omega) hch
      rw [Int.toNat_natCast, List.take_of_length_le (Nat.le_refl _), beq_self_eq_true] at this
      exact this
    · have := rebuilt_f (B := b ++ [c]) ⟨by simp; omega, fun x hx => by
        rcases List.mem_append.1 hx with h | h
        · exact hs.2 x h
        · rw [List.mem_singleton.1 h]; exact hcb⟩ (xs := xs) (by omega) (q := (b.length : Int)) (by rw [List.length_append]; omega) hch
      rw [Int.toNat_natCast, List.take_left, toList_snoc] at this
      exact this
    · by_cases h0 : (b.length : Int) = 0
      · exact Ev.pos h0 (Ev.const _)
      · refine Ev.neg h0 (Ev.bind (a := false) ?_ ?_)
        · rw [w64 (by omega) (by omega)]
          refine ordered_over xs (by omega) hch (fun h => ?_) (by omega)
          rw [h] at hch
          have : (0 : Int) = (b.length : Int) := hch
          omega
        · exact Ev.const _
  | succ n ih =>
    intro i hi hle
    have hil : i < xs.length := by omega
    have h1 := ih (i + 1) (by omega) (by omega)
    refine Ev.succ ?_
    simp only [rubricatorlaw24_AuditItems.l0, rdA hil, up1 (n := xs.length) (by omega) hil]
    refine Ev.pos (by omega) (Ev.pos (by omega) (Ev.pos (by omega) (Ev.pos (by simp; omega) (Ev.pos (by simp; omega) ?_))))
    rw [List.take_succ_eq_append_getElem hil, List.map_append, List.replicate_succ'] at h1
    exact h1

theorem AuditItems_true (b : List Int) (c : Int) (hb : ∀ x ∈ b, (Lit.int .u8 x).wf = true) (hl : b.length * 1 ≤ 140737488351232) (hc : (Lit.int .u8 c).wf = true) : ∃ k, rubricatorlaw24_AuditItems.f k b c = some true := by
  have hmn : mn (b.length : Int) 200 = if (200 : Int) < (b.length : Int) then 200 else (b.length : Int) := rfl
  refine Ev.get (f := fun k => rubricatorlaw24_AuditItems.f k b c) ?_
  unfold rubricatorlaw24_AuditItems.f
  have h2 : 0 ≤ mn (b.length : Int) 200 ∧ mn (b.length : Int) 200 ≤ (b.length : Int) ∧ mn (b.length : Int) 200 ≤ 200 := by
    rw [hmn]; split <;> omega
  refine Ev.pos h2.1 (Ev.pos h2.2.1 ?_)
  have hbt : Byt (b.take (mn (b.length : Int) 200).toNat) := (byt_of hb).take _
  have hlt : (b.take (mn (b.length : Int) 200).toNat).length ≤ 200 := by rw [List.length_take]; omega
  have hsm : Sm (b.take (mn (b.length : Int) 200).toNat) := ⟨by omega, fun x hx => by_of hb x (List.mem_of_mem_take hx)⟩
  have hcb : 0 ≤ c ∧ c < 256 := by have := bounds_u8 hc; omega
  generalize b.take (mn (b.length : Int) 200).toNat = B at hbt hlt hsm
  refine Ev.bind ⟨B.length + 26, fun k hk => ref_decode_spec hbt (by omega) k hk⟩ ?_
  have := items_loop hbt hsm hlt hcb rfl _ 0 rfl (by omega)
  exact this
end Go.Proofs.Ytebboloogedceaa.Pure
