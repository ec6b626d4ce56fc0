/- Plain facts and the plain law of UtfSteps: the item at a place, and the last item ahead of it. -/
import Derived.Test.YtobbbpkphillcaaPlain6
import Derived.Laws.BitsAllLaws
namespace Go.Proofs.Ytobbbpkphillcaa.Pure
open Go Go.RowKit Go.Proofs.Ytobbbpkphillcaa.PU Go.Proofs.YtobbbpkphillcaaW.PrintWords Go.Proofs.YtobbbpkphillcaaW.PrintLast Go.Proofs.YtobbbpkphillcaaW.PrintMore

def lastI (xs : List S31) : S31 := xs.getD (xs.length - 1) z31
def shiftI (d : Int) (x : S31) : S31 := ⟨x.f0, x.f1 + d, x.f2 + d⟩

theorem itemsF_shift (f : Nat) : ∀ (b : List Int) (p d : Int), itemsF f b (p + d) = (itemsF f b p).map (shiftI d) := by
  induction f with
  | zero => intro b p d; rfl
  | succ f ih =>
    intro b p d
    rw [itemsF, itemsF]
    by_cases hp : 0 < (b.length : Int)
    · rw [if_pos hp, if_pos hp, List.map_cons, show p + d + (dec1 b).2.1 = p + (dec1 b).2.1 + d from by omega, ih]
      rfl
    · rw [if_neg hp, if_neg hp]; rfl

theorem lastI_cons {h : S31} {t : List S31} (ht : 0 < t.length) : lastI (h :: t) = lastI t := by
  unfold lastI
  rw [List.length_cons, show t.length + 1 - 1 = (t.length - 1) + 1 from by omega]
  rfl

theorem lastI_map {xs : List S31} (d : Int) (h : 0 < xs.length) : lastI (xs.map (shiftI d)) = shiftI d (lastI xs) := by
  unfold lastI
  rw [List.length_map, List.getD_eq_getElem?_getD, List.getD_eq_getElem?_getD, List.getElem?_map, List.getElem?_eq_getElem (by omega : xs.length - 1 < xs.length)]
  rfl

theorem itemsF_pos {f : Nat} {b : List Int} {p : Int} (hf : b.length ≤ f) (h : 0 < b.length) : 0 < (itemsF f b p).length := by
  obtain ⟨g, rfl⟩ : ∃ m, f = m + 1 := ⟨f - 1, by omega⟩
  rw [itemsF, if_pos (by omega)]
  simp

theorem rd_drop {b : List Int} {n : Nat} {i : Int} (h : 0 ≤ i) : rd (b.drop n) i = rd b (n + i) := by
  unfold rd
  rw [List.getD_eq_getElem?_getD, List.getD_eq_getElem?_getD, List.getElem?_drop, show ((n : Int) + i).toNat = n + i.toNat from by omega]

/-- Items that begin at a place where no further byte stands are those of what stands from there on. -/
theorem last_from (f : Nat) : ∀ (b : List Int) (p : Int) (s : Nat), b.length ≤ f → s < b.length → (s = 0 ∨ ¬ (128 ≤ rd b s ∧ rd b s ≤ 191)) → lastI (itemsF f b p) = lastI (itemsF f (b.drop s) (p + s)) := by
  induction f with
  | zero => intro b p s h hs; omega
  | succ f ih =>
    intro b p s h hs hc
    by_cases h0 : s = 0
    · subst h0; simp
    have hc : ¬ (128 ≤ rd b s ∧ rd b s ≤ 191) := by rcases hc with q | q; exact absurd q h0; exact q
    have hp : 0 < (b.length : Int) := by omega
    have n := dec1_n hp
    have hn : (dec1 b).2.1 ≤ s := by
      rcases Int.lt_or_le (s : Int) (dec1 b).2.1 with q | q
      · exact absurd (dec1_conts (by omega) q) hc
      · exact q
    have hl : (b.drop (dec1 b).2.1.toNat).length = b.length - (dec1 b).2.1.toNat := List.length_drop
    rw [itemsF, if_pos hp, lastI_cons (itemsF_pos (by omega) (by omega))]
    by_cases e : s = (dec1 b).2.1.toNat
    · rw [itemsF_fuel f (f + 1) _ _ (by omega) (by omega), ← e, show p + (dec1 b).2.1 = p + (s : Int) from by omega]
    · rw [ih _ _ (s - (dec1 b).2.1.toNat) (by omega) (by omega) (.inr (by rw [rd_drop (by omega), show ((dec1 b).2.1.toNat : Int) + ((s - (dec1 b).2.1.toNat : Nat) : Int) = s from by omega]; exact hc)),
        List.drop_drop, show (dec1 b).2.1.toNat + (s - (dec1 b).2.1.toNat) = s from by omega, show p + (dec1 b).2.1 + ((s - (dec1 b).2.1.toNat : Nat) : Int) = p + s from by omega]
      have hl2 : (b.drop s).length = b.length - s := List.length_drop
      rw [itemsF_fuel f (f + 1) _ _ (by omega) (by omega)]

theorem dec1_cont {b : List Int} (h : 128 ≤ rd b 0) (h' : rd b 0 ≤ 191) : dec1 b = (65533, 1, false) := by
  unfold dec1; simp only
  rw [if_neg (by omega), if_pos (by have := tailN_cases (rd b 0); omega)]

/-- Behind four further bytes the last item is the last byte. -/
theorem last_conts (f : Nat) : ∀ (b : List Int) (p : Int), b.length ≤ f → 0 < b.length → (∀ i : Int, 0 ≤ i → (b.length : Int) - 4 ≤ i → i < b.length → 128 ≤ rd b i ∧ rd b i ≤ 191) → lastI (itemsF f b p) = ⟨65533, p + b.length - 1, p + b.length⟩ := by
  induction f with
  | zero => intro b p h h0; omega
  | succ f ih =>
    intro b p h h0 hc
    have hp : 0 < (b.length : Int) := by omega
    rw [itemsF, if_pos hp]
    have n := dec1_n hp
    have hl : (b.drop (dec1 b).2.1.toNat).length = b.length - (dec1 b).2.1.toNat := List.length_drop
    have step : (dec1 b).2.1 < b.length → lastI ((⟨(dec1 b).1, p, p + (dec1 b).2.1⟩ : S31) :: itemsF f (b.drop (dec1 b).2.1.toNat) (p + (dec1 b).2.1)) = ⟨65533, p + b.length - 1, p + b.length⟩ := by
      intro q
      rw [lastI_cons (itemsF_pos (by omega) (by omega)), ih _ _ (by omega) (by omega) (fun i i0 i1 i2 => by
        rw [rd_drop i0]; exact hc _ (by omega) (by omega) (by omega)), hl]
      have : p + (dec1 b).2.1 + ((b.length - (dec1 b).2.1.toNat : Nat) : Int) = p + b.length := by omega
      rw [this]
    by_cases h4 : b.length ≤ 4
    · have c0 := hc 0 (by decide) (by omega) (by omega)
      have d := dec1_cont c0.1 c0.2
      by_cases h1 : b.length = 1
      · have : b.drop (dec1 b).2.1.toNat = [] := List.drop_eq_nil_of_le (by omega)
        rw [this, itemsF_nil, d, h1]
        show (⟨65533, p, p + 1⟩ : S31) = _
        rw [show p + ((1 : Nat) : Int) - 1 = p from by omega]
        rfl
      · exact step (by rw [d]; dsimp only; omega)
    · exact step (by omega)

theorem and192 {c : Int} (h0 : 0 ≤ c) (h1 : c < 256) : Go.bits .and .u8 c 192 = 128 ↔ (128 ≤ c ∧ c ≤ 191) := by
  rw [u8_and c 192 h0 h1 (by decide) (by decide)]
  have key : ∀ n : Fin 256, ((((n : Nat) &&& 192 : Nat) : Int) = 128) ↔ (128 ≤ (n : Nat) ∧ (n : Nat) ≤ 191) := by decide +kernel
  have := key ⟨c.toNat, by omega⟩
  simp only at this
  rw [show (192 : Int).toNat = 192 from rfl, this]
  omega

/-- The last item ahead of a place. -/
def prevI (l : List Int) (p : Int) : Int × Int × Int × Bool :=
  if p < 1 ∨ p > l.length then (0, 0, 0, false)
  else ((lastI (itemsF l.length (l.take p.toNat) 0)).f0, (lastI (itemsF l.length (l.take p.toNat) 0)).f1, (lastI (itemsF l.length (l.take p.toNat) 0)).f2, true)

theorem rd31_last {xs : List S31} (h : 0 < xs.length) : rd_T31 xs ((xs.length : Int) - 1) = lastI xs := by
  unfold rd_T31 lastI
  rw [show ((xs.length : Int) - 1).toNat = xs.length - 1 from by omega]

theorem ref_prev_spec {l : List Int} {p : Int} (hb : Byt l) (hl : l.length ≤ 2000000) (k : Nat) (hk : l.length + 26 ≤ k) : rubricatorref01_Prev.f k l p = some (prevI l p) := by
  unfold rubricatorref01_Prev.f prevI
  by_cases h0 : p < 1
  · rw [if_pos h0, if_pos (.inl h0)]
  by_cases h1 : p > l.length
  · rw [if_neg h0, if_pos h1, if_pos (.inr h1)]
  rw [if_neg h0, if_neg h1, if_pos (by omega), if_pos (by omega), if_neg (by omega)]
  have ht : (l.take p.toNat).length = p.toNat := by rw [List.length_take]; omega
  rw [ref_decode_spec (hb.take _) (by omega) _ (by omega), Option.bind_some, itemsF_fuel _ l.length _ _ (Nat.le_refl _) (by omega)]
  have hp := itemsF_pos (f := l.length) (b := l.take p.toNat) (p := 0) (by omega) (by omega)
  have hn := itemsF_len l.length (l.take p.toNat) 0
  rw [w64 (by omega) (by omega), if_pos (by omega), if_pos (by omega), rd31_last hp]

/-- What utf.Prev tells of a place from which it decodes. -/
def finP (k : Nat) (x0 : List Int) (x1 x6 : Int) : Option (Int × Int × Int × Bool) :=
  if 0 ≤ x6 then (if x6 ≤ x1 then (if x1 ≤ (x0.length : Int) then ((utf_Decode.f k ((x0.take (x1 : Int).toNat).drop (x6 : Int).toNat)).bind fun t213 => (if 0 ≤ (wrap64 ((t213.length : Int) - 1)) then (if (wrap64 ((t213.length : Int) - 1)) < (t213.length : Int) then (some ((rd_T31 t213 (wrap64 ((t213.length : Int) - 1))).f0, wrap64 (x6 + ((rd_T31 t213 (wrap64 ((t213.length : Int) - 1))).f1)), wrap64 (x6 + ((rd_T31 t213 (wrap64 ((t213.length : Int) - 1))).f2)), true)) else (none)) else (none))) else (none)) else (none)) else (none)

theorem prev_unroll (k : Nat) (l : List Int) (p i : Int) : utf_Prev.l0 (k + 1) l p i = if i > 0 then (if (wrap64 (p - i)) < 4 then (if 0 ≤ i then (if i < (l.length : Int) then (if (Go.bits .and .u8 (rd l i) 192) = 128 then utf_Prev.l0 k l p (wrap64 (i - 1)) else finP k l p i) else none) else none) else finP k l p i) else finP k l p i := by
  rw [utf_Prev.l0]
  by_cases h : 0 ≤ i
  · simp only [finP, if_pos h]
  · have h' : ¬ i > 0 := by omega
    simp only [if_neg h', finP]

theorem itemsF_bd (f : Nat) : ∀ (b : List Int) (p : Int), b.length ≤ f → ∀ x ∈ itemsF f b p, p ≤ x.f1 ∧ x.f1 ≤ x.f2 ∧ x.f2 ≤ p + b.length := by
  induction f with
  | zero => intro b p _ x h; cases h
  | succ f ih =>
    intro b p hf x h
    rw [itemsF] at h
    by_cases hp : 0 < (b.length : Int)
    · have n := dec1_n hp
      rw [if_pos hp] at h
      rcases List.mem_cons.1 h with rfl | h
      · dsimp only; omega
      · have := ih _ _ (by rw [List.length_drop]; omega) x h
        rw [List.length_drop] at this
        omega
    · rw [if_neg hp] at h; cases h

theorem lastI_mem {xs : List S31} (h : 0 < xs.length) : lastI xs ∈ xs := by
  unfold lastI
  rw [List.getD_eq_getElem?_getD, List.getElem?_eq_getElem (by omega : xs.length - 1 < xs.length)]
  exact List.getElem_mem _

theorem fin_spec {l : List Int} {p i : Int} (hb : Byt l) (hl : l.length ≤ 2000000) (k : Nat) (hk : l.length + 12 ≤ k) (h1 : 1 ≤ p) (h2 : p ≤ l.length) (i0 : 0 ≤ i) (ip : i < p)
    (hs : lastI (itemsF l.length (l.take p.toNat) 0) = lastI (itemsF l.length ((l.take p.toNat).drop i.toNat) i)) : finP k l p i = some (prevI l p) := by
  unfold finP prevI
  rw [if_pos i0, if_pos (by omega), if_pos h2, if_neg (by omega)]
  have ht : (l.take p.toNat).length = p.toNat := by rw [List.length_take]; omega
  have hd : ((l.take p.toNat).drop i.toNat).length = p.toNat - i.toNat := by rw [List.length_drop, ht]
  rw [decode_spec ((hb.take _).drop _) (by omega) _ (by omega), Option.bind_some, itemsF_fuel _ l.length _ _ (Nat.le_refl _) (by omega)]
  have hp := itemsF_pos (f := l.length) (b := (l.take p.toNat).drop i.toNat) (p := 0) (by omega) (by omega)
  have hn := itemsF_len l.length ((l.take p.toNat).drop i.toNat) 0
  have hbd := itemsF_bd l.length ((l.take p.toNat).drop i.toNat) 0 (by omega) _ (lastI_mem hp)
  rw [w64 (by omega) (by omega), if_pos (by omega), if_pos (by omega), rd31_last hp, hs]
  have hsh := itemsF_shift l.length ((l.take p.toNat).drop i.toNat) 0 i
  rw [Int.zero_add] at hsh
  rw [hsh, lastI_map _ hp, w64 (by omega) (by omega), w64 (by omega) (by omega)]
  unfold shiftI
  dsimp only
  rw [Int.add_comm i, Int.add_comm i]

theorem rd_take {b : List Int} {n : Nat} {i : Int} (h : 0 ≤ i) (hi : i < n) : rd (b.take n) i = rd b i := by
  unfold rd
  rw [List.getD_eq_getElem?_getD, List.getD_eq_getElem?_getD, List.getElem?_take_of_lt (by omega)]

theorem prev_loop {l : List Int} {p : Int} (hb : Byt l) (hl : l.length ≤ 2000000) (h1 : 1 ≤ p) (h2 : p ≤ l.length) (d : Nat) : ∀ (k : Nat) (i : Int), 0 ≤ i → i < p → p - i ≤ 4 → i ≤ d → l.length + d + 13 ≤ k →
    (∀ j, i < j → j < p → 128 ≤ rd l j ∧ rd l j ≤ 191) → utf_Prev.l0 k l p i = some (prevI l p) := by
  have ht : (l.take p.toNat).length = p.toNat := by rw [List.length_take]; omega
  induction d with
  | zero =>
    intro k i i0 ip i4 id hk hc
    obtain ⟨k, rfl⟩ : ∃ m, k = m + 1 := ⟨k - 1, by omega⟩
    obtain rfl : i = 0 := by omega
    rw [prev_unroll, if_neg (by decide)]
    exact fin_spec hb hl _ (by omega) h1 h2 i0 ip (by simp)
  | succ d ih =>
    intro k i i0 ip i4 id hk hc
    obtain ⟨k, rfl⟩ : ∃ m, k = m + 1 := ⟨k - 1, by omega⟩
    have hA : (i = 0 ∨ ¬ (128 ≤ rd l i ∧ rd l i ≤ 191)) → finP k l p i = some (prevI l p) := by
      intro q
      refine fin_spec hb hl _ (by omega) h1 h2 i0 ip ?_
      have := last_from l.length (l.take p.toNat) 0 i.toNat (by omega) (by omega) (by
        rcases q with q | q
        · exact .inl (by omega)
        · exact .inr (by rw [rd_take (by omega) (by omega), show ((i.toNat : Nat) : Int) = i from by omega]; exact q))
      rw [this, Int.zero_add, show ((i.toNat : Nat) : Int) = i from by omega]
    rw [prev_unroll]
    by_cases hi : i > 0
    · rw [if_pos hi, w64 (by omega) (by omega)]
      by_cases h3 : p - i < 4
      · rw [if_pos h3, if_pos i0, if_pos (by omega)]
        by_cases hx : Go.bits .and .u8 (rd l i) 192 = 128
        · rw [if_pos hx, w64 (by omega) (by omega)]
          have hx := (and192 (hb i).1 (hb i).2).1 hx
          refine ih k (i - 1) (by omega) (by omega) (by omega) (by omega) (by omega) ?_
          intro j j1 j2
          by_cases e : j = i
          · rw [e]; exact hx
          · exact hc j (by omega) j2
        · rw [if_neg hx]
          exact hA (.inr fun q => hx ((and192 (hb i).1 (hb i).2).2 q))
      · rw [if_neg h3]
        by_cases q : 128 ≤ rd l i ∧ rd l i ≤ 191
        · refine fin_spec hb hl _ (by omega) h1 h2 i0 ip ?_
          have hd : ((l.take p.toNat).drop i.toNat).length = p.toNat - i.toNat := by rw [List.length_drop, ht]
          rw [last_conts l.length (l.take p.toNat) 0 (by omega) (by omega) (fun j j0 j1 j2 => by
              rw [rd_take (by omega) (by omega)]
              by_cases e : j = i
              · rw [e]; exact q
              · exact hc j (by omega) (by omega)),
            last_conts l.length ((l.take p.toNat).drop i.toNat) i (by omega) (by omega) (fun j j0 j1 j2 => by
              rw [rd_drop j0, rd_take (by omega) (by omega)]
              by_cases e : ((i.toNat : Nat) : Int) + j = i
              · rw [e]; exact q
              · exact hc _ (by omega) (by omega)), ht, hd]
          rw [show (0 : Int) + ((p.toNat : Nat) : Int) = i + ((p.toNat - i.toNat : Nat) : Int) from by omega]
        · exact hA (.inr q)
    · rw [if_neg hi]
      exact hA (.inl (by omega))

theorem prev_spec {l : List Int} {p : Int} (hb : Byt l) (hl : l.length ≤ 2000000) (k : Nat) (hk : 2 * l.length + 20 ≤ k) : utf_Prev.f k l p = some (prevI l p) := by
  obtain ⟨k, rfl⟩ : ∃ m, k = m + 1 := ⟨k - 1, by omega⟩
  unfold utf_Prev.f
  by_cases h0 : p < 1
  · rw [if_pos h0, utf_Prev.j0, if_pos rfl]; unfold prevI; rw [if_pos (.inl h0)]
  by_cases h1 : p > l.length
  · rw [if_neg h0, utf_Prev.j0, if_pos (decide_eq_true h1)]; unfold prevI; rw [if_pos (.inr h1)]
  rw [if_neg h0, utf_Prev.j0, if_neg (by simp; omega), w64 (by omega) (by omega)]
  exact prev_loop hb hl (by omega) (by omega) l.length k (p - 1) (by omega) (by omega) (by omega) (by omega) (by omega) (fun j _ _ => by omega)

/-- The item at a place. -/
def nextI (l : List Int) (p : Int) : Int × Int × Int × Bool :=
  if p < 0 ∨ p ≥ l.length then (0, 0, 0, false) else ((dec1 (l.drop p.toNat)).1, p, p + (dec1 (l.drop p.toNat)).2.1, true)

theorem next_spec {l : List Int} {p : Int} (hb : Byt l) (hl : l.length ≤ 2000000) (k : Nat) (hk : 10 ≤ k) : utf_Next.f k l p = some (nextI l p) := by
  obtain ⟨k, rfl⟩ : ∃ m, k = m + 10 := ⟨k - 10, by omega⟩
  unfold utf_Next.f nextI
  by_cases h0 : p < 0
  · rw [if_pos h0, if_pos (.inl h0)]
  by_cases h1 : p ≥ l.length
  · rw [if_neg h0, if_pos h1, if_pos (.inr h1)]
  have hd : 0 < ((l.drop p.toNat).length : Int) := by rw [drop_len p (by omega) (by omega)]; omega
  have n := dec1_n hd
  rw [drop_len p (by omega) (by omega)] at n
  rw [if_neg h0, if_neg h1, if_pos (by omega), if_pos (by omega), if_neg (by omega), read_spec k (hb.drop _) hd, Option.bind_some, w64 (by omega) (by omega)]

theorem ref_next_spec {l : List Int} {p : Int} (hb : Byt l) (hl : l.length ≤ 2000000) (k : Nat) (hk : 24 ≤ k) : rubricatorref01_Next.f k l p = some (nextI l p) := by
  obtain ⟨k, rfl⟩ : ∃ m, k = m + 24 := ⟨k - 24, by omega⟩
  unfold rubricatorref01_Next.f nextI
  by_cases h0 : p < 0
  · rw [if_pos h0, if_pos (.inl h0)]
  by_cases h1 : p ≥ l.length
  · rw [if_neg h0, if_pos h1, if_pos (.inr h1)]
  have hd : 0 < ((l.drop p.toNat).length : Int) := by rw [drop_len p (by omega) (by omega)]; omega
  have n := dec1_n hd
  rw [drop_len p (by omega) (by omega)] at n
  rw [if_neg h0, if_neg h1, if_pos (by omega), if_pos (by omega), if_neg (by omega), first_spec k (hb.drop _) hd, Option.bind_some]
  dsimp only
  rw [w64 (by omega) (by omega)]

theorem UtfSteps_true (l : List Int) (p : Int) (hw : ∀ x ∈ l, (Lit.int .u8 x).wf = true) (hl : l.length ≤ 1048576) (_hp : (Lit.int .i64 p).wf = true) : ∃ k, rubricatorlaw01_UtfSteps.f k l p = some true := by
  have hb := byt_of hw
  refine ⟨2 * l.length + 60, ?_⟩
  unfold rubricatorlaw01_UtfSteps.f
  rw [next_spec hb (by omega) _ (by omega), ref_next_spec hb (by omega) _ (by omega), prev_spec hb (by omega) _ (by omega), ref_prev_spec hb (by omega) _ (by omega), awake_ge (by omega)]
  simp

end Go.Proofs.Ytobbbpkphillcaa.Pure
