/- Plain laws of the outright statements: the first best cuts come first, valid ribbons, ribbons with more faults, seen from the other end, joined, and parted; other kinds; all best cuts. No program. -/
import Derived.Test.YtjmphmnimnbgkaaOutLaw
import Derived.Test.YtjmphmnimnbgkaaPiece
namespace Go.Proofs.Ytjmphmnimnbgkaa
open Go.RowKit

section
variable {L : Nat} {F : Nat → Int} {ks : List Kd}
theorem valL_cons {f k : Nat} {x : Kd} (l : List Sh) (hx : ks[k]? = some x) : valL ks (⟨f, k⟩ :: l) = x.p + valL ks l := by
  have hgd : ks.getD k ⟨0, 0, 0⟩ = x := by simp [List.getD, hx]
  unfold valL
  simp only [List.map_cons, List.sum_cons, Int.toNat_natCast, hgd]
/-- Best cuts from a place on: a sheet is here, that leads to best ones, or the unit is waste. -/
theorem good_case (hk : KOk ks) {Bh : Nat → Int} (hF : From L F ks Bh) {i : Nat} (hi : i < L) {l : List Sh} (g : GoodL L F ks i l) (hv : valL ks l = Bh i) :
    (∃ (k : Nat) (x : Kd) (l' : List Sh), l = ⟨i, k⟩ :: l' ∧ ks[k]? = some x ∧ canB L F x i = true ∧ GoodL L F ks (i + x.w.toNat) l' ∧ x.p + Bh (i + x.w.toNat) = Bh i ∧ valL ks l' = Bh (i + x.w.toNat)) ∨ (GoodL L F ks (i + 1) l ∧ Bh (i + 1) = Bh i) := by
  have hz := hF.zero
  cases g with
  | nil _ hiL =>
    right
    have h1 : GoodL L F ks (i + 1) ([] : List Sh) := .nil _ (by omega)
    have h2 := hF.le (h1.way hk)
    have h3 := hF.waste i hi
    exact ⟨h1, by omega⟩
  | cons _ f k x l' hif hx hc hr =>
    have hb := hk.bd hx
    have hle := (canB_iff.1 hc).1
    by_cases e : f = i
    · subst e
      left
      have h1 := hF.le (hr.way hk)
      have h2 := hF.sheet f k x hx hc
      rw [valL_cons l' hx] at hv
      exact ⟨k, x, l', rfl, hx, hc, hr, by omega, by omega⟩
    · right
      have h1 : GoodL L F ks (i + 1) (⟨f, k⟩ :: l') := .cons _ f k x l' (by omega) hx hc hr
      have h2 := hF.le (h1.way hk)
      have h3 := hF.waste i hi
      exact ⟨h1, by omega⟩
theorem GoodL.head {i : Nat} {s : Sh} {l : List Sh} (h : GoodL L F ks i (s :: l)) : (i : Int) ≤ s.f := by
  cases h with
  | cons _ f k x l hi => show (i : Int) ≤ (f : Int); omega

/-- The first list does not come before the second one; they are equal, or differ at some sheet. -/
inductive NotBefore : List Sh → List Sh → Prop
  | nil : NotBefore [] []
  | same (s : Sh) (l c : List Sh) : NotBefore l c → NotBefore (s :: l) (s :: c)
  | diff (g c : Sh) (l l' : List Sh) : g ≠ c → ¬ g.f < c.f → ¬ (g.f = c.f ∧ g.k < c.k) → NotBefore (g :: l) (c :: l')
theorem NotBefore.at {l c : List Sh} (h : NotBefore l c) : ∀ (j : Nat) (g x : Sh), (∀ j', j' < j → l[j']? = c[j']?) → l[j]? = some g → c[j]? = some x → ¬ g.f < x.f ∧ ¬ (g.f = x.f ∧ g.k < x.k) := by
  induction h with
  | nil => intro j g x _ hg; simp at hg
  | same s l c _ ih =>
    intro j g x he hg hx
    cases j with
    | zero =>
      simp only [List.getElem?_cons_zero, Option.some.injEq] at hg hx
      subst hg; subst hx
      omega
    | succ j =>
      simp only [List.getElem?_cons_succ] at hg hx
      exact ih j g x (fun j' hj => by have := he (j' + 1) (by omega); simpa using this) hg hx
  | diff a b l l' hne h1 h2 =>
    intro j g x he hg hx
    cases j with
    | zero =>
      simp only [List.getElem?_cons_zero, Option.some.injEq] at hg hx
      subst hg; subst hx
      exact ⟨h1, h2⟩
    | succ j =>
      have := he 0 (by omega)
      simp at this
      exact absurd this hne
theorem NotBefore.same_end {l c : List Sh} (h : NotBefore l c) : (∀ j, j < l.length → j < c.length → l[j]? = c[j]?) → l = c := by
  induction h with
  | nil => intro _; rfl
  | same s l c _ ih =>
    intro he
    rw [ih fun j h1 h2 => by
      have := he (j + 1) (by simpa using h1) (by simpa using h2)
      simpa using this]
  | diff a b l l' hne _ _ =>
    intro he
    have := he 0 (by simp) (by simp)
    simp at this
    exact absurd this hne
theorem find_first {t : Nat → Bool} : ∀ {l : List Nat} {k k' : Nat}, l.Pairwise (· < ·) → l.find? t = some k → k' ∈ l → t k' = true → k ≤ k'
  | [], _, _, _, h, _, _ => by simp at h
  | a :: l, k, k', hp, h, hm, ht => by
    rw [List.find?_cons] at h
    split at h
    · simp only [Option.some.injEq] at h
      subst h
      rcases List.mem_cons.1 hm with rfl | hm
      · exact Nat.le_refl _
      · exact Nat.le_of_lt ((List.pairwise_cons.1 hp).1 k' hm)
    · rename_i h0
      rcases List.mem_cons.1 hm with rfl | hm
      · rw [ht] at h0; cases h0
      · exact find_first (List.pairwise_cons.1 hp).2 h hm ht
/-- **Given best cuts do not come before the first ones.** -/
theorem first_least (hk : KOk ks) {Bh : Nat → Int} (hF : From L F ks Bh) : ∀ n i, L ≤ i + n → i ≤ L → ∀ l, GoodL L F ks i l → valL ks l = Bh i → NotBefore l (firstAt L F ks Bh n i) := by
  intro n
  induction n with
  | zero =>
    intro i h1 h2 l g hv
    have hl := g.len hk
    have : l = [] := List.length_eq_zero_iff.1 (by omega)
    subst this
    exact .nil
  | succ n ih =>
    intro i h1 h2 l g hv
    unfold firstAt
    by_cases hi : i < L
    · rw [if_pos hi]
      have htie : ∀ (k : Nat) (x : Kd), ks[k]? = some x → canB L F x i = true → x.p + Bh (i + x.w.toNat) = Bh i → k ∈ (List.range ks.length).filter (canI L F ks i) ∧ tieB ks Bh i k = true := fun k x hx hc ht => by
        have hgd : ks.getD k ⟨0, 0, 0⟩ = x := by simp [List.getD, hx]
        have hci : canI L F ks i k = true := by unfold canI; rw [hx]; exact hc
        refine ⟨List.mem_filter.2 ⟨List.mem_range.2 (List.getElem?_eq_some_iff.1 hx).1, hci⟩, ?_⟩
        unfold tieB
        rw [hgd]
        simpa using ht
      cases hfd : ((List.range ks.length).filter (canI L F ks i)).find? (tieB ks Bh i) with
      | some k =>
        have hm := List.mem_of_find?_eq_some hfd
        have ht := List.find?_some hfd
        obtain ⟨x, hx, hc, hd⟩ := canI_at (by simpa using (List.mem_filter.1 hm).2 : canI L F ks i k = true)
        have hle := (canB_iff.1 hc).1
        have hbd := hk.bd hx
        unfold tieB at ht
        rw [hd] at ht
        simp only [beq_iff_eq] at ht
        simp only [hd]
        rcases good_case hk hF hi g hv with ⟨k', x', l', rfl, hx', hc', g', t', v'⟩ | ⟨g', t'⟩
        · by_cases e : k' = k
          · subst e
            rw [hx] at hx'
            cases hx'
            exact .same _ _ _ (ih _ (by omega) (by omega) l' g' v')
          · obtain ⟨m1, m2⟩ := htie k' x' hx' hc' t'
            have hkk := find_first (List.pairwise_lt_range.filter _) hfd m1 m2
            refine .diff _ _ _ _ (fun h => ?_) (fun h => ?_) (fun h => ?_)
            · simp only [Sh.mk.injEq] at h; omega
            · simp at h
            · have := h.2
              simp only at this
              omega
        · cases l with
          | nil =>
            exfalso
            have z : valL ks [] = 0 := rfl
            have z1 := hF.zero
            have := hF.le ((GoodL.nil (L := L) (F := F) (ks := ks) (i + x.w.toNat) (by omega)).way hk)
            omega
          | cons s l =>
            have := g'.head
            refine .diff _ _ _ _ (fun h => ?_) (fun h => ?_) (fun h => ?_)
            · subst h; simp only at this; omega
            · simp only at h; omega
            · have h := h.1; simp only at h; omega
      | none =>
        rcases good_case hk hF hi g hv with ⟨k', x', l', rfl, hx', hc', g', t', v'⟩ | ⟨g', t'⟩
        · obtain ⟨m1, m2⟩ := htie k' x' hx' hc' t'
          exact absurd m2 (by simpa using List.find?_eq_none.1 hfd k' m1)
        · exact ih _ (by omega) (by omega) l g' (by omega)
    · rw [if_neg hi]
      have hl := g.len hk
      have : l = [] := List.length_eq_zero_iff.1 (by omega)
      subst this
      exact .nil
end

/-! ### Valid ribbons -/
theorem rib_of {L : Int} {fs : List Int} (h1 : 1 ≤ L) (h2 : L ≤ 24) (hp : fs.Pairwise (· < ·)) (hb : ∀ x ∈ fs, 0 ≤ x ∧ x < L) : ribE L fs = 0 := by
  refine ribE_ok ((inR_iff _ _ _).2 ⟨h1, h2⟩) (fun j hj => ?_)
  have hg : fs.getD j 0 = fs[j] := by simp [List.getD, List.getElem?_eq_getElem hj]
  have hm := hb _ (List.getElem_mem hj)
  unfold gdB
  rw [hg]
  simp only [Bool.and_eq_true, Bool.or_eq_true, decide_eq_true_eq]
  refine ⟨hm, ?_⟩
  by_cases h0 : j = 0
  · exact .inl h0
  · right
    have hg' : fs.getD (j - 1) 0 = fs[j - 1] := by simp [List.getD, List.getElem?_eq_getElem (show j - 1 < fs.length by omega)]
    rw [hg']
    exact List.pairwise_iff_getElem.1 hp (j - 1) j (by omega) hj (by omega)
theorem rib_pair {L : Int} {fs : List Int} (h : ribE L fs = 0) : fs.Pairwise (· < ·) ∧ ∀ x ∈ fs, 0 ≤ x ∧ x < L := by
  obtain ⟨_, hg⟩ := ribE_zero h
  have hgj : ∀ j (hj : j < fs.length), (0 ≤ fs[j] ∧ fs[j] < L) ∧ (j = 0 ∨ fs.getD (j - 1) 0 < fs[j]) := fun j hj => by
    have := hg j hj
    have e : fs.getD j 0 = fs[j] := by simp [List.getD, List.getElem?_eq_getElem hj]
    unfold gdB at this
    rw [e] at this
    simpa only [Bool.and_eq_true, Bool.or_eq_true, decide_eq_true_eq] using this
  constructor
  · rw [List.pairwise_iff_getElem]
    intro i j hi hj hij
    obtain ⟨d, rfl⟩ := Nat.exists_eq_add_of_lt hij
    induction d with
    | zero =>
      have := (hgj (i + 0 + 1) hj).2
      have e : fs.getD (i + 0 + 1 - 1) 0 = fs[i] := by simp [List.getD, List.getElem?_eq_getElem hi]
      rw [e] at this
      rcases this with h | h
      · omega
      · exact h
    | succ d ih =>
      have h1 := ih (by omega) (by omega)
      have := (hgj (i + (d + 1) + 1) hj).2
      have e : fs.getD (i + (d + 1) + 1 - 1) 0 = fs[i + d + 1] := by simp [List.getD, List.getElem?_eq_getElem (show i + d + 1 < fs.length by omega), show i + (d + 1) + 1 - 1 = i + d + 1 by omega]
      rw [e] at this
      rcases this with h | h
      · omega
      · omega
  · intro x hx
    obtain ⟨j, hj, rfl⟩ := List.getElem_of_mem hx
    exact (hgj j hj).1
theorem rk_of {L : Int} {fs : List Int} {ks : List Kd} (h1 : ribE L fs = 0) (h2 : kndE ks = 0) : rkE L fs ks = 0 := by unfold rkE; rw [if_pos h1, h2]
theorem rk_rib {L : Int} {fs : List Int} {ks : List Kd} (h : rkE L fs ks = 0) : ribE L fs = 0 ∧ kndE ks = 0 := by
  unfold rkE at h
  split at h
  · rename_i h1; exact ⟨h1, h⟩
  · rename_i h1; exact absurd h h1
theorem knd_of {ks : List Kd} (h : KOk ks) : kndE ks = 0 := by
  unfold kndE
  rw [if_pos ((inR_iff _ _ _).2 ⟨by have := h.1; omega, by have := h.2.1; omega⟩), if_neg]
  intro ha
  obtain ⟨x, hx, hb⟩ := List.any_eq_true.1 ha
  rw [h.2.2 x hx] at hb
  cases hb
theorem piece_rib {L : Int} {fs : List Int} {a b : Nat} (h : ribE L fs = 0) (hab : a < b) (hb : b ≤ 24) : ribE ((b : Int) - a) (pieceF fs a b) = 0 := by
  obtain ⟨hp, hm⟩ := rib_pair h
  refine rib_of (by omega) (by omega) ?_ (fun x hx => ?_)
  · unfold pieceF
    rw [List.pairwise_map]
    exact (hp.filter _).imp fun h => by omega
  · unfold pieceF at hx
    obtain ⟨y, hy, rfl⟩ := List.mem_map.1 hx
    have := (List.mem_filter.1 hy).2
    simp only [Bool.and_eq_true, decide_eq_true_eq] at this
    omega
theorem less_rib {L : Int} {fs : List Int} {f : Nat} (h : ribE L fs = 0) : ribE L (lessF fs f) = 0 := by
  obtain ⟨hp, hm⟩ := rib_pair h
  obtain ⟨hl, _⟩ := ribE_zero h
  have hs : (lessF fs f).Sublist fs := by
    unfold lessF
    rw [← List.eraseIdx_eq_take_drop_succ]
    exact List.eraseIdx_sublist fs f
  exact rib_of hl.1 hl.2 (hp.sublist hs) (fun x hx => hm x (hs.mem hx))
theorem bare_rib {L : Int} (h1 : 1 ≤ L) (h2 : L ≤ 24) : ribE L [] = 0 := rib_of h1 h2 .nil (fun x hx => by simp at hx)

/-! ### More faults, other kinds -/
section
variable {L : Nat} {F F' : Nat → Int} {ks ks' : List Kd}
theorem cnt_more {fs fs' : List Int} (h : ∀ x ∈ fs, x ∈ fs') (a : Nat) : ∀ d, cnt fs (a + d) - cnt fs a ≤ cnt fs' (a + d) - cnt fs' a
  | 0 => by simp
  | d + 1 => by
    have ih := cnt_more h a d
    rw [← Nat.add_assoc, cnt_succ, cnt_succ]
    by_cases hc : fs.contains ((a + d : Nat) : Int) = true
    · have : fs'.contains ((a + d : Nat) : Int) = true := List.contains_iff_mem.2 (h _ (List.contains_iff_mem.1 hc))
      rw [hc, this, if_pos rfl]
      omega
    · rw [if_neg hc]
      split <;> omega
theorem can_more {fs fs' : List Int} (h : ∀ x ∈ fs, x ∈ fs') {x : Kd} (hw : 0 ≤ x.w) {i : Nat} (hc : canB L (Fst fs' L) x i = true) : canB L (Fst fs L) x i = true := by
  rw [canB_iff] at hc ⊢
  obtain ⟨h1, h2⟩ := hc
  refine ⟨h1, ?_⟩
  unfold Fst at h2 ⊢
  rw [if_pos (by omega), if_pos (by omega)] at h2 ⊢
  have := cnt_more h i x.w.toNat
  omega
/-- Each sheet of the one can be cut from the other one, of a kind that is worth as much at least. -/
theorem way_dom (h : ∀ (i k : Nat) (x : Kd), ks[k]? = some x → canB L F x i = true → ∃ (k' : Nat) (x' : Kd), ks'[k']? = some x' ∧ x'.w = x.w ∧ x.p ≤ x'.p ∧ canB L F' x' i = true) {i j : Nat} {v : Int} (hw : Way L F ks i j v) : ∃ v', v ≤ v' ∧ Way L F' ks' i j v' := by
  induction hw with
  | nil i => exact ⟨0, Int.le_refl _, .nil i⟩
  | waste i e v hl _ ih =>
    obtain ⟨v', h1, h2⟩ := ih
    exact ⟨v', h1, .waste _ _ _ hl h2⟩
  | sheet i e k x v hx hc _ ih =>
    obtain ⟨v', h1, h2⟩ := ih
    obtain ⟨k', x', g1, g2, g3, g4⟩ := h i k x hx hc
    refine ⟨x'.p + v', by omega, .sheet _ _ k' x' _ g1 g4 ?_⟩
    rw [g2]
    exact h2
theorem worth_dom (hk : KOk ks) (hk' : KOk ks') (h : ∀ (i k : Nat) (x : Kd), ks[k]? = some x → canB L F x i = true → ∃ (k' : Nat) (x' : Kd), ks'[k']? = some x' ∧ x'.w = x.w ∧ x.p ≤ x'.p ∧ canB L F' x' i = true) : behindAt L F ks L 0 ≤ behindAt L F' ks' L 0 := by
  have hF := behind_from (L := L) (F := F) hk
  have hF' := behind_from (L := L) (F := F') hk'
  obtain ⟨v', h1, h2⟩ := way_dom h (hF.way 0 (Nat.zero_le _))
  have := hF'.le h2
  have := hF'.zero
  omega
/-- With more faults the best cuts are worth no more. -/
theorem worth_faults (hk : KOk ks) {fs fs' : List Int} (h : ∀ x ∈ fs, x ∈ fs') : behindAt L (Fst fs' L) ks L 0 ≤ behindAt L (Fst fs L) ks L 0 :=
  worth_dom hk hk fun i k x hx hc => ⟨k, x, hx, rfl, Int.le_refl _, can_more h (by have := hk.bd hx; omega) hc⟩
end

/-! ### All best cuts -/
theorem sum_cast {α : Type} (f : α → Nat) : ∀ l : List α, (((l.map f).sum : Nat) : Int) = (l.map fun a => (f a : Int)).sum
  | [] => rfl
  | a :: l => by
    have := sum_cast f l
    simp only [List.map_cons, List.sum_cons]
    omega
theorem nodup_le {α : Type} [DecidableEq α] : ∀ (l m : List α), l.Nodup → (∀ x ∈ l, x ∈ m) → l.length ≤ m.length
  | [], _, _, _ => by simp
  | x :: l, m, hn, hs => by
    obtain ⟨h1, h2⟩ := List.pairwise_cons.1 hn
    have hx := hs x (by simp)
    have ih := nodup_le l (m.erase x) h2 (fun y hy => (List.mem_erase_of_ne (fun e => h1 y hy e.symm)).2 (hs y (by simp [hy])))
    have := List.length_erase_of_mem hx
    have : 0 < m.length := List.length_pos_of_mem hx
    simp only [List.length_cons]
    omega
section
variable {L : Nat} {F : Nat → Int} {ks : List Kd}
theorem best_lists (hk : KOk ks) {Bh M : Nat → Int} (hF : From L F ks Bh) (c : Cnt L F ks Bh M) : ∀ d i, d + i = L → ∃ ls : List (List Sh), ls.Nodup ∧ (ls.length : Int) = M i ∧ ∀ l, l ∈ ls ↔ (GoodL L F ks i l ∧ valL ks l = Bh i) := by
  intro d
  induction d using Nat.strongRecOn with
  | _ d ih =>
    intro i hdi
    have hz := hF.zero
    by_cases hi : i < L
    · have hall : ∀ j, ∃ ls : List (List Sh), i < j → j ≤ L → ls.Nodup ∧ (ls.length : Int) = M j ∧ ∀ l, l ∈ ls ↔ (GoodL L F ks j l ∧ valL ks l = Bh j) := fun j => by
        by_cases h : i < j ∧ j ≤ L
        · obtain ⟨ls, h1⟩ := ih (L - j) (by omega) j (by omega)
          exact ⟨ls, fun _ _ => h1⟩
        · exact ⟨[], fun h1 h2 => absurd ⟨h1, h2⟩ h⟩
      obtain ⟨f, hf⟩ := Classical.axiomOfChoice hall
      have htie : ∀ k ∈ List.range ks.length, tieT L F ks Bh i k = true → ∃ x, ks[k]? = some x ∧ canB L F x i = true ∧ ks.getD k ⟨0, 0, 0⟩ = x ∧ x.p + Bh (i + x.w.toNat) = Bh i ∧ i < i + x.w.toNat ∧ i + x.w.toNat ≤ L := fun k _ ht => by
        unfold tieT at ht
        simp only [Bool.and_eq_true] at ht
        obtain ⟨x, hx, hc, hd⟩ := canI_at ht.1
        have hb := hk.bd hx
        have hle := (canB_iff.1 hc).1
        have h2 := ht.2
        unfold nK at h2
        rw [hd] at h2
        exact ⟨x, hx, hc, hd, by simpa using h2, by omega, by omega⟩
      refine ⟨(if Bh (i + 1) = Bh i then f (i + 1) else []) ++ (List.range ks.length).flatMap fun k => if tieT L F ks Bh i k then (f (i + (ks.getD k ⟨0, 0, 0⟩).w.toNat)).map (fun l => (⟨i, k⟩ : Sh) :: l) else [], ?_, ?_, ?_⟩
      · show List.Pairwise _ _
        rw [List.pairwise_append]
        refine ⟨?_, ?_, ?_⟩
        · split
          · exact (hf (i + 1) (by omega) (by omega)).1
          · exact .nil
        · rw [List.pairwise_flatMap]
          constructor
          · intro k hkm
            split
            · rename_i ht
              obtain ⟨x, _, _, hd, _, h1, h2⟩ := htie k hkm ht
              rw [hd, List.pairwise_map]
              exact (hf _ h1 h2).1.imp fun hne h => hne (List.cons.inj h).2
            · exact .nil
          · refine (List.nodup_range (n := ks.length)).imp fun hne a ha b hb => ?_
            split at ha
            · split at hb
              · obtain ⟨a', _, rfl⟩ := List.mem_map.1 ha
                obtain ⟨b', _, rfl⟩ := List.mem_map.1 hb
                intro h
                have := (List.cons.inj h).1
                simp only [Sh.mk.injEq] at this
                exact hne (by omega)
              · simp at hb
            · simp at ha
        · intro a ha b hb e
          subst e
          split at ha
          · have g := ((hf (i + 1) (by omega) (by omega)).2.2 a).1 ha
            obtain ⟨k, _, hb⟩ := List.mem_flatMap.1 hb
            split at hb
            · obtain ⟨b', _, rfl⟩ := List.mem_map.1 hb
              have := g.1.head
              simp only at this
              omega
            · simp at hb
          · simp at ha
      · rw [List.length_append, List.length_flatMap, c.sum hi]
        have e1 : (((if Bh (i + 1) = Bh i then f (i + 1) else []).length : Nat) : Int) = if Bh (i + 1) = Bh i then M (i + 1) else 0 := by
          split
          · exact (hf (i + 1) (by omega) (by omega)).2.1
          · rfl
        have e2 : (((List.range ks.length).map fun k => (if tieT L F ks Bh i k then (f (i + (ks.getD k ⟨0, 0, 0⟩).w.toNat)).map (fun l => (⟨i, k⟩ : Sh) :: l) else []).length).sum : Nat) = ((List.range ks.length).map fun k => if tieT L F ks Bh i k then M (i + (ks.getD k ⟨0, 0, 0⟩).w.toNat) else 0).sum := by
          rw [sum_cast]
          congr 1
          apply List.map_congr_left
          intro k hkm
          split
          · rename_i ht
            obtain ⟨x, _, _, hd, _, h1, h2⟩ := htie k hkm ht
            rw [hd, List.length_map]
            exact (hf _ h1 h2).2.1
          · rfl
        rw [Int.natCast_add, e1, e2]
      · intro l
        rw [List.mem_append]
        constructor
        · rintro (h | h)
          · split at h
            · rename_i he
              have g := ((hf (i + 1) (by omega) (by omega)).2.2 l).1 h
              exact ⟨g.1.start (by omega), by rw [g.2, he]⟩
            · simp at h
          · obtain ⟨k, hkm, h⟩ := List.mem_flatMap.1 h
            split at h
            · rename_i ht
              obtain ⟨x, hx, hc, hd, htt, h1, h2⟩ := htie k hkm ht
              rw [hd] at h
              obtain ⟨l', hl', rfl⟩ := List.mem_map.1 h
              have g := ((hf _ h1 h2).2.2 l').1 hl'
              exact ⟨.cons i i k x l' (Nat.le_refl _) hx hc g.1, by rw [valL_cons l' hx, g.2, htt]⟩
            · simp at h
        · rintro ⟨g, hv⟩
          rcases good_case hk hF hi g hv with ⟨k, x, l', rfl, hx, hc, g', ht, hv'⟩ | ⟨g', ht⟩
          · right
            have hkl := List.mem_range.2 (List.getElem?_eq_some_iff.1 hx).1
            have hgd : ks.getD k ⟨0, 0, 0⟩ = x := by simp [List.getD, hx]
            have htt : tieT L F ks Bh i k = true := by
              unfold tieT nK canI
              rw [hx, hgd]
              simp [hc, ht]
            refine List.mem_flatMap.2 ⟨k, hkl, ?_⟩
            obtain ⟨_, _, _, hd, _, h1, h2⟩ := htie k hkl htt
            rw [if_pos htt]
            rw [hgd] at hd ⊢
            subst hd
            exact List.mem_map.2 ⟨l', ((hf _ h1 h2).2.2 l').2 ⟨g', hv'⟩, rfl⟩
          · left
            rw [if_pos ht]
            exact ((hf (i + 1) (by omega) (by omega)).2.2 l).2 ⟨g', by omega⟩
    · obtain rfl : i = L := by omega
      refine ⟨[[]], by simp, by rw [c.one]; rfl, fun l => ?_⟩
      constructor
      · intro h
        rw [List.mem_singleton.1 h]
        exact ⟨.nil _ (Nat.le_refl _), by rw [hz]; rfl⟩
      · rintro ⟨g, _⟩
        have := g.len hk
        rw [List.length_eq_zero_iff.1 (show l.length = 0 by omega)]
        simp
end
/-- Best cuts of the one that are told apart as best cuts of the other one are counted there. -/
theorem many_le {L L' : Nat} {F F' : Nat → Int} {ks ks' : List Kd} (hk : KOk ks) (hk' : KOk ks') (g : List Sh → List Sh) (hg : ∀ l, GoodL L F ks 0 l → valL ks l = behindAt L F ks L 0 → GoodL L' F' ks' 0 (g l) ∧ valL ks' (g l) = behindAt L' F' ks' L' 0) (hi : ∀ l l', g l = g l' → l = l') :
    manyAt L F ks (behindAt L F ks L) L 0 ≤ manyAt L' F' ks' (behindAt L' F' ks' L') L' 0 := by
  obtain ⟨a, a1, a2, a3⟩ := best_lists hk (behind_from (L := L) (F := F) hk) (cnt_ref (L := L) (F := F) hk) L 0 (by omega)
  obtain ⟨b, b1, b2, b3⟩ := best_lists hk' (behind_from (L := L') (F := F') hk') (cnt_ref (L := L') (F := F') hk') L' 0 (by omega)
  rw [← ref_many0 hk, ← ref_many0 hk', ← a2, ← b2]
  have h := nodup_le (a.map g) b (by
    show List.Pairwise _ _
    rw [List.pairwise_map]
    exact a1.imp fun hne h => hne (hi _ _ h)) (fun x hx => by
    obtain ⟨l, hl, rfl⟩ := List.mem_map.1 hx
    obtain ⟨h1, h2⟩ := (a3 l).1 hl
    exact (b3 _).2 (hg l h1 h2))
  rw [List.length_map] at h
  omega

/-! ### Cuts as lists of sheets that stand apart -/
section
variable {L : Nat} {F : Nat → Int} {ks : List Kd}
def wOf (ks : List Kd) (s : Sh) : Int := (ks.getD s.k.toNat ⟨0, 0, 0⟩).w
theorem wOf_at {f k : Nat} {x : Kd} (hx : ks[k]? = some x) : wOf ks ⟨f, k⟩ = x.w := by
  unfold wOf
  simp [List.getD, hx]
theorem good_iff (hk : KOk ks) : ∀ (l : List Sh) (i : Nat), GoodL L F ks i l ↔ i ≤ L ∧ (∀ s ∈ l, ∃ (f k : Nat) (x : Kd), s = ⟨f, k⟩ ∧ ks[k]? = some x ∧ canB L F x f = true) ∧ l.Pairwise (fun s s' => s.f + wOf ks s ≤ s'.f) ∧ ∀ s ∈ l, (i : Int) ≤ s.f
  | [], i => ⟨fun h => by have := h.len hk; exact ⟨by omega, by simp, .nil, by simp⟩, fun h => .nil i h.1⟩
  | s :: l, i => by
    constructor
    · intro h
      cases h with
      | cons _ f k x _ hi hx hc hr =>
        obtain ⟨h1, h2, h3, h4⟩ := (good_iff hk l (f + x.w.toNat)).1 hr
        have hb := hk.bd hx
        have hle := (canB_iff.1 hc).1
        refine ⟨by omega, ?_, ?_, ?_⟩
        · intro s hs
          rcases List.mem_cons.1 hs with rfl | hs
          · exact ⟨f, k, x, rfl, hx, hc⟩
          · exact h2 s hs
        · rw [List.pairwise_cons]
          refine ⟨fun s' hs' => ?_, h3⟩
          have := h4 s' hs'
          rw [wOf_at hx]
          show (f : Int) + x.w ≤ s'.f
          omega
        · intro s hs
          rcases List.mem_cons.1 hs with rfl | hs
          · show (i : Int) ≤ (f : Int); omega
          · have := h4 s hs; omega
    · rintro ⟨h1, h2, h3, h4⟩
      obtain ⟨f, k, x, rfl, hx, hc⟩ := h2 s (by simp)
      obtain ⟨p1, p2⟩ := List.pairwise_cons.1 h3
      have hb := hk.bd hx
      have hle := (canB_iff.1 hc).1
      have hi := h4 _ (List.mem_cons_self ..)
      simp only at hi
      refine .cons i f k x l (by omega) hx hc ((good_iff hk l (f + x.w.toNat)).2 ⟨by omega, fun s hs => h2 s (by simp [hs]), p2, fun s hs => ?_⟩)
      have := p1 s hs
      rw [wOf_at hx] at this
      simp only at this
      omega
theorem valL_append (a b : List Sh) : valL ks (a ++ b) = valL ks a + valL ks b := by unfold valL; rw [List.map_append, List.sum_append]
theorem valL_reverse : ∀ l : List Sh, valL ks l.reverse = valL ks l
  | [] => rfl
  | s :: l => by
    rw [List.reverse_cons, valL_append, valL_reverse l]
    unfold valL
    simp only [List.map_cons, List.sum_cons, List.map_nil, List.sum_nil]
    omega
end

/-! ### A ribbon that is seen from its other end -/
def mirF (L : Int) (fs : List Int) : List Int := (fs.map fun x => L - 1 - x).reverse
theorem mir_rib {L : Int} {fs : List Int} (h : ribE L fs = 0) : ribE L (mirF L fs) = 0 := by
  obtain ⟨hp, hm⟩ := rib_pair h
  obtain ⟨hl, _⟩ := ribE_zero h
  refine rib_of hl.1 hl.2 ?_ (fun x hx => ?_)
  · unfold mirF
    rw [List.pairwise_reverse, List.pairwise_map]
    exact hp.imp fun h => by omega
  · unfold mirF at hx
    rw [List.mem_reverse] at hx
    obtain ⟨y, hy, rfl⟩ := List.mem_map.1 hx
    have := hm y hy
    omega
theorem mir_has (L : Int) (fs : List Int) (x : Int) : (mirF L fs).contains x = fs.contains (L - 1 - x) := by
  rw [Bool.eq_iff_iff, List.contains_iff_mem, List.contains_iff_mem]
  unfold mirF
  rw [List.mem_reverse, List.mem_map]
  constructor
  · rintro ⟨y, hy, rfl⟩
    rw [show L - 1 - (L - 1 - y) = y by omega]
    exact hy
  · intro h
    exact ⟨_, h, by omega⟩
theorem mir_cnt (L : Nat) (fs : List Int) : ∀ j, j ≤ L → cnt (mirF L fs) j = cnt fs L - cnt fs (L - j)
  | 0, _ => by simp [cnt_zero]
  | j + 1, h => by
    have ih := mir_cnt L fs j (by omega)
    have e : L - j = (L - (j + 1)) + 1 := by omega
    rw [e, cnt_succ] at ih
    rw [cnt_succ, ih, mir_has]
    have e2 : (L : Int) - 1 - (j : Int) = ((L - (j + 1) : Nat) : Int) := by omega
    rw [e2]
    omega
/-- Sheets can be cut from the other end just if they can be cut. -/
def Mir (L : Nat) (F F' : Nat → Int) (ks : List Kd) : Prop := ∀ (i : Nat) (x : Kd), x ∈ ks → i + x.w.toNat ≤ L → canB L F' x (L - (i + x.w.toNat)) = canB L F x i
theorem mir_can {L : Nat} {fs : List Int} {ks : List Kd} (hk : KOk ks) : Mir L (Fst fs L) (Fst (mirF L fs) L) ks := by
  intro i x hx hi
  obtain ⟨k, hk'⟩ := List.getElem?_of_mem hx
  have hb := hk.bd hk'
  rw [Bool.eq_iff_iff, canB_iff, canB_iff]
  unfold Fst
  rw [if_pos (by omega), if_pos (by omega), if_pos (by omega), if_pos (by omega), mir_cnt L fs _ (by omega), mir_cnt L fs _ (by omega), show L - (L - (i + x.w.toNat)) = i + x.w.toNat by omega, show L - (L - (i + x.w.toNat) + x.w.toNat) = i by omega]
  constructor <;> rintro ⟨h1, h2⟩ <;> exact ⟨by omega, by omega⟩
section
variable {L : Nat} {F F' : Nat → Int} {ks : List Kd}
theorem Mir.symm (h : Mir L F F' ks) : Mir L F' F ks := by
  intro i x hx hi
  have := h (L - (i + x.w.toNat)) x hx (by omega)
  rw [show L - (L - (i + x.w.toNat) + x.w.toNat) = i by omega] at this
  exact this.symm
theorem Mir.way (_hk : KOk ks) (h : Mir L F F' ks) {i j : Nat} {v : Int} (hw : Way L F ks i j v) : j ≤ L → Way L F' ks (L - j) (L - i) v := by
  induction hw with
  | nil i => intro _; exact .nil _
  | waste i e v hl hw ih =>
    intro he
    have h1 := ih he
    have hup := hw.up
    have h2 : Way L F' ks (L - (i + 1)) (L - i) 0 := by
      have := Way.waste (L := L) (F := F') (ks := ks) (L - (i + 1)) (L - i) 0 (by omega) (by rw [show L - (i + 1) + 1 = L - i by omega]; exact .nil _)
      exact this
    have := h1.trans h2
    rw [Int.add_zero] at this
    exact this
  | sheet i e k x v hx hc hw ih =>
    intro he
    have h1 := ih he
    have hup := hw.up
    have hm := h i x (List.mem_of_getElem? hx) (by omega)
    have h2 := Way.one hx (hm.trans hc)
    rw [show L - (i + x.w.toNat) + x.w.toNat = L - i by omega] at h2
    have := h1.trans h2
    rw [Int.add_comm] at this
    exact this
theorem Mir.worth (hk : KOk ks) (h : Mir L F F' ks) {A Bh' : Nat → Int} (hU : UpTo L F ks A) (hF : From L F' ks Bh') {j : Nat} (hj : j ≤ L) : Bh' (L - j) = A j := by
  have h1 := hF.le (h.way hk (hU.way j hj) hj)
  have h2 := hU.le (h.symm.way hk (hF.way (L - j) (by omega)) (Nat.le_refl _))
  have z1 := hF.zero
  have z2 := hU.zero
  rw [Nat.sub_self, show L - (L - j) = j by omega] at h2
  rw [show L - 0 = L by omega] at h1
  omega
def mirL (L : Int) (ks : List Kd) (l : List Sh) : List Sh := (l.map fun s => (⟨L - s.f - wOf ks s, s.k⟩ : Sh)).reverse
theorem mirL_inv (L : Int) (ks : List Kd) (l : List Sh) : mirL L ks (mirL L ks l) = l := by
  unfold mirL
  rw [List.map_reverse, List.reverse_reverse, List.map_map]
  have : ∀ s : Sh, ((fun s => (⟨L - s.f - wOf ks s, s.k⟩ : Sh)) ∘ fun s => (⟨L - s.f - wOf ks s, s.k⟩ : Sh)) s = s := fun s => by
    show (⟨L - (L - s.f - wOf ks s) - wOf ks ⟨L - s.f - wOf ks s, s.k⟩, s.k⟩ : Sh) = s
    have e : wOf ks ⟨L - s.f - wOf ks s, s.k⟩ = wOf ks s := rfl
    rw [e, show L - (L - s.f - wOf ks s) - wOf ks s = s.f by omega]
  rw [show ((fun s => (⟨L - s.f - wOf ks s, s.k⟩ : Sh)) ∘ fun s => (⟨L - s.f - wOf ks s, s.k⟩ : Sh)) = id from funext this, List.map_id]
theorem mirL_val (L : Int) (l : List Sh) : valL ks (mirL L ks l) = valL ks l := by
  unfold mirL
  rw [valL_reverse]
  unfold valL
  rw [List.map_map]
  rfl
theorem Mir.good (hk : KOk ks) (h : Mir L F F' ks) {l : List Sh} (g : GoodL L F ks 0 l) : GoodL L F' ks 0 (mirL L ks l) := by
  obtain ⟨h1, h2, h3, h4⟩ := (good_iff hk l 0).1 g
  have hm : ∀ s ∈ mirL L ks l, ∃ (f k : Nat) (x : Kd), s = ⟨((L - (f + x.w.toNat) : Nat) : Int), k⟩ ∧ ks[k]? = some x ∧ canB L F' x (L - (f + x.w.toNat)) = true := fun s hs => by
    unfold mirL at hs
    rw [List.mem_reverse] at hs
    obtain ⟨s', hs', rfl⟩ := List.mem_map.1 hs
    obtain ⟨f, k, x, rfl, hx, hc⟩ := h2 s' hs'
    have hb := hk.bd hx
    have hle := (canB_iff.1 hc).1
    refine ⟨f, k, x, ?_, hx, ?_⟩
    · rw [wOf_at hx]
      simp only [Sh.mk.injEq, and_true]
      omega
    · rw [h f x (List.mem_of_getElem? hx) (by omega)]
      exact hc
  refine (good_iff hk _ 0).2 ⟨Nat.zero_le _, fun s hs => ?_, ?_, fun s hs => ?_⟩
  · obtain ⟨f, k, x, rfl, hx, hc⟩ := hm s hs
    exact ⟨_, k, x, rfl, hx, hc⟩
  · unfold mirL
    rw [List.pairwise_reverse, List.pairwise_map]
    refine h3.imp fun {a b} hab => ?_
    show (L : Int) - b.f - wOf ks b + wOf ks ⟨(L : Int) - b.f - wOf ks b, b.k⟩ ≤ (L : Int) - a.f - wOf ks a
    have e : wOf ks ⟨(L : Int) - b.f - wOf ks b, b.k⟩ = wOf ks b := rfl
    rw [e]
    omega
  · obtain ⟨f, k, x, rfl, hx, hc⟩ := hm s hs
    simp
theorem Mir.best (hk : KOk ks) (h : Mir L F F' ks) : behindAt L F' ks L 0 = behindAt L F ks L 0 := by
  have := h.worth hk (ahead_upto (L := L) (F := F) hk) (behind_from (L := L) (F := F') hk) (Nat.le_refl L)
  rw [Nat.sub_self] at this
  rw [this, ahead_behind hk]
theorem Mir.many (hk : KOk ks) (h : Mir L F F' ks) : manyAt L F' ks (behindAt L F' ks L) L 0 = manyAt L F ks (behindAt L F ks L) L 0 := by
  have hinj : ∀ l l', mirL L ks l = mirL L ks l' → l = l' := fun l l' e => by rw [← mirL_inv L ks l, e, mirL_inv]
  have h1 := many_le (F := F) (F' := F') hk hk (mirL L ks) (fun l g v => ⟨h.good hk g, by rw [mirL_val, v, h.best hk]⟩) hinj
  have h2 := many_le (F := F') (F' := F) hk hk (mirL L ks) (fun l g v => ⟨h.symm.good hk g, by rw [mirL_val, v, h.best hk]⟩) hinj
  omega
theorem Mir.cross (hk : KOk ks) (h : Mir L F F' ks) {p : Nat} (hp : p ≤ L) (hc : crossB L F ks (aheadAt L F ks L) (behindAt L F ks L) p = true) : crossB L F' ks (aheadAt L F' ks L) (behindAt L F' ks L) (L - p) = true := by
  obtain ⟨f, k, ⟨hf, hci, hw⟩, ho⟩ := cross_iff.1 hc
  obtain ⟨x, hx, hcb, hd⟩ := canI_at hci
  have hb := hk.bd hx
  have hle := (canB_iff.1 hcb).1
  unfold wtK at hw
  unfold overB at ho
  rw [hd] at hw ho
  simp only [Bool.and_eq_true, decide_eq_true_eq] at ho
  have hm := h f x (List.mem_of_getElem? hx) (by omega)
  have u := ahead_upto (L := L) (F := F) hk
  have u' := ahead_upto (L := L) (F := F') hk
  have b := behind_from (L := L) (F := F) hk
  have b' := behind_from (L := L) (F := F') hk
  have e1 := h.worth hk u b' (j := f) (by omega)
  have e2 := h.symm.worth hk u' b (j := L - (f + x.w.toNat)) (by omega)
  rw [show L - (L - (f + x.w.toNat)) = f + x.w.toNat by omega] at e2
  have e3 : aheadAt L F' ks L L = aheadAt L F ks L L := by rw [ahead_behind hk, ahead_behind hk, h.best hk]
  refine cross_iff.2 ⟨L - (f + x.w.toNat), k, ⟨by omega, by unfold canI; rw [hx]; exact hm.trans hcb, ?_⟩, ?_⟩
  · unfold wtK
    rw [hd, show L - (f + x.w.toNat) + x.w.toNat = L - f by omega]
    omega
  · unfold overB
    rw [hd]
    simp only [Bool.and_eq_true, decide_eq_true_eq]
    omega
/-- **A place is parted as often, seen from the other end.** -/
theorem Mir.parted (hk : KOk ks) (h : Mir L F F' ks) {p : Nat} (hp : p ≤ L) : partedP L F' ks (aheadAt L F' ks L) (behindAt L F' ks L) ((L - p : Nat) : Int) = partedP L F ks (aheadAt L F ks L) (behindAt L F ks L) p := by
  have u := ahead_upto (L := L) (F := F) hk
  have u' := ahead_upto (L := L) (F := F') hk
  have b := behind_from (L := L) (F := F) hk
  have b' := behind_from (L := L) (F := F') hk
  have e1 := h.worth hk u b' (j := p) hp
  have e2 := h.symm.worth hk u' b (j := L - p) (by omega)
  rw [show L - (L - p) = p by omega] at e2
  have e3 : aheadAt L F' ks L L = aheadAt L F ks L L := by rw [ahead_behind hk, ahead_behind hk, h.best hk]
  have i1 : inR 0 (L : Int) (p : Int) = true := (inR_iff _ _ _).2 ⟨by omega, by omega⟩
  have i2 : inR 0 (L : Int) ((L - p : Nat) : Int) = true := (inR_iff _ _ _).2 ⟨by omega, by omega⟩
  have ec : crossB L F' ks (aheadAt L F' ks L) (behindAt L F' ks L) (L - p) = crossB L F ks (aheadAt L F ks L) (behindAt L F ks L) p := by
    rw [Bool.eq_iff_iff]
    constructor
    · intro hc
      have := h.symm.cross hk (by omega) hc
      rw [show L - (L - p) = p by omega] at this
      exact this
    · exact h.cross hk hp
  unfold partedP
  rw [i1, i2, Int.toNat_natCast, Int.toNat_natCast, ec, e1, e3, ← e2, Int.add_comm]
end

/-! ### All Prices as many times as great -/
def timesK (t : Int) (ks : List Kd) : List Kd := ks.map fun x => ⟨x.w, x.p * t, x.m⟩
section
variable {L : Nat} {F : Nat → Int} {ks : List Kd} {t : Int}
theorem times_at {k : Nat} {x : Kd} (hx : ks[k]? = some x) : (timesK t ks)[k]? = some ⟨x.w, x.p * t, x.m⟩ := by unfold timesK; rw [List.getElem?_map, hx]; rfl
theorem times_of {k : Nat} {x' : Kd} (hx : (timesK t ks)[k]? = some x') : ∃ x, ks[k]? = some x ∧ x' = ⟨x.w, x.p * t, x.m⟩ := by
  unfold timesK at hx
  rw [List.getElem?_map] at hx
  cases h : ks[k]? with
  | none => rw [h] at hx; cases hx
  | some x => rw [h] at hx; cases hx; exact ⟨x, rfl, rfl⟩
theorem times_can (x : Kd) (i : Nat) : canB L F ⟨x.w, x.p * t, x.m⟩ i = canB L F x i := by rw [Bool.eq_iff_iff, canB_iff, canB_iff]
theorem times_way {i j : Nat} {v : Int} (h : Way L F ks i j v) : Way L F (timesK t ks) i j (v * t) := by
  induction h with
  | nil i => rw [Int.zero_mul]; exact .nil i
  | waste i e v hl _ ih => exact .waste _ _ _ hl ih
  | sheet i e k x v hx hc _ ih =>
    rw [Int.add_mul]
    exact .sheet i e k ⟨x.w, x.p * t, x.m⟩ _ (times_at hx) ((times_can x i).trans hc) ih
theorem way_times {i j : Nat} {v : Int} (h : Way L F (timesK t ks) i j v) : ∃ u, v = u * t ∧ Way L F ks i j u := by
  induction h with
  | nil i => exact ⟨0, by rw [Int.zero_mul], .nil i⟩
  | waste i e v hl _ ih =>
    obtain ⟨u, h1, h2⟩ := ih
    exact ⟨u, h1, .waste _ _ _ hl h2⟩
  | sheet i e k x' v hx hc _ ih =>
    obtain ⟨u, h1, h2⟩ := ih
    obtain ⟨x, hx0, rfl⟩ := times_of hx
    refine ⟨x.p + u, by rw [h1, Int.add_mul], .sheet i e k x _ hx0 ((times_can x i).symm.trans hc) h2⟩
theorem times_worth (ht : 1 ≤ t) {Bh Bh' : Nat → Int} (hF : From L F ks Bh) (hF' : From L F (timesK t ks) Bh') {j : Nat} (hj : j ≤ L) : Bh' j = Bh j * t := by
  have h1 := hF'.le (times_way (t := t) (hF.way j hj))
  obtain ⟨u, e, h2⟩ := way_times (hF'.way j hj)
  have h3 := hF.le h2
  have z1 := hF.zero
  have z2 := hF'.zero
  have h4 : u * t ≤ Bh j * t := Int.mul_le_mul_of_nonneg_right (by omega) (by omega)
  omega
theorem times_good {i : Nat} {l : List Sh} (h : GoodL L F ks i l) : GoodL L F (timesK t ks) i l := by
  induction h with
  | nil i hi => exact .nil i hi
  | cons i f k x l hi hx hc _ ih => exact .cons i f k _ l hi (times_at hx) ((times_can x f).trans hc) ih
theorem good_times {i : Nat} {l : List Sh} (h : GoodL L F (timesK t ks) i l) : GoodL L F ks i l := by
  induction h with
  | nil i hi => exact .nil i hi
  | cons i f k x' l hi hx hc _ ih =>
    obtain ⟨x, hx0, rfl⟩ := times_of hx
    exact .cons i f k x l hi hx0 ((times_can x f).symm.trans hc) ih
theorem times_val {i : Nat} {l : List Sh} (h : GoodL L F ks i l) : valL (timesK t ks) l = valL ks l * t := by
  induction h with
  | nil i hi => show (0 : Int) = 0 * t; rw [Int.zero_mul]
  | cons i f k x l hi hx hc _ ih => rw [valL_cons l hx, valL_cons l (times_at hx), ih, Int.add_mul]
theorem times_canI (i k : Nat) : canI L F (timesK t ks) i k = canI L F ks i k := by
  unfold canI
  cases h : ks[k]? with
  | none =>
    have : (timesK t ks)[k]? = none := by unfold timesK; rw [List.getElem?_map, h]; rfl
    rw [this]
  | some x => rw [times_at h]; exact times_can x i
theorem find_congr {α : Type} {p q : α → Bool} : ∀ {l : List α}, (∀ x ∈ l, p x = q x) → l.find? p = l.find? q
  | [], _ => rfl
  | a :: l, h => by
    rw [List.find?_cons, List.find?_cons, h a (by simp), find_congr fun x hx => h x (by simp [hx])]
theorem times_first (hk : KOk ks) (ht : 1 ≤ t) {Bh Bh' : Nat → Int} (hF : From L F ks Bh) (hF' : From L F (timesK t ks) Bh') : ∀ n i, firstAt L F (timesK t ks) Bh' n i = firstAt L F ks Bh n i := by
  intro n
  induction n with
  | zero => intro i; rfl
  | succ n ih =>
    intro i
    unfold firstAt
    by_cases hi : i < L
    · rw [if_pos hi, if_pos hi]
      have e1 : (List.range (timesK t ks).length).filter (canI L F (timesK t ks) i) = (List.range ks.length).filter (canI L F ks i) := by
        rw [show (timesK t ks).length = ks.length by unfold timesK; rw [List.length_map]]
        exact List.filter_congr fun k _ => times_canI i k
      have e2 : ((List.range ks.length).filter (canI L F ks i)).find? (tieB (timesK t ks) Bh' i) = ((List.range ks.length).filter (canI L F ks i)).find? (tieB ks Bh i) := by
        refine find_congr fun k hm => ?_
        obtain ⟨x, hx, hc, hd⟩ := canI_at (by simpa using (List.mem_filter.1 hm).2 : canI L F ks i k = true)
        have hle := (canB_iff.1 hc).1
        have hb := hk.bd hx
        have hd' : (timesK t ks).getD k ⟨0, 0, 0⟩ = ⟨x.w, x.p * t, x.m⟩ := by simp [List.getD, times_at hx]
        unfold tieB
        rw [hd, hd', times_worth ht hF hF' (show i + x.w.toNat ≤ L by omega), times_worth ht hF hF' (show i ≤ L by omega), ← Int.add_mul, Bool.eq_iff_iff, beq_iff_eq, beq_iff_eq]
        constructor
        · intro h; exact Int.eq_of_mul_eq_mul_right (by omega) h
        · intro h; rw [h]
      rw [e1, e2]
      cases hfd : ((List.range ks.length).filter (canI L F ks i)).find? (tieB ks Bh i) with
      | none => exact ih _
      | some k =>
        have hm := List.mem_of_find?_eq_some hfd
        obtain ⟨x, hx, hc, hd⟩ := canI_at (by simpa using (List.mem_filter.1 hm).2 : canI L F ks i k = true)
        have hd' : (timesK t ks).getD k ⟨0, 0, 0⟩ = ⟨x.w, x.p * t, x.m⟩ := by simp [List.getD, times_at hx]
        simp only [hd, hd', ih]
    · rw [if_neg hi, if_neg hi]
/-- **All Prices t times as great: so is the worth; the first best cuts and the count stay.** -/
theorem times_law (hk : KOk ks) (hk' : KOk (timesK t ks)) (ht : 1 ≤ t) : behindAt L F (timesK t ks) L 0 = t * behindAt L F ks L 0 ∧ firstAt L F (timesK t ks) (behindAt L F (timesK t ks) L) L 0 = firstAt L F ks (behindAt L F ks L) L 0 ∧
    manyAt L F (timesK t ks) (behindAt L F (timesK t ks) L) L 0 = manyAt L F ks (behindAt L F ks L) L 0 := by
  have hF := behind_from (L := L) (F := F) hk
  have hF' := behind_from (L := L) (F := F) hk'
  have hw := times_worth ht hF hF' (Nat.zero_le L)
  refine ⟨by rw [hw, Int.mul_comm], times_first hk ht hF hF' L 0, ?_⟩
  have h1 := many_le (F := F) (F' := F) hk hk' id (fun l g v => ⟨times_good g, by show valL _ l = _; rw [times_val g, v, hw]⟩) (fun _ _ h => h)
  have h2 := many_le (F := F) (F' := F) hk' hk id (fun l g v => ⟨good_times g, by
    have := times_val (t := t) (good_times g)
    show valL ks l = _
    rw [v, hw] at this
    exact (Int.eq_of_mul_eq_mul_right (by omega) this).symm⟩) (fun _ _ h => h)
  omega
end

/-! ### Two ribbons, one behind the other -/
def joinF (La : Int) (fa fb : List Int) : List Int := fa ++ fb.map (· + La)
theorem join_rib {La Lb : Int} {fa fb : List Int} (ha : ribE La fa = 0) (hb : ribE Lb fb = 0) (hl : La + Lb ≤ 24) : ribE (La + Lb) (joinF La fa fb) = 0 := by
  obtain ⟨p1, m1⟩ := rib_pair ha
  obtain ⟨p2, m2⟩ := rib_pair hb
  obtain ⟨l1, _⟩ := ribE_zero ha
  obtain ⟨l2, _⟩ := ribE_zero hb
  refine rib_of (by omega) hl ?_ (fun x hx => ?_)
  · unfold joinF
    rw [List.pairwise_append, List.pairwise_map]
    refine ⟨p1, p2.imp fun h => by omega, fun x hx y hy => ?_⟩
    obtain ⟨z, hz, rfl⟩ := List.mem_map.1 hy
    have := m1 x hx
    have := m2 z hz
    omega
  · unfold joinF at hx
    rcases List.mem_append.1 hx with h | h
    · have := m1 x h; omega
    · obtain ⟨z, hz, rfl⟩ := List.mem_map.1 h
      have := m2 z hz
      omega
section
variable {La Lb : Nat} {fa fb : List Int} {ks : List Kd}
theorem join_cnt1 (hb : ribE (Lb : Int) fb = 0) : ∀ j, j ≤ La → cnt (joinF La fa fb) j = cnt fa j
  | 0, _ => by rw [cnt_zero, cnt_zero]
  | j + 1, h => by
    rw [cnt_succ, cnt_succ, join_cnt1 hb j (by omega)]
    have : (joinF La fa fb).contains (j : Int) = fa.contains (j : Int) := by
      rw [Bool.eq_iff_iff, List.contains_iff_mem, List.contains_iff_mem]
      unfold joinF
      rw [List.mem_append]
      refine ⟨fun h' => ?_, .inl⟩
      rcases h' with h' | h'
      · exact h'
      · obtain ⟨z, hz, e⟩ := List.mem_map.1 h'
        have := ((rib_pair hb).2 z hz).1
        omega
    rw [this]
theorem join_cnt2 (ha : ribE (La : Int) fa = 0) (hb : ribE (Lb : Int) fb = 0) : ∀ j, cnt (joinF La fa fb) (La + j) = cnt fa La + cnt fb j
  | 0 => by rw [Nat.add_zero, join_cnt1 hb La (Nat.le_refl _), cnt_zero, Int.add_zero]
  | j + 1 => by
    rw [← Nat.add_assoc, cnt_succ, cnt_succ, join_cnt2 ha hb j]
    have : (joinF La fa fb).contains ((La + j : Nat) : Int) = fb.contains (j : Int) := by
      rw [Bool.eq_iff_iff, List.contains_iff_mem, List.contains_iff_mem]
      unfold joinF
      rw [List.mem_append]
      constructor
      · rintro (h' | h')
        · have := ((rib_pair ha).2 _ h').2
          omega
        · obtain ⟨z, hz, e⟩ := List.mem_map.1 h'
          rw [show (j : Int) = z by omega]
          exact hz
      · intro h'
        exact .inr (List.mem_map.2 ⟨_, h', by omega⟩)
    rw [this, Int.add_assoc]
theorem join_can1 (hk : KOk ks) (hb : ribE (Lb : Int) fb = 0) (i : Nat) (x : Kd) (hx : x ∈ ks) : canB La (Fst fa La) x i = (canB (La + Lb) (Fst (joinF La fa fb) (La + Lb)) x i && decide ((i : Int) + x.w ≤ La)) := by
  obtain ⟨k, hk'⟩ := List.getElem?_of_mem hx
  have hw := hk.bd hk'
  rw [Bool.eq_iff_iff, Bool.and_eq_true, canB_iff, canB_iff, decide_eq_true_eq]
  unfold Fst
  constructor
  · rintro ⟨h1, h2⟩
    rw [if_pos (by omega), if_pos (by omega)] at h2
    refine ⟨⟨by omega, ?_⟩, h1⟩
    rw [if_pos (by omega), if_pos (by omega), join_cnt1 hb _ (by omega), join_cnt1 hb _ (by omega)]
    exact h2
  · rintro ⟨⟨_, h2⟩, h1⟩
    rw [if_pos (by omega), if_pos (by omega), join_cnt1 hb _ (by omega), join_cnt1 hb _ (by omega)] at h2
    refine ⟨h1, ?_⟩
    rw [if_pos (by omega), if_pos (by omega)]
    exact h2
theorem join_can2 (hk : KOk ks) (ha : ribE (La : Int) fa = 0) (hb : ribE (Lb : Int) fb = 0) (i : Nat) (x : Kd) (hx : x ∈ ks) : canB (La + Lb - La) (Fst fb Lb) x i = canB (La + Lb) (Fst (joinF La fa fb) (La + Lb)) x (La + i) := by
  obtain ⟨k, hk'⟩ := List.getElem?_of_mem hx
  have hw := hk.bd hk'
  rw [Bool.eq_iff_iff, canB_iff, canB_iff]
  unfold Fst
  constructor
  · rintro ⟨h1, h2⟩
    rw [if_pos (by omega), if_pos (by omega)] at h2
    refine ⟨by omega, ?_⟩
    rw [if_pos (by omega), if_pos (by omega), Nat.add_assoc, join_cnt2 ha hb, join_cnt2 ha hb]
    omega
  · rintro ⟨h1, h2⟩
    rw [if_pos (by omega), if_pos (by omega), Nat.add_assoc, join_cnt2 ha hb, join_cnt2 ha hb] at h2
    refine ⟨by omega, ?_⟩
    rw [if_pos (by omega), if_pos (by omega)]
    omega
end

/-! ### What is worth of both parts, and best cuts at a place -/
section
variable {L p : Nat} {F F1 F2 : Nat → Int} {ks : List Kd}
/-- The worths of both parts together are what they are, parted or not. -/
theorem parts_worth (hk : KOk ks) (hp : p ≤ L) (hC1 : ∀ i x, x ∈ ks → canB p F1 x i = (canB L F x i && decide ((i : Int) + x.w ≤ p))) (hC2 : ∀ i x, x ∈ ks → canB (L - p) F2 x i = canB L F x (p + i)) :
    behindAt p F1 ks p 0 + behindAt (L - p) F2 ks (L - p) 0 ≤ behindAt L F ks L 0 ∧ ((behindAt p F1 ks p 0 + behindAt (L - p) F2 ks (L - p) 0 = behindAt L F ks L 0) ↔ (partedP L F ks (aheadAt L F ks L) (behindAt L F ks L) p).1 ≠ 0) ∧
    (partedP L F ks (aheadAt L F ks L) (behindAt L F ks L) p).2 = 0 ∧ 0 ≤ (partedP L F ks (aheadAt L F ks L) (behindAt L F ks L) p).1 ∧ (partedP L F ks (aheadAt L F ks L) (behindAt L F ks L) p).1 ≤ 2 := by
  have hU := ahead_upto (L := L) (F := F) hk
  have hF := behind_from (L := L) (F := F) hk
  have hF1 := behind_from (L := p) (F := F1) hk
  have hF2 := behind_from (L := L - p) (F := F2) hk
  have e1 := part1_worth hk hp hC1 hU hF1
  have e2 := part2_worth hp hC2 hF hF2 0 (Nat.zero_le _)
  rw [Nat.add_zero] at e2
  have e0 := worth_same hU hF
  have hle := hU.le (hF.way p hp)
  have hin : inR 0 (L : Int) (p : Int) = true := (inR_iff _ _ _).2 ⟨by omega, by omega⟩
  unfold partedP
  rw [hin, if_neg (show ¬ (true = false) by simp), Int.toNat_natCast, e1, e2, ← e0]
  by_cases hlt : aheadAt L F ks L p + behindAt L F ks L p < aheadAt L F ks L L
  · rw [if_pos hlt]
    refine ⟨hle, ⟨fun h => by omega, fun h => absurd rfl h⟩, rfl, Int.le_refl _, ?_⟩
    simp
  · rw [if_neg hlt]
    refine ⟨hle, ⟨fun _ => ?_, fun _ => by omega⟩, ?_, ?_, ?_⟩ <;> split <;> simp
theorem UpTo.mono {A : Nat → Int} (hU : UpTo L F ks A) {i j : Nat} (hij : i ≤ j) (hj : j ≤ L) : A i ≤ A j := (flat_of hU.waste hij hj).1
/-- Each sheet of best cuts leads to best cuts. -/
theorem GoodL.sheets_best (hk : KOk ks) {A Bh : Nat → Int} (hU : UpTo L F ks A) (hF : From L F ks Bh) {i : Nat} {l : List Sh} (g : GoodL L F ks i l) : A L ≤ A i + valL ks l → ∀ (f k : Nat) (x : Kd), (⟨f, k⟩ : Sh) ∈ l → ks[k]? = some x → canB L F x f = true ∧ A L ≤ A f + x.p + Bh (f + x.w.toNat) := by
  induction g with
  | nil i hi => intro _ f k x h; simp at h
  | cons i f k x l hi hx hc hr ih =>
    intro hv f' k' x' hm hx'
    have hle := (canB_iff.1 hc).1
    have hb := hk.bd hx
    have h1 := hU.mono (i := i) (j := f) hi (by omega)
    have h2 := hF.le (hr.way hk)
    have h3 := hF.zero
    have h4 := hU.sheet f k x hx hc
    rw [valL_cons l hx] at hv
    rcases List.mem_cons.1 hm with h | h
    · simp only [Sh.mk.injEq, Int.natCast_inj] at h
      obtain ⟨rfl, rfl⟩ := h
      rw [hx] at hx'
      cases hx'
      exact ⟨hc, by omega⟩
    · exact ih (by omega) f' k' x' h hx'
/-- Cuts that part a place are worth no more than both parts. -/
theorem GoodL.apart (hk : KOk ks) {A Bh : Nat → Int} (hU : UpTo L F ks A) (hF : From L F ks Bh) (hp : p ≤ L) {i : Nat} {l : List Sh} (g : GoodL L F ks i l) : i ≤ p → (∀ s ∈ l, ¬ (s.f < p ∧ (p : Int) < s.f + wOf ks s)) → A i + valL ks l ≤ A p + Bh p := by
  have hz := hF.zero
  induction g with
  | nil i hi =>
    intro h1 _
    have h2 := hU.mono h1 hp
    have h3 := hF.le ((GoodL.nil (L := L) (F := F) (ks := ks) p hp).way hk)
    have h4 : valL ks [] = 0 := rfl
    omega
  | cons i f k x l hi hx hc hr ih =>
    intro h1 h2
    have hle := (canB_iff.1 hc).1
    have hb := hk.bd hx
    have h0 := h2 ⟨f, k⟩ (by simp)
    rw [wOf_at hx] at h0
    simp only at h0
    by_cases hfp : f < p
    · have h3 := ih (by omega) (fun s hs => h2 s (by simp [hs]))
      have h4 := hU.sheet f k x hx hc
      have h5 := hU.mono hi (by omega)
      rw [valL_cons l hx]
      omega
    · have h3 : GoodL L F ks p (⟨f, k⟩ :: l) := .cons _ f k x l (by omega) hx hc hr
      have h4 := hF.le (h3.way hk)
      have h5 := hU.mono h1 hp
      omega
/-- **Given best cuts part a place, or do not, as is told.** -/
theorem best_part (hk : KOk ks) (hp : p ≤ L) {l : List Sh} (g : GoodL L F ks 0 l) (hv : valL ks l = behindAt L F ks L 0) :
    ((partedP L F ks (aheadAt L F ks L) (behindAt L F ks L) p).1 = 0 → ∃ s ∈ l, s.f < p ∧ (p : Int) < s.f + wOf ks s) ∧ ((partedP L F ks (aheadAt L F ks L) (behindAt L F ks L) p).1 = 2 → ∀ s ∈ l, ¬ (s.f < p ∧ (p : Int) < s.f + wOf ks s)) := by
  have hU := ahead_upto (L := L) (F := F) hk
  have hF := behind_from (L := L) (F := F) hk
  have e0 := worth_same hU hF
  have hz := hU.zero
  have hin : inR 0 (L : Int) (p : Int) = true := (inR_iff _ _ _).2 ⟨by omega, by omega⟩
  unfold partedP
  rw [hin, if_neg (show ¬ (true = false) by simp), Int.toNat_natCast]
  constructor
  · intro h
    have hlt : aheadAt L F ks L p + behindAt L F ks L p < aheadAt L F ks L L := by
      by_cases h1 : aheadAt L F ks L p + behindAt L F ks L p < aheadAt L F ks L L
      · exact h1
      · rw [if_neg h1] at h
        split at h <;> simp at h
    refine Classical.byContradiction fun hno => ?_
    have := g.apart hk hU hF hp (Nat.zero_le _) (fun s hs h => hno ⟨s, hs, h⟩)
    omega
  · intro h s hs ho
    have hcr : crossB L F ks (aheadAt L F ks L) (behindAt L F ks L) p = false := by
      split at h
      · simp at h
      · split at h
        · simp at h
        · rename_i h1; simpa using h1
    obtain ⟨f, k, x, rfl, hx, hc⟩ := g.each s hs
    obtain ⟨_, h2⟩ := g.sheets_best hk hU hF (by omega) f k x hs hx
    rw [wOf_at hx] at ho
    simp only at ho
    have hb := hk.bd hx
    have hle := (canB_iff.1 hc).1
    have hgd : ks.getD k ⟨0, 0, 0⟩ = x := by simp [List.getD, hx]
    have : crossB L F ks (aheadAt L F ks L) (behindAt L F ks L) p = true := by
      refine cross_iff.2 ⟨f, k, ⟨by omega, by unfold canI; rw [hx]; exact hc, ?_⟩, ?_⟩
      · unfold wtK; rw [hgd]; exact h2
      · unfold overB
        rw [hgd]
        simp only [Bool.and_eq_true, decide_eq_true_eq]
        omega
    rw [hcr] at this
    cases this
end
end Go.Proofs.Ytjmphmnimnbgkaa
