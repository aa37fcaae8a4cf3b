/- Plain words for steam's vat.proof, and what stands while it runs. -/
import Derived.Test.YtbbdlebmagknmaaSProof
namespace Go.Proofs.Ytbbdlebmagknmaa
open Go.RowKit Go.Shelf Go.Maps

/-! ### The document's least loads -/
def LA (rs : List Rg) (L : Nat) (j : Nat) : Int := Fill.leastAt Rg.lo Rg.hi L rs j j
theorem least_low (rs : List Rg) (L : Nat) : ∀ n j, j ≤ n → Fill.leastAt Rg.lo Rg.hi L rs n j = LA rs L j
  | 0, j, h => by obtain rfl : j = 0 := by omega
                  rfl
  | n + 1, j, h => by
    by_cases e : j = n + 1
    · subst e; rfl
    · have h1 := least_low rs L n j (by omega)
      rw [← h1]
      conv => lhs; unfold Fill.leastAt
      rw [if_neg e]
theorem need_eq (rs : List Rg) (L : Nat) (r : Rg) : Fill.needW Rg.lo Rg.hi L rs r.lo r.hi = needP (L : Int) rs r := rfl
theorem wins_eq (rs : List Rg) {r : Rg} (h : r ∈ winsL rs) : (r.lo, r.hi) ∈ Fill.windowsP Rg.lo Rg.hi rs := by
  obtain ⟨a, b, ha, hb, hle, rfl⟩ := winsL_iff.1 h
  unfold Fill.windowsP
  simp only [List.mem_flatMap, List.mem_map, List.mem_filter, decide_eq_true_eq]
  exact ⟨a, ha, b, ⟨hb, hle⟩, rfl⟩
theorem eq_wins (rs : List Rg) {p : Int × Int} (h : p ∈ Fill.windowsP Rg.lo Rg.hi rs) : (⟨p.1, p.2⟩ : Rg) ∈ winsL rs := by
  unfold Fill.windowsP at h
  simp only [List.mem_flatMap, List.mem_map, List.mem_filter, decide_eq_true_eq] at h
  obtain ⟨a, ha, b, ⟨hb, hle⟩, rfl⟩ := h
  exact winsL_iff.2 ⟨a, b, ha, hb, hle, rfl⟩
theorem la_succ (rs : List Rg) (L h : Nat) : LA rs L (h + 1) = Fill.leastStep Rg.lo Rg.hi L rs (Fill.windowsP Rg.lo Rg.hi rs) (Fill.leastAt Rg.lo Rg.hi L rs h) h (LA rs L h) := by
  unfold LA
  conv => lhs; unfold Fill.leastAt
  rw [if_pos rfl]
theorem la_mono1 (rs : List Rg) (L h : Nat) : LA rs L h ≤ LA rs L (h + 1) := by
  rw [la_succ]; exact (Fill.step_le Rg.lo Rg.hi L rs _ h _ _).1
theorem la_mono (rs : List Rg) (L : Nat) {i j : Nat} (h : i ≤ j) : LA rs L i ≤ LA rs L j := by
  induction j with
  | zero => obtain rfl : i = 0 := by omega
            exact Int.le_refl _
  | succ j ih =>
    by_cases e : i = j + 1
    · subst e; exact Int.le_refl _
    · exact Int.le_trans (ih (by omega)) (la_mono1 rs L j)
theorem la_win {rs : List Rg} (hr : RsOk rs) (L : Nat) {r : Rg} (h : r ∈ winsL rs) : LA rs L r.lo.toNat + needP (L : Int) rs r ≤ LA rs L (r.hi.toNat + 1) := by
  obtain ⟨h1, h2, h3⟩ := wins_small hr h
  rw [la_succ]
  have h4 := (Fill.step_le Rg.lo Rg.hi L rs (Fill.leastAt Rg.lo Rg.hi L rs r.hi.toNat) r.hi.toNat (Fill.windowsP Rg.lo Rg.hi rs) (LA rs L r.hi.toNat)).2 _ (wins_eq rs h) (by simp; omega)
  rw [need_eq, least_low rs L _ _ (by simp; omega)] at h4
  exact h4
theorem la_or {rs : List Rg} (hr : RsOk rs) (L h : Nat) : LA rs L (h + 1) = LA rs L h ∨ ∃ r ∈ winsL rs, r.hi = (h : Int) ∧ LA rs L (h + 1) = LA rs L r.lo.toNat + needP (L : Int) rs r := by
  rcases Fill.step_or Rg.lo Rg.hi L rs (Fill.leastAt Rg.lo Rg.hi L rs h) h (Fill.windowsP Rg.lo Rg.hi rs) (LA rs L h) with h1 | ⟨p, hp, h2, h3⟩
  · exact .inl (by rw [la_succ]; exact h1)
  · refine .inr ⟨⟨p.1, p.2⟩, eq_wins rs hp, h2, ?_⟩
    obtain ⟨h4, h5, h6⟩ := wins_small hr (eq_wins rs hp)
    rw [la_succ, h3, least_low rs L _ _ (by simp at h4 h5 ⊢; omega)]
    rfl
theorem la_zero (rs : List Rg) (L : Nat) : LA rs L 0 = 0 := rfl
theorem la_nonneg (rs : List Rg) (L j : Nat) : 0 ≤ LA rs L j := by have := la_mono rs L (Nat.zero_le j); rw [la_zero] at this; exact this

theorem la_bound {rs : List Rg} (hr : RsOk rs) {L : Nat} (hL : 1 ≤ L ∧ L ≤ 10) : ∀ j : Nat, LA rs L j ≤ 1010 * (j : Int)
  | 0 => by rw [la_zero]; omega
  | j + 1 => by
    have ih := la_bound hr hL j
    rcases la_or hr L j with e | ⟨r, hw, hh, e⟩
    · rw [e]; omega
    · have h1 := need_le (L := (L : Int)) (by omega) hr r
      obtain ⟨a0, a1, a2⟩ := wins_small hr hw
      have h2 := la_mono rs L (show r.lo.toNat ≤ j by omega)
      rw [e]; omega
theorem countP_disj {α : Type} {p q : α → Bool} : ∀ l : List α, (∀ x ∈ l, ¬ (p x = true ∧ q x = true)) → l.countP (fun x => p x || q x) = l.countP p + l.countP q
  | [], _ => rfl
  | x :: l, h => by
    have ih := countP_disj l (fun y hy => h y (by simp [hy]))
    have hx := h x (by simp)
    rw [List.countP_cons, List.countP_cons, List.countP_cons, ih]
    cases hp : p x <;> cases hq : q x <;> simp_all <;> omega
/-- Windows that need loads, one behind the other, are no more than logs. -/
theorem chain_len {rs : List Rg} {L : Int} (hL : 1 ≤ L) (hlh : ∀ x ∈ rs, x.lo ≤ x.hi) : ∀ ws : List Rg, (∀ r ∈ ws, needP L rs r ≠ 0) → ws.Pairwise (fun a b => a.hi < b.lo) → ws.length ≤ rs.countP (fun x => ws.any fun r => inWd r x)
  | [], _, _ => by simp
  | r :: ws, hn, hp => by
    rw [List.pairwise_cons] at hp
    have ih := chain_len hL hlh ws (fun s hs => hn s (by simp [hs])) hp.2
    have h1 : 1 ≤ rs.countP (inWd r) := by
      refine Nat.one_le_iff_ne_zero.2 fun h0 => hn r (by simp) ?_
      unfold needP
      rw [h0]
      unfold upI
      exact Int.ediv_eq_zero_of_lt (by simp; omega) (by simp; omega)
    have h2 := countP_disj (p := inWd r) (q := fun x => ws.any fun r => inWd r x) rs (fun x hx h => by
      obtain ⟨s, hs, hs2⟩ := List.any_eq_true.1 h.2
      have h3 := h.1
      have h4 := hp.1 s hs
      have h5 := hlh x hx
      unfold inWd at h3 hs2
      simp at h3 hs2
      omega)
    simp only [List.any_cons, List.length_cons]
    rw [h2]
    omega

/-! ### Chains of windows -/
structure ChainOk (rs : List Rg) (L : Int) (h : Nat) (ws : List Rg) (v : Int) : Prop where
  win : ∀ r ∈ ws, r ∈ winsL rs ∧ needP L rs r ≠ 0
  hi : ∀ r ∈ ws, r.hi < (h : Int)
  pw : ws.Pairwise fun a b => a.hi < b.lo
  sum : v = (ws.map (needP L rs)).sum
theorem ChainOk.nil (rs : List Rg) (L : Int) (h : Nat) : ChainOk rs L h [] 0 := ⟨by simp, by simp, List.Pairwise.nil, rfl⟩
theorem ChainOk.up {rs : List Rg} {L : Int} {h h' : Nat} {ws : List Rg} {v : Int} (c : ChainOk rs L h ws v) (hh : h ≤ h') : ChainOk rs L h' ws v := ⟨c.win, fun r hr => by have := c.hi r hr; omega, c.pw, c.sum⟩
theorem ChainOk.snoc {rs : List Rg} {L : Int} {ws : List Rg} {v : Int} {r : Rg} (hlo : 0 ≤ r.lo) (c : ChainOk rs L r.lo.toNat ws v) (hr : r ∈ winsL rs) (hn : needP L rs r ≠ 0) {h : Nat} (hh : r.hi = (h : Int)) (hlh : r.lo ≤ r.hi) : ChainOk rs L (h + 1) (ws ++ [r]) (v + needP L rs r) := by
  refine ⟨fun s hs => ?_, fun s hs => ?_, ?_, ?_⟩
  · rcases List.mem_append.1 hs with h1 | h1
    · exact c.win s h1
    · obtain rfl := List.mem_singleton.1 h1; exact ⟨hr, hn⟩
  · rcases List.mem_append.1 hs with h1 | h1
    · have := c.hi s h1; omega
    · obtain rfl := List.mem_singleton.1 h1; omega
  · refine List.pairwise_append.2 ⟨c.pw, List.pairwise_singleton _ _, fun a ha b hb => ?_⟩
    obtain rfl := List.mem_singleton.1 hb
    have := c.hi a ha; omega
  · rw [List.map_append, List.sum_append, ← c.sum]; simp

/-! ### A row of the call's own as a slice -/
theorem flat_get {α : Type} {enc : α → List Value} {k : Nat} (hk : ∀ x, (enc x).length = k) : ∀ (xs : List α) (i : Nat) (x : α), xs[i]? = some x → ∀ j u, (enc x)[j]? = some u → (xs.flatMap enc)[i * k + j]? = some u
  | [], i, x, h, _, _, _ => by simp at h
  | y :: xs, 0, x, h, j, u, hu => by
    obtain rfl : y = x := by simpa using h
    have := (List.getElem?_eq_some_iff.1 hu).1
    rw [List.flatMap_cons, Nat.zero_mul, Nat.zero_add, List.getElem?_append_left this, hu]
  | y :: xs, i + 1, x, h, j, u, hu => by
    have h1 := flat_get hk xs i x (by simpa using h) j u hu
    rw [List.flatMap_cons, List.getElem?_append_right (by rw [hk, Nat.add_mul]; omega), hk, Nat.add_mul, Nat.one_mul, show i * k + k + j - k = i * k + j by omega]
    exact h1
theorem own_slG {α : Type} {enc : α → List Value} {k : Nat} (hk : ∀ x, (enc x).length = k) {W : World} {base n : Nat} {e : TypeId} {v : Value} {xs : List α} (h : W.ownsRow base e k v n (xs.flatMap enc)) (hx : xs.length = n) :
    ∃ A c, v = .slice A n c ∧ Sl k enc W W.heap.size A n c xs := by
  rcases h.2 with ⟨rfl, rfl⟩ | ⟨g, cap, cur, rfl, hb, hg, hc, hm, hs, ht⟩
  · exact ⟨none, 0, rfl, hx, Nat.le_refl _, by omega, fun h => by omega⟩
  · refine ⟨_, cap, rfl, hx, hc, by simp only [maxLen] at hm; omega, fun _ => ⟨g, 0, rfl, (Array.getElem?_eq_some_iff.1 hg).1, fun i x hi j u hu => ?_⟩⟩
    have h1 := flat_get hk xs i x hi j u hu
    rw [← ht] at h1
    have h2 := (List.getElem?_eq_some_iff.1 h1).1
    rw [List.getElem?_take_of_lt (by simp at h2; omega)] at h1
    simp only [World.cell?, hg, Nat.zero_add]
    simpa using h1

/-! ### The list of chains -/
def uArr (F : Nat → Ch) : Array Value := ((List.range 204).map fun o => if o % 2 = 0 then (F (o / 2)).sl else .int .i64 (F (o / 2)).v).toArray
def updF (F : Nat → Ch) (j : Nat) (x : Ch) : Nat → Ch := fun k => if k = j then x else F k
theorem uArr_sl (F : Nat → Ch) {j : Nat} (h : j < 102) : (uArr F)[j * 2]? = some (F j).sl := by
  unfold uArr
  simp only [List.getElem?_toArray, List.getElem?_map]
  rw [List.getElem?_range (by omega)]
  simp
theorem uArr_v (F : Nat → Ch) {j : Nat} (h : j < 102) : (uArr F)[j * 2 + 1]? = some (.int .i64 (F j).v) := by
  unfold uArr
  simp only [List.getElem?_toArray, List.getElem?_map]
  rw [List.getElem?_range (by omega)]
  simp only [Option.map_some, show ¬ (j * 2 + 1) % 2 = 0 by omega, if_false, show (j * 2 + 1) / 2 = j by omega]
theorem uArr_set (F : Nat → Ch) (j : Nat) (x : Ch) : ((uArr F).setIfInBounds (j * 2) x.sl).setIfInBounds (j * 2 + 1) (.int .i64 x.v) = uArr (updF F j x) := by
  unfold uArr
  rw [List.setIfInBounds_toArray, List.setIfInBounds_toArray]
  congr 1
  apply List.ext_getElem
  · simp
  · intro o h1 h2
    have ho : o < 204 := by simpa using h2
    simp only [List.getElem_set, List.getElem_map, List.getElem_range]
    by_cases e1 : j * 2 + 1 = o
    · subst e1
      simp only [if_true, show ¬ (j * 2 + 1) % 2 = 0 by omega, if_false, show (j * 2 + 1) / 2 = j by omega, updF]
    · rw [if_neg e1]
      by_cases e2 : j * 2 = o
      · subst e2
        simp [updF]
      · rw [if_neg e2]
        have : o / 2 ≠ j := by omega
        simp [updF, this]
end Go.Proofs.Ytbbdlebmagknmaa
