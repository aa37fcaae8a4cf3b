/- What an append of a slice's elements to a row of the call's own does, for elements of any size. -/
import Derived.Test.YtmfiggbobaihcaaDagA
namespace Go.Proofs.Ytmfiggbobaihcaa
open Go.RowKit Go.Shelf

section
variable {α : Type} {k : Nat} {enc : α → List Value}
theorem fm_len (hk : ∀ x, (enc x).length = k) (xs : List α) : (xs.flatMap enc).length = xs.length * k := by
  induction xs with
  | nil => simp
  | cons x xs ih => rw [List.flatMap_cons, List.length_append, ih, hk, List.length_cons, Nat.succ_mul, Nat.add_comm]
theorem fm_get (hk : ∀ x, (enc x).length = k) : ∀ (xs : List α) (i : Nat) (x : α), xs[i]? = some x → ∀ r, r < k → (xs.flatMap enc)[i * k + r]? = (enc x)[r]?
  | [], i, x, h, _, _ => by simp at h
  | y :: xs, 0, x, h, r, hr => by
    simp at h
    subst h
    rw [List.flatMap_cons, Nat.zero_mul, Nat.zero_add, List.getElem?_append_left (by rw [hk]; exact hr)]
  | y :: xs, i + 1, x, h, r, hr => by
    have h1 : xs[i]? = some x := by simpa using h
    rw [List.flatMap_cons, List.getElem?_append_right (by rw [hk, Nat.succ_mul]; omega), hk]
    rw [show (i + 1) * k + r - k = i * k + r by rw [Nat.succ_mul]; omega]
    exact fm_get hk xs i x h1 r hr
theorem fm_news (hk : ∀ x, (enc x).length = k) {W : World} {B b o n c : Nat} {xs : List α} (h : Sl k enc W B (some ⟨b, o, none⟩) n c xs) (hn : 0 < n) : ∀ j u, (xs.flatMap enc)[j]? = some u → W.cell? ((⟨b, o, none⟩ : Addr).add j) = some u := by
  intro j u hu
  obtain ⟨b', o', hA, _, hc⟩ := h.at_ hn
  cases hA
  have hj : j < xs.length * k := by rw [← fm_len hk]; exact (List.getElem?_eq_some_iff.1 hu).1
  have hk0 : 0 < k := by
    rcases Nat.eq_zero_or_pos k with e | e
    · subst e; simp at hj
    · exact e
  have hq : j / k < xs.length := (Nat.div_lt_iff_lt_mul hk0).2 hj
  have hx : xs[j / k]? = some xs[j / k] := List.getElem?_eq_getElem hq
  have h1 := fm_get hk xs (j / k) _ hx (j % k) (Nat.mod_lt _ hk0)
  rw [Nat.div_add_mod' j k, hu] at h1
  have h2 := hc (j / k) _ hx (j % k) u h1.symm
  have hadd : (⟨b, o, none⟩ : Addr).add j = ⟨b, o + j, none⟩ := by unfold Addr.add; split <;> simp_all
  rw [hadd, ← h2, Nat.add_assoc, Nat.div_add_mod' j k]
/-- All elements of a slice are appended. -/
theorem run_app_sl {P : Program} (hk : ∀ x, (enc x).length = k) (h1c : ∀ x, ∀ u ∈ enc x, u.oneCell' = true) (hk0 : 0 < k) (t e ty : TypeId) {i : TypeInfo} {z : Value} {bytes : Nat} (hund : P.underlying t = some (.slice e)) (hi : P.info? e = some i) (hz : i.zero = some z) (hsz : i.size = k) (hby : i.bytes = bytes) (hzs : z.cells.size = k)
    {W : World} {base : Nat} {v : Value} {xs : List α} (hown : W.ownsRow base e k v xs.length (xs.flatMap enc)) {A : Option Addr} {n c : Nat} {ys : List α} (hs : Sl k enc W W.heap.size A n c ys) (hb0 : bytes ≤ 1000) (hn0 : xs.length + n ≤ 1000000) (hb : base ≤ W.heap.size) :
    ∃ v' W', (Builtin.append_ #[t, t] ty #[v, .slice A n c]).run P W = .ok v' W' ∧ (W.grownBy W' v.ownBlock ∧ W'.ownsRow base e k v' (xs ++ ys).length ((xs ++ ys).flatMap enc)) := by
  by_cases h0 : n = 0
  · subst h0
    have hy : ys = [] := List.length_eq_zero_iff.1 hs.len
    subst hy
    rw [List.append_nil]
    refine ⟨v, W, ?_, ⟨rfl, rfl, rfl, Nat.le_refl _, fun _ _ _ => rfl⟩, hown⟩
    rcases hown.2 with ⟨rfl, hz0⟩ | ⟨g, cap, cur, rfl, _, hg, hc, hm, _⟩
    · cases A with
      | none => simp [Builtin.append_, run_underlying hund, sizeOf, typeInfo, hi, Builtin.lenOf, Builtin.firstCells]
      | some A => simp [Builtin.append_, run_underlying hund, sizeOf, typeInfo, hi, Builtin.lenOf, Builtin.firstCells, loadCells, loadCellsFrom]
    · cases A with
      | none => simp [Builtin.append_, run_underlying hund, sizeOf, typeInfo, hi, Builtin.lenOf, Builtin.firstCells, loadCells, storeCells, hc]
      | some A => simp [Builtin.append_, run_underlying hund, sizeOf, typeInfo, hi, Builtin.lenOf, Builtin.firstCells, loadCells, loadCellsFrom, storeCells, hc]
  · obtain ⟨b, o, hA, _, _⟩ := hs.at_ (by omega)
    subst hA
    have hl := hs.len
    obtain ⟨v', W', h1, h2, h3, _⟩ := run_append_own (P := P) W base t ty e i z k bytes hund hi hz hsz hby hzs hk0 v xs.length _ hown ⟨b, o, none⟩ n c (ys.flatMap enc) (by rw [fm_len hk, hl]) (fm_news hk hs (by omega)) (fun u hu => by
      obtain ⟨x, _, hx⟩ := List.mem_flatMap.1 hu
      exact h1c x u hx) (by simp only [maxLen]; omega) (by
      have h5 : (xs.length + n) * bytes ≤ 1000000 * 1000 := Nat.mul_le_mul hn0 hb0
      omega) hb
    refine ⟨v', W', h1, h3, ?_⟩
    rw [List.length_append, List.flatMap_append, hl]
    exact h2
end
end Go.Proofs.Ytmfiggbobaihcaa
