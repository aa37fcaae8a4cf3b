/- The map from places to numbers: what a store and a delete make of it. -/
import Derived.Test.YtmfiggbobaihcaaGIter
import Derived.Maps.OwnIn
import Derived.DeepKeys3
import Derived.KernelRfl
namespace Go.Proofs.Ytmfiggbobaihcaa
open Go.RowKit Go.Shelf Go.Maps

abbrev DM := DataW Unit
theorem und_i64 : Try.prog.underlying 2 = some (.int .i64) := by kernel_rfl
theorem und_i : Try.prog.underlying 3 = some (.int .i64) := by kernel_rfl
theorem keyed_pl : Keyed Try.prog 96 := Keyed.of_law (deep_law (m := 4) (by omega) (by kernel_rfl) (by kernel_rfl) (by kernel_rfl))
theorem lits_int {P : Program} {t : TypeId} {q : IntKind} (h : P.underlying t = some (.int q)) (n : Nat) (x : Int) (hx : (Lit.int q x).wf = true) : P.keyLits (n + 1) t [.int q x] = some [.int q x] := by
  simp [Program.keyLits, h, hx]
theorem lits_pl (n : Nat) (f k : Int) (hf : (Lit.int .i64 f).wf = true) (hk : (Lit.int .i64 k).wf = true) : Try.prog.keyLits (n + 1 + 1) 96 [.int .i64 f, .int .i64 k] = some [.int .i64 f, .int .i64 k] := by
  have c2 : Try.prog.cellsOf 96 = 2 := by kernel_rfl
  have c3 : Try.prog.cellsOf 3 = 1 := by kernel_rfl
  conv => lhs; unfold Program.keyLits
  simp only [Try.underlying96, c2, c3, lits_int und_i n f hf, lits_int und_i n k hk, List.length_cons, List.length_nil, List.mapM_cons, List.mapM_nil, List.drop_zero, List.drop_succ_cons, List.take_succ_cons, List.take_zero]
  rw [if_pos ⟨trivial, by kernel_rfl⟩]
  rfl
/-- What a place reads as, as a key. -/
noncomputable def keyL (f k : Nat) : Lit := .string (keyBytes [.int .i64 f, .int .i64 k])
theorem wf_small (n : Nat) (h : n ≤ 1000) : (Lit.int .i64 (n : Int)).wf = true := by
  have h1 : IntKind.i64.min = -9223372036854775808 := by decide
  have h2 : IntKind.i64.max = 9223372036854775807 := by decide
  simp [Lit.wf, h1, h2]; omega
theorem keyL_of (f k : Nat) (hf : f ≤ 1000) (hk : k ≤ 1000) : keyOf Try.prog 96 (.agg #[.int .i64 f, .int .i64 k]) = some (keyL f k) := by
  have h1 : Try.prog.keyType 96 = true := by kernel_rfl
  have h2 : ∃ n, Try.prog.types.size + 1 = n + 1 + 1 := ⟨Try.prog.types.size - 1, by kernel_rfl⟩
  obtain ⟨n, hn⟩ := h2
  have c1 : Try.prog.cellsOf 96 = 2 := by kernel_rfl
  unfold keyOf
  rw [hn]
  simp only [Try.underlying96, h1, Value.formed, c1, Value.cells, lits_pl n f k (wf_small f hf) (wf_small k hk)]
  rfl
theorem keyL_inj {f k f' k' : Nat} (hf : f ≤ 1000) (hk : k ≤ 1000) (hf' : f' ≤ 1000) (hk' : k' ≤ 1000) (h : keyL f k = keyL f' k') : f = f' ∧ k = k' := by
  have h1 := keyed_pl.inj (keyL_of f k hf hk) (h ▸ keyL_of f' k' hf' hk')
  simp at h1
  omega
def updF (F : Nat → Nat → Option Int) (f k : Nat) (v : Option Int) : Nat → Nat → Option Int := fun f' k' => if f' = f ∧ k' = k then v else F f' k'
/-- The map holds just the places that have a number, each with its number. -/
structure MapIs (D : DM) (F : Nat → Nat → Option Int) : Prop where
  isMap : IsMap D
  yes : ∀ f k v, F f k = some v → has D (keyL f k) = true ∧ ∀ z, D.atKey (keyL f k) z = .lit (.int .i64 v)
  only : ∀ z, has D z = true → ∃ f k v, z = keyL f k ∧ F f k = some v
  small : ∀ f k v, F f k = some v → f ≤ 1000 ∧ k ≤ 1000
section
variable {D : DM} {F F' : Nat → Nat → Option Int}
theorem MapIs.empty : MapIs (.map []) (fun _ _ => none) := ⟨isMap_empty, fun _ _ _ h => (by cases h), fun z h => by simp [has] at h, fun _ _ _ h => (by cases h)⟩
theorem MapIs.congr (h : MapIs D F) (hF : ∀ f k, F f k = F' f k) : MapIs D F' := by
  obtain rfl : F = F' := funext fun f => funext fun k => hF f k
  exact h
theorem MapIs.put (h : MapIs D F) (f k : Nat) (hf : f ≤ 1000) (hk : k ≤ 1000) (v : Int) : MapIs (D.put (keyL f k) (.lit (.int .i64 v))) (updF F f k (some v)) := by
  have hkl := keyed_pl.key (keyL_of f k hf hk)
  refine ⟨h.isMap.put _ _, fun f' k' v' hs => ?_, fun z hz => ?_, fun f' k' v' hs => ?_⟩
  · unfold updF at hs
    by_cases e : f' = f ∧ k' = k
    · rw [if_pos e] at hs
      cases hs
      obtain ⟨rfl, rfl⟩ := e
      exact ⟨has_put_same h.isMap hkl _, fun z => atKey_put_same h.isMap hkl _ _⟩
    · rw [if_neg e] at hs
      have hsm := h.small _ _ _ hs
      have hne : keyL f' k' ≠ keyL f k := fun e' => e (keyL_inj hsm.1 hsm.2 hf hk e')
      rw [has_put_other hne]
      exact ⟨(h.yes _ _ _ hs).1, fun z => by rw [atKey_put_other hne]; exact (h.yes _ _ _ hs).2 z⟩
  · by_cases e : z = keyL f k
    · exact ⟨f, k, v, e, by simp [updF]⟩
    · rw [has_put_other e] at hz
      obtain ⟨f', k', v', e', hs⟩ := h.only z hz
      refine ⟨f', k', v', e', ?_⟩
      unfold updF
      rw [if_neg, hs]
      rintro ⟨rfl, rfl⟩
      exact e e'
  · unfold updF at hs
    by_cases e : f' = f ∧ k' = k
    · rw [e.1, e.2]; exact ⟨hf, hk⟩
    · rw [if_neg e] at hs; exact h.small _ _ _ hs
theorem MapIs.del (h : MapIs D F) (f k : Nat) (hf : f ≤ 1000) (hk : k ≤ 1000) : MapIs (D.del (keyL f k)) (updF F f k none) := by
  refine ⟨h.isMap.del _, fun f' k' v' hs => ?_, fun z hz => ?_, fun f' k' v' hs => ?_⟩
  · unfold updF at hs
    by_cases e : f' = f ∧ k' = k
    · rw [if_pos e] at hs; cases hs
    · rw [if_neg e] at hs
      have hsm := h.small _ _ _ hs
      have hne : keyL f' k' ≠ keyL f k := fun e' => e (keyL_inj hsm.1 hsm.2 hf hk e')
      rw [has_del_other hne]
      exact ⟨(h.yes _ _ _ hs).1, fun z => by rw [atKey_del_other hne]; exact (h.yes _ _ _ hs).2 z⟩
  · by_cases e : z = keyL f k
    · subst e; rw [has_del_same] at hz; cases hz
    · rw [has_del_other e] at hz
      obtain ⟨f', k', v', e', hs⟩ := h.only z hz
      refine ⟨f', k', v', e', ?_⟩
      unfold updF
      rw [if_neg, hs]
      rintro ⟨rfl, rfl⟩
      exact e e'
  · unfold updF at hs
    by_cases e : f' = f ∧ k' = k
    · rw [if_pos e] at hs; cases hs
    · rw [if_neg e] at hs; exact h.small _ _ _ hs
end

/-- The map, in a world. -/
abbrev OwnsM (W : World) (b n : Nat) (D : DM) : Prop := W.ownsMap Try.prog 96 (plainElem Try.prog 2) b n D
abbrev RangesM (W : World) (b r n : Nat) (D : DM) (left : Lit → Bool) (cnt : Nat) : Prop := W.ranges Try.prog 96 (plainElem Try.prog 2) b r n D left cnt
theorem und_mpl : Try.prog.underlying 93 = some (.map 96 2) := by kernel_rfl
theorem elem_val (x : Int) (h : (Lit.int .i64 x).wf = true) : plainElem (H := Unit) Try.prog 2 (.int .i64 x) = some (.lit (.int .i64 x), []) := plainElem_int und_i64 h
theorem wf_mid (x : Int) (h0 : 0 ≤ x) (h1 : x ≤ 1000000) : (Lit.int .i64 x).wf = true := by
  have h2 : IntKind.i64.min = -9223372036854775808 := by decide
  have h3 : IntKind.i64.max = 9223372036854775807 := by decide
  simp [Lit.wf, h2, h3]; omega
theorem KeepD.map {W0 W W' : World} {b n : Nat} {D : DM} (h : KeepD W0 W) (ho : OwnsM W b n D) (hg : W.grownBy W' (some b)) : KeepD W0 W' := by
  intro k c hk
  have h1 := h k c hk
  refine (hg.block k (Array.getElem?_eq_some_iff.1 h1).1 (fun hb => ?_)).trans h1
  obtain ⟨es, clock, hb', _⟩ := ho
  simp at hb
  subst hb
  rw [hb'] at h1
  cases h1
end Go.Proofs.Ytmfiggbobaihcaa
