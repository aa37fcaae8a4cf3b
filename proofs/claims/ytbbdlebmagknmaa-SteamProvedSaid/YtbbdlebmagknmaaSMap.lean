/- A map from windows to numbers, as a plain set with worths: what a store and a delete make of it. -/
import Derived.Test.YtbbdlebmagknmaaSFill
import Derived.Maps.OwnIn
import Derived.DeepKeys3
import Derived.KernelRfl
namespace Go.Proofs.Ytbbdlebmagknmaa
open Go.RowKit Go.Shelf Go.Maps

abbrev DM := DataW Unit
theorem keyed_rg : Keyed Try.prog 27 := Keyed.of_law (deep_law (m := 4) (by omega) (by kernel_rfl) (by kernel_rfl) (by kernel_rfl))
theorem lits_int {P : Program} {t : TypeId} {q : IntKind} (h : P.underlying t = some (.int q)) (n : Nat) (x : Int) (hx : (Lit.int q x).wf = true) : P.keyLits (n + 1) t [.int q x] = some [.int q x] := by
  simp [Program.keyLits, h, hx]
theorem lits_rg (n : Nat) (f k : Int) (hf : (Lit.int .i64 f).wf = true) (hk : (Lit.int .i64 k).wf = true) : Try.prog.keyLits (n + 1 + 1) 27 [.int .i64 f, .int .i64 k] = some [.int .i64 f, .int .i64 k] := by
  have c2 : Try.prog.cellsOf 27 = 2 := by kernel_rfl
  have c3 : Try.prog.cellsOf 2 = 1 := by kernel_rfl
  conv => lhs; unfold Program.keyLits
  simp only [Try.underlying27, c2, c3, lits_int und_i64 n f hf, lits_int und_i64 n k hk, List.length_cons, List.length_nil, List.mapM_cons, List.mapM_nil, List.drop_zero, List.drop_succ_cons, List.take_succ_cons, List.take_zero]
  rw [if_pos ⟨trivial, by kernel_rfl⟩]
  rfl
/-- What a window reads as, as a key. -/
noncomputable def keyR (r : Rg) : Lit := .string (keyBytes [.int .i64 r.lo, .int .i64 r.hi])
def smallR (r : Rg) : Prop := (0 ≤ r.lo ∧ r.lo ≤ 1000) ∧ (0 ≤ r.hi ∧ r.hi ≤ 1000)
theorem wf_smallI (n : Int) (h : 0 ≤ n ∧ n ≤ 1000) : (Lit.int .i64 n).wf = true := by
  have h1 : IntKind.i64.min = -9223372036854775808 := by decide
  have h2 : IntKind.i64.max = 9223372036854775807 := by decide
  simp [Lit.wf, h1, h2]; omega
theorem keyR_of (r : Rg) (h : smallR r) : keyOf Try.prog 27 (.agg #[.int .i64 r.lo, .int .i64 r.hi]) = some (keyR r) := by
  have h1 : Try.prog.keyType 27 = true := by kernel_rfl
  have h2 : ∃ n, Try.prog.types.size + 1 = n + 1 + 1 := ⟨Try.prog.types.size - 1, by kernel_rfl⟩
  obtain ⟨n, hn⟩ := h2
  have c1 : Try.prog.cellsOf 27 = 2 := by kernel_rfl
  unfold keyOf
  rw [hn]
  simp only [Try.underlying27, h1, Value.formed, c1, Value.cells, lits_rg n r.lo r.hi (wf_smallI _ h.1) (wf_smallI _ h.2)]
  rfl
theorem keyR_inj {r s : Rg} (hr : smallR r) (hs : smallR s) (h : keyR r = keyR s) : r = s := by
  have h1 := keyed_rg.inj (keyR_of r hr) (h ▸ keyR_of s hs)
  simp at h1
  cases r; cases s
  simp_all

/-- The map holds just the windows of a set, each with its worth. -/
structure MapIs (D : DM) (S : Rg → Prop) (wt : Rg → Int) : Prop where
  isMap : IsMap D
  yes : ∀ r, S r → has D (keyR r) = true ∧ ∀ z, D.atKey (keyR r) z = .lit (.int .i64 (wt r))
  only : ∀ z, has D z = true → ∃ r, z = keyR r ∧ S r
  small : ∀ r, S r → smallR r
section
variable {D : DM} {S S' : Rg → Prop} {wt : Rg → Int}
theorem MapIs.empty (wt : Rg → Int) : MapIs (.map []) (fun _ => False) wt := ⟨isMap_empty, fun _ h => h.elim, fun z h => by simp [has] at h, fun _ h => h.elim⟩
theorem MapIs.congr (h : MapIs D S wt) (hS : ∀ r, S r ↔ S' r) : MapIs D S' wt :=
  ⟨h.isMap, fun r hs => h.yes r ((hS r).2 hs), fun z hz => by obtain ⟨r, e, hs⟩ := h.only z hz; exact ⟨r, e, (hS r).1 hs⟩, fun r hs => h.small r ((hS r).2 hs)⟩
theorem MapIs.put (h : MapIs D S wt) (r : Rg) (hr : smallR r) : MapIs (D.put (keyR r) (.lit (.int .i64 (wt r)))) (fun s => S s ∨ s = r) wt := by
  have hkl := keyed_rg.key (keyR_of r hr)
  refine ⟨h.isMap.put _ _, fun s hs => ?_, fun z hz => ?_, fun s hs => ?_⟩
  · by_cases e : s = r
    · subst e
      exact ⟨has_put_same h.isMap hkl _, fun z => atKey_put_same h.isMap hkl _ _⟩
    · have hs := hs.resolve_right e
      have hne : keyR s ≠ keyR r := fun e' => e (keyR_inj (h.small _ hs) hr e')
      rw [has_put_other hne]
      exact ⟨(h.yes _ hs).1, fun z => by rw [atKey_put_other hne]; exact (h.yes _ hs).2 z⟩
  · by_cases e : z = keyR r
    · exact ⟨r, e, .inr rfl⟩
    · rw [has_put_other e] at hz
      obtain ⟨s, e', hs⟩ := h.only z hz
      exact ⟨s, e', .inl hs⟩
  · rcases hs with hs | rfl
    · exact h.small _ hs
    · exact hr
theorem MapIs.del (h : MapIs D S wt) (r : Rg) (hr : smallR r) : MapIs (D.del (keyR r)) (fun s => S s ∧ s ≠ r) wt := by
  refine ⟨h.isMap.del _, fun s hs => ?_, fun z hz => ?_, fun s hs => h.small _ hs.1⟩
  · obtain ⟨hs, e⟩ := hs
    have hne : keyR s ≠ keyR r := fun e' => e (keyR_inj (h.small _ hs) hr e')
    rw [has_del_other hne]
    exact ⟨(h.yes _ hs).1, fun z => by rw [atKey_del_other hne]; exact (h.yes _ hs).2 z⟩
  · by_cases e : z = keyR r
    · subst e; rw [has_del_same] at hz; cases hz
    · rw [has_del_other e] at hz
      obtain ⟨s, e', hs⟩ := h.only z hz
      refine ⟨s, e', hs, ?_⟩
      rintro rfl
      exact e e'
end

/-- The map, in a world. -/
abbrev OwnsM (W : World) (b n : Nat) (D : DM) : Prop := W.ownsMap Try.prog 27 (plainElem Try.prog 2) b n D
abbrev RangesM (W : World) (b r n : Nat) (D : DM) (left : Lit → Bool) (cnt : Nat) : Prop := W.ranges Try.prog 27 (plainElem Try.prog 2) b r n D left cnt
theorem und_mrg : Try.prog.underlying 103 = some (.map 27 2) := by kernel_rfl
theorem elem_val (x : Int) (h : (Lit.int .i64 x).wf = true) : plainElem (H := Unit) Try.prog 2 (.int .i64 x) = some (.lit (.int .i64 x), []) := plainElem_int und_i64 h
theorem wf_mid (x : Int) (h0 : 0 ≤ x) (h1 : x ≤ 1000000) : (Lit.int .i64 x).wf = true := by
  have h2 : IntKind.i64.min = -9223372036854775808 := by decide
  have h3 : IntKind.i64.max = 9223372036854775807 := by decide
  simp [Lit.wf, h2, h3]; omega
/-! ### Ranges over functions -/
theorem calls_of_marks {P : Program} {f : FuncId} {fn : Func} {c : Code} {args : Array Value} {w : World} {R : Ending → World → Prop} (hf : P.funcs[f]? = some fn) (hb : fn.body = some c)
    (h : c.wp P (bodyPostM Fence.wide 9 P fn R) { tmps := args ++ Array.replicate (fn.ntmps - args.size) undef, defers := [] } w) : Calls P f args w R :=
  (callsIn_wide (n := 9)).1 (callsIn_of_wp_marks hf hb trivial (wpIn_wide.2 h))
theorem postM_ret {P : Program} {fn : Func} {R : Ending → World → Prop} {a : Act} {B : Nat} {W : World} {v : Value} (hm : Marks B W a.defers) (hr : ∀ W', (results fn a.tmps).run P W' = .ok v W') (hR : ∀ W', Kept B W W' → R (.returned v) W') : bodyPostM Fence.wide 9 P fn R .ret a W :=
  leavesM_marks _ _ _ hm hr hR
def KeepD (W0 W : World) : Prop := ∀ k : Nat, ∀ c, W0.heap[k]? = some (.deferred c) → W.heap[k]? = some (.deferred c)
theorem KeepD.refl (W : World) : KeepD W W := fun _ _ h => h
theorem KeepD.later {W0 W W' : World} (h : KeepD W0 W) (hb : Below W.heap.size W W') : KeepD W0 W' := fun k c hk => (hb.block k (Array.getElem?_eq_some_iff.1 (h k c hk)).1).trans (h k c hk)
theorem KeepD.map {W0 W W' : World} {b n : Nat} {D : DM} (h : KeepD W0 W) (ho : OwnsM W b n D) (hg : W.grownBy W' (some b)) : KeepD W0 W' := by
  intro k c hk
  have h1 := h k c hk
  refine (hg.block k (Array.getElem?_eq_some_iff.1 h1).1 (fun hb => ?_)).trans h1
  obtain ⟨es, clock, hb', _⟩ := ho
  simp at hb
  subst hb
  rw [hb'] at h1
  cases h1
end Go.Proofs.Ytbbdlebmagknmaa
