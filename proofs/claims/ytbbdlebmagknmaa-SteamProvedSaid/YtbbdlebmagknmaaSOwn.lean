/- Rows of the call's own beside one another; lists of numbers that nothing else writes. General. -/
import Derived.Test.YtbbdlebmagknmaaSLoads
import Derived.Test.YtbbdlebmagknmaaSSort
import Derived.ArgAppend
import Derived.Deep.OwnRows
namespace Go.Proofs.Ytbbdlebmagknmaa
open Go.RowKit Go.Shelf

theorem info_int : (Try.prog.info? 3).map (fun i => (i.zero, i.size, i.bytes)) = some (some (.int .i64 0), 1, 8) := by kernel_rfl
theorem info_long : (Try.prog.info? 2).map (fun i => (i.zero, i.size, i.bytes)) = some (some (.int .i64 0), 1, 8) := by kernel_rfl
theorem info_rg : (Try.prog.info? 27).map (fun i => (i.zero, i.size, i.bytes)) = some (some (.agg #[.int .i64 0, .int .i64 0]), 2, 16) := by kernel_rfl
theorem und_ints : Try.prog.underlying 44 = some (.slice 3) := by kernel_rfl
theorem und_longs : Try.prog.underlying 25 = some (.slice 2) := by kernel_rfl
theorem und_rgs : Try.prog.underlying 22 = some (.slice 27) := by kernel_rfl
theorem one_new (w : World) (x : Value) (t : TypeId) : ∀ j u, [x][j]? = some u → (w.alloc (.cells #[x] t)).cell? ((⟨w.heap.size, 0, none⟩ : Addr).add j) = some u := by
  intro j u hu
  have hadd : (⟨w.heap.size, 0, none⟩ : Addr).add j = ⟨w.heap.size, j, none⟩ := by unfold Addr.add; split <;> simp_all
  rw [hadd, (Blk.new w t #[x]).cell]
  simpa using hu
/-- A row of numbers. -/
def numArr (n : Nat) (M : Nat → Int) : Array Value := ((List.range n).map (fun j => Value.int .i64 (M j))).toArray
theorem numArr_get {n : Nat} {M : Nat → Int} {j : Nat} (h : j < n) : (numArr n M)[j]? = some (.int .i64 (M j)) := by simp [numArr, h]
theorem numArr_set {n : Nat} {M : Nat → Int} (j : Nat) (v : Int) : (numArr n M).setIfInBounds j (.int .i64 v) = numArr n (updN M j v) := by
  simp only [numArr, List.setIfInBounds_toArray]
  congr 1
  apply List.ext_getElem
  · simp
  · intro i h1 h2
    simp only [List.getElem_map, List.getElem_range, List.getElem_set]
    by_cases e : i = j
    · simp [updN, e]
    · rw [if_neg (fun h => e h.symm)]; simp [updN, e]
theorem numArr_made (n : Nat) : madeCells #[Value.int .i64 0] n = numArr n (fun _ => 0) := by
  apply Array.ext
  · simp [madeCells, numArr]
  · intro i h1 h2
    simp [madeCells, numArr, Nat.mod_one]
theorem make_longs (n : Nat) (hn : n ≤ 1000) (W : World) :
    (Instr.makeSlice 25 (.int .i64 (n : Int)) (.int .i64 (n : Int))).run Try.prog W = .ok (.slice (some ⟨W.heap.size, 0, none⟩) n n) (W.alloc (.cells (numArr n (fun _ => 0)) 2)) := by
  have h := run_make_row' (P := Try.prog) 25 2 (.int .i64 0) 8 (by kernel_rfl) info_long rfl .i64 .i64 n (by omega) (by omega) W
  rw [numArr_made] at h
  exact_mod_cast h
section
variable {W W' : World} {base n size base' n' size' : Nat} {e e' : TypeId} {v v' : Value} {xs xs' : List Value}
theorem own_base (h : W.ownsRow base e size v n xs) : ∀ g, v.ownBlock = some g → base ≤ g := by
  intro g hg
  rcases h.2 with ⟨rfl, _⟩ | ⟨g', cap, cur, rfl, hb, _⟩
  · cases hg
  · simp only [Value.ownBlock, Option.some.injEq] at hg
    omega
theorem own_lt (h : W.ownsRow base e size v n xs) : ∀ g, v.ownBlock = some g → g < W.heap.size := by
  intro g hg
  rcases h.2 with ⟨rfl, _⟩ | ⟨g', cap, cur, rfl, _, hb, _⟩
  · cases hg
  · simp only [Value.ownBlock, Option.some.injEq] at hg
    subst hg
    exact (Array.getElem?_eq_some_iff.1 hb).1
theorem own_apart (h : W.ownsRow base e size v n xs) (h' : W.ownsRow base' e' size' v' n' xs') (he : e ≠ e') : ∀ g, v.ownBlock = some g → v'.ownBlock ≠ some g := by
  intro g hg hg'
  rcases h.2 with ⟨rfl, _⟩ | ⟨g1, cap, cur, rfl, _, hb, _⟩
  · cases hg
  · rcases h'.2 with ⟨rfl, _⟩ | ⟨g2, cap2, cur2, rfl, _, hb2, _⟩
    · cases hg'
    · simp only [Value.ownBlock, Option.some.injEq] at hg hg'
      subst hg hg'
      rw [hb] at hb2
      simp at hb2
      exact he hb2.2
theorem own_grown {row : Option Nat} (h : W.ownsRow base e size v n xs) (hg : W.grownBy W' row) (hne : ∀ g, v.ownBlock = some g → row ≠ some g) : W'.ownsRow base e size v n xs := by
  refine ⟨h.1, ?_⟩
  rcases h.2 with hn | ⟨g, cap, cur, rfl, h1, hb, h2⟩
  · exact .inl hn
  · exact .inr ⟨g, cap, cur, rfl, h1, (hg.block g (Array.getElem?_eq_some_iff.1 hb).1 (fun e => hne g rfl e.symm)).trans hb, h2⟩
theorem own_low {b : Nat} (h : W.ownsRow b e size v n xs) (hb : base ≤ b) : W.ownsRow base e size v n xs := by
  refine ⟨h.1, ?_⟩
  rcases h.2 with hn | ⟨g, cap, cur, rfl, h1, h2⟩
  · exact .inl hn
  · exact .inr ⟨g, cap, cur, rfl, Nat.le_trans hb h1, h2⟩
end
/-- A list of numbers in a block that is known whole. -/
def LeftV (W : World) (base : Nat) (l : List Nat) (v : Value) : Prop :=
  (l = [] ∧ v = .slice none 0 0) ∨ ∃ g cap tail, v = .slice (some ⟨g, 0, none⟩) l.length cap ∧ (base ≤ g ∧ l.length ≤ cap) ∧ Blk W g 3 (lArr l tail)
theorem LeftV.later {W W' : World} {base : Nat} {l : List Nat} {v : Value} (h : LeftV W base l v) (hb : Below W.heap.size W W') : LeftV W' base l v := by
  rcases h with h | ⟨g, cap, tail, h1, h2, h3⟩
  · exact .inl h
  · exact .inr ⟨g, cap, tail, h1, h2, h3.later hb⟩
theorem LeftV.grown {W W' : World} {base : Nat} {l : List Nat} {v : Value} {row : Option Nat} (h : LeftV W base l v) (hg : W.grownBy W' row) (hne : ∀ g, v.ownBlock = some g → row ≠ some g) : LeftV W' base l v := by
  rcases h with h | ⟨g, cap, tail, rfl, h2, h3⟩
  · exact .inl h
  · exact .inr ⟨g, cap, tail, rfl, h2, h3.grown hg (hne g rfl)⟩
theorem LeftV.own {W : World} {base : Nat} {l : List Nat} {v : Value} (h : W.ownsRow base 3 1 v l.length (l.map encN)) : LeftV W base l v := by
  rcases h.2 with ⟨rfl, h0⟩ | ⟨g, cap, cur, rfl, h1, hg, hc, _, _, ht⟩
  · exact .inl ⟨List.eq_nil_of_length_eq_zero h0, rfl⟩
  · refine .inr ⟨g, cap, cur.toList.drop l.length, rfl, ⟨h1, hc⟩, ?_⟩
    unfold Blk
    rw [hg]
    congr 2
    unfold lArr
    rw [Nat.mul_one] at ht
    rw [← ht, List.take_append_drop]
theorem LeftV.at_ {W : World} {base : Nat} {l : List Nat} {v : Value} (h : LeftV W base l v) {i : Nat} (hi : i < l.length) : ∃ g cap x, v = .slice (some ⟨g, 0, none⟩) l.length cap ∧ base ≤ g ∧ g < W.heap.size ∧ l[i]? = some x ∧ W.cell? ⟨g, i, none⟩ = some (.int .i64 (x : Int)) := by
  rcases h with ⟨rfl, _⟩ | ⟨g, cap, tail, rfl, h2, h3⟩
  · simp at hi
  · have hx := List.getElem?_eq_getElem hi
    exact ⟨g, cap, _, rfl, h2.1, h3.lt, hx, (h3.cell i).trans (lArr_get hx)⟩
end Go.Proofs.Ytbbdlebmagknmaa
