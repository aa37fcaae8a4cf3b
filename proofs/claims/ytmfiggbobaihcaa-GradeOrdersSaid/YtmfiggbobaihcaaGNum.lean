/- Rows of numbers of the call's own: general, of no chapter. -/
import Derived.Test.YtmfiggbobaihcaaGBlk
import Derived.Test.YtmfiggbobaihcaaGIndex
import Derived.Test.YtmfiggbobaihcaaApp
import Derived.ArgAppend
import Derived.BigRegion
import Derived.Lib.SliceRun
import Derived.ChangeKeysEq
namespace Go.Proofs.Ytmfiggbobaihcaa
open Go.RowKit Go.Shelf

def updN (F : Nat → Int) (j : Nat) (v : Int) : Nat → Int := fun k => if k = j then v else F k
theorem info_int : (Try.prog.info? 3).map (fun i => (i.zero, i.size, i.bytes)) = some (some (.int .i64 0), 1, 8) := by kernel_rfl
theorem info_long : (Try.prog.info? 2).map (fun i => (i.zero, i.size, i.bytes)) = some (some (.int .i64 0), 1, 8) := by kernel_rfl
theorem und_ints : Try.prog.underlying 48 = some (.slice 3) := by kernel_rfl
theorem und_longs : Try.prog.underlying 22 = some (.slice 2) := by kernel_rfl
theorem one_new (w : World) (x : Value) (t : TypeId) : ∀ j u, [x][j]? = some u → (w.alloc (.cells #[x] t)).cell? ((⟨w.heap.size, 0, none⟩ : Addr).add j) = some u := by
  intro j u hu
  have hadd : (⟨w.heap.size, 0, none⟩ : Addr).add j = ⟨w.heap.size, j, none⟩ := by unfold Addr.add; split <;> simp_all
  rw [hadd, (Blk.new w t #[x]).cell]
  simpa using hu
/-- A row of numbers. -/
def numArr (n : Nat) (M : Nat → Int) : Array Value := ((List.range n).map (fun j => Value.int .i64 (M j))).toArray
theorem numArr_get {n : Nat} {M : Nat → Int} {j : Nat} (h : j < n) : (numArr n M)[j]? = some (.int .i64 (M j)) := by simp [numArr, h]
theorem numArr_set {n : Nat} {M : Nat → Int} (j : Nat) (v : Int) : (numArr n M).setIfInBounds j (.int .i64 v) = numArr n (updN M j v) := by
  simp only [numArr, List.setIfInBounds_toArray]
  congr 1
  apply List.ext_getElem
  · simp
  · intro i h1 h2
    simp only [List.getElem_map, List.getElem_range, List.getElem_set]
    by_cases e : i = j
    · simp [updN, e]
    · rw [if_neg (fun h => e h.symm)]; simp [updN, e]
theorem numArr_made (n : Nat) : madeCells #[Value.int .i64 0] n = numArr n (fun _ => 0) := by
  apply Array.ext
  · simp [madeCells, numArr]
  · intro i h1 h2
    simp [madeCells, numArr, Nat.mod_one]
theorem make_longs (n : Nat) (hn : n ≤ 1000) (W : World) :
    (Instr.makeSlice 22 (.int .i64 (n : Int)) (.int .i64 (n : Int))).run Try.prog W = .ok (.slice (some ⟨W.heap.size, 0, none⟩) n n) (W.alloc (.cells (numArr n (fun _ => 0)) 2)) := by
  have h := run_make_row' (P := Try.prog) 22 2 (.int .i64 0) 8 (by kernel_rfl) info_long rfl .i64 .i64 n (by omega) (by omega) W
  rw [numArr_made] at h
  exact_mod_cast h
section
variable {W W' : World} {base n size base' n' size' : Nat} {e e' : TypeId} {v v' : Value} {xs xs' : List Value}
theorem own_base (h : W.ownsRow base e size v n xs) : ∀ g, v.ownBlock = some g → base ≤ g := by
  intro g hg
  rcases h.2 with ⟨rfl, _⟩ | ⟨g', cap, cur, rfl, hb, _⟩
  · cases hg
  · simp only [Value.ownBlock, Option.some.injEq] at hg
    omega
theorem own_lt (h : W.ownsRow base e size v n xs) : ∀ g, v.ownBlock = some g → g < W.heap.size := by
  intro g hg
  rcases h.2 with ⟨rfl, _⟩ | ⟨g', cap, cur, rfl, _, hb, _⟩
  · cases hg
  · simp only [Value.ownBlock, Option.some.injEq] at hg
    subst hg
    exact (Array.getElem?_eq_some_iff.1 hb).1
theorem own_apart (h : W.ownsRow base e size v n xs) (h' : W.ownsRow base' e' size' v' n' xs') (he : e ≠ e') : ∀ g, v.ownBlock = some g → v'.ownBlock ≠ some g := by
  intro g hg hg'
  rcases h.2 with ⟨rfl, _⟩ | ⟨g1, cap, cur, rfl, _, hb, _⟩
  · cases hg
  · rcases h'.2 with ⟨rfl, _⟩ | ⟨g2, cap2, cur2, rfl, _, hb2, _⟩
    · cases hg'
    · simp only [Value.ownBlock, Option.some.injEq] at hg hg'
      subst hg hg'
      rw [hb] at hb2
      simp at hb2
      exact he hb2.2
theorem own_grown {row : Option Nat} (h : W.ownsRow base e size v n xs) (hg : W.grownBy W' row) (hne : ∀ g, v.ownBlock = some g → row ≠ some g) : W'.ownsRow base e size v n xs := by
  refine ⟨h.1, ?_⟩
  rcases h.2 with hn | ⟨g, cap, cur, rfl, h1, hb, h2⟩
  · exact .inl hn
  · exact .inr ⟨g, cap, cur, rfl, h1, (hg.block g (Array.getElem?_eq_some_iff.1 hb).1 (fun e => hne g rfl e.symm)).trans hb, h2⟩
theorem own_low {b : Nat} (h : W.ownsRow b e size v n xs) (hb : base ≤ b) : W.ownsRow base e size v n xs := by
  refine ⟨h.1, ?_⟩
  rcases h.2 with hn | ⟨g, cap, cur, rfl, h1, h2⟩
  · exact .inl hn
  · exact .inr ⟨g, cap, cur, rfl, Nat.le_trans hb h1, h2⟩
end
theorem flat_get {α : Type} {enc : α → List Value} {k : Nat} (hk : ∀ x, (enc x).length = k) : ∀ (xs : List α) (i : Nat) (x : α), xs[i]? = some x → ∀ j u, (enc x)[j]? = some u → (xs.flatMap enc)[i * k + j]? = some u
  | [], i, x, h, _, _, _ => by simp at h
  | y :: xs, 0, x, h, j, u, hu => by
    obtain rfl : y = x := by simpa using h
    have := (List.getElem?_eq_some_iff.1 hu).1
    rw [List.flatMap_cons, Nat.zero_mul, Nat.zero_add, List.getElem?_append_left this, hu]
  | y :: xs, i + 1, x, h, j, u, hu => by
    have h1 := flat_get hk xs i x (by simpa using h) j u hu
    rw [List.flatMap_cons, List.getElem?_append_right (by rw [hk, Nat.add_mul]; omega), hk, Nat.add_mul, Nat.one_mul, show i * k + k + j - k = i * k + j by omega]
    exact h1
theorem own_slG {α : Type} {enc : α → List Value} {k : Nat} (hk : ∀ x, (enc x).length = k) {W : World} {base n : Nat} {e : TypeId} {v : Value} {xs : List α} (h : W.ownsRow base e k v n (xs.flatMap enc)) (hx : xs.length = n) :
    ∃ A c, v = .slice A n c ∧ Sl k enc W W.heap.size A n c xs := by
  rcases h.2 with ⟨rfl, rfl⟩ | ⟨g, cap, cur, rfl, hb, hg, hc, hm, hs, ht⟩
  · exact ⟨none, 0, rfl, hx, Nat.le_refl _, by omega, fun h => by omega⟩
  · refine ⟨_, cap, rfl, hx, hc, by simp only [maxLen] at hm; omega, fun _ => ⟨g, 0, rfl, (Array.getElem?_eq_some_iff.1 hg).1, fun i x hi j u hu => ?_⟩⟩
    have h1 := flat_get hk xs i x hi j u hu
    rw [← ht] at h1
    have h2 := (List.getElem?_eq_some_iff.1 h1).1
    rw [List.getElem?_take_of_lt (by simp at h2; omega)] at h1
    simp only [World.cell?, hg, Nat.zero_add]
    simpa using h1

/-! ### The list of chains -/
theorem own_slI {W : World} {base n : Nat} {e : TypeId} {v : Value} {ts : List Int} (h : W.ownsRow base e 1 v n (ts.map (.int .i64))) (hx : ts.length = n) : ∃ A c, v = .slice A n c ∧ Sl 1 encI W W.heap.size A n c ts := by
  have e1 : ∀ l : List Int, l.flatMap encI = l.map (.int .i64) := fun l => by
    induction l with
    | nil => rfl
    | cons t l ih => rw [List.flatMap_cons, ih]; rfl
  rw [← e1] at h
  exact own_slG (k := 1) (enc := encI) (fun _ => rfl) h hx
def IsInts (n : Nat) (xs : List Int) (v : Value) (W : World) : Prop := ∃ G c, v = .slice G n c ∧ Sl 1 encI W W.heap.size G n c xs
theorem IsInts.stab {n : Nat} {xs : List Int} : ∀ v W W', Gr W W' → IsInts n xs v W → IsInts n xs v W' := fun _ _ _ hG ⟨G, c, h1, h2⟩ => ⟨G, c, h1, h2.later hG⟩
end Go.Proofs.Ytmfiggbobaihcaa
