/- slices.Reverse; steam's Early: the early loads. -/
import Derived.Test.YtbbdlebmagknmaaSBack
import Derived.Test.YtbbdlebmagknmaaSApi2
import Derived.BigRegion
namespace Go.Proofs.Ytbbdlebmagknmaa
open Go.RowKit Go.Shelf

/-- A row of the call's own that holds numbers. -/
def OwnN (W : World) (base g n cap : Nat) (M : Nat → Int) : Prop := W.ownsRow base 2 1 (.slice (some ⟨g, 0, none⟩) n cap) n ((List.range n).map fun p => Value.int .i64 (M p))
section
variable {W W' : World} {base g n cap : Nat} {M : Nat → Int}
theorem OwnN.later (h : OwnN W base g n cap M) (hb : Below W.heap.size W W') : OwnN W' base g n cap M := own_later h hb
theorem OwnN.parts (h : OwnN W base g n cap M) : base ≤ g ∧ n ≤ cap ∧ cap ≤ 9223372036854775807 ∧ ∃ cur : Array Value, Blk W g 2 cur ∧ cur.size = cap ∧ ∀ p, p < n → cur[p]? = some (.int .i64 (M p)) := by
  rcases h.2 with ⟨hv, _⟩ | ⟨g', cap', cur, hv, hb, hg, hc, hm, hs, ht⟩
  · cases hv
  · simp only [Value.slice.injEq, Option.some.injEq, Addr.mk.injEq, and_true] at hv
    obtain ⟨rfl, _, rfl⟩ := hv
    refine ⟨hb, hc, by simp only [maxLen] at hm; omega, cur, hg, by omega, fun p hp => ?_⟩
    have h1 : (List.take (n * 1) cur.toList)[p]? = some (.int .i64 (M p)) := by
      rw [ht, List.getElem?_map, List.getElem?_range hp]; rfl
    rw [List.getElem?_take_of_lt (by omega)] at h1
    simpa using h1
theorem OwnN.cells (h : OwnN W base g n cap M) : g < W.heap.size ∧ (∀ o, W.frozen? ⟨g, o, none⟩ = false) ∧ ∀ p, p < n → W.cell? ⟨g, p, none⟩ = some (.int .i64 (M p)) := by
  obtain ⟨_, _, _, cur, hb, _, hc⟩ := h.parts
  exact ⟨hb.lt, fun o => hb.frozen o, fun p hp => (hb.cell p).trans (hc p hp)⟩
theorem OwnN.set (h : OwnN W base g n cap M) (i : Nat) (x : Int) : OwnN (W.setCell ⟨g, i, none⟩ (.int .i64 x)) base g n cap (updN M i x) := by
  obtain ⟨hb, hc, hm, cur, hblk, hsz, hcell⟩ := h.parts
  refine ⟨by simp, .inr ⟨g, cap, _, rfl, hb, hblk.set i (.int .i64 x), hc, by simp only [maxLen]; omega, by simp [hsz], ?_⟩⟩
  apply List.ext_getElem
  · simp [hsz]; omega
  · intro p h1 h2
    have hp : p < n := by simpa using h2
    have h3 := hcell p hp
    obtain ⟨hpc, h3⟩ := Array.getElem?_eq_some_iff.1 h3
    simp only [List.getElem_take, Array.getElem_toList, List.getElem_map, List.getElem_range]
    rw [Array.getElem_setIfInBounds hpc, h3]
    by_cases e : i = p
    · subst e; simp [updN]
    · simp [e, updN, show ¬ p = i from fun h => e h.symm]
theorem OwnN.congr {M' : Nat → Int} (h : OwnN W base g n cap M) (hM : ∀ p, p < n → M p = M' p) : OwnN W base g n cap M' := by
  unfold OwnN at h ⊢
  rw [show ((List.range n).map fun p => Value.int .i64 (M' p)) = ((List.range n).map fun p => Value.int .i64 (M p)) from List.map_congr_left fun p hp => by rw [hM p (List.mem_range.1 hp)]]
  exact h
end
def revM (T : Nat → Int) (n i p : Nat) : Int := if p < i ∨ n ≤ p + i then T (n - 1 - p) else T p
theorem rev_step (T : Nat → Int) (n i : Nat) (hi : 2 * i + 1 < n) : ∀ p, p < n → updN (updN (revM T n i) i (T (n - 1 - i))) (n - 1 - i) (T i) p = revM T n (i + 1) p := by
  intro p hp
  unfold updN revM
  by_cases e1 : p = n - 1 - i
  · subst e1
    rw [if_pos rfl, if_pos (by omega), show n - 1 - (n - 1 - i) = i by omega]
  · rw [if_neg e1]
    by_cases e2 : p = i
    · subst e2
      rw [if_pos rfl, if_pos (by omega)]
    · rw [if_neg e2]
      by_cases h1 : p < i ∨ n ≤ p + i
      · rw [if_pos h1, if_pos (by omega)]
      · rw [if_neg h1, if_neg (by omega)]
set_option maxRecDepth 100000 in
set_option maxHeartbeats 4000000 in
theorem reverse_any (base g n cap : Nat) (T : Nat → Int) (w : World) (hn : n ≤ 1000000) (ho : OwnN w base g n cap T) :
    Calls Try.prog 68 #[.slice (some ⟨g, 0, none⟩) n cap] w fun e w' => e = .returned (.tuple #[]) ∧ Below base w w' ∧ OwnN w' base g n cap (fun p => T (n - 1 - p)) := by
  have Ho := Lib.hid ho
  have hbg := ho.parts.1
  clear ho
  have i0 : IntKind.i64.wrap ((n : Int) - 1) = (n : Int) - 1 := by rw [IntKind.wrap_i64]; omega
  go_enter Try.func68, Try.ntmps68
  go_wp2_with fail
  refine loop_n (fun m a W => a.defers = [] ∧ ∃ (i : Nat) (j : Int), i + m = n ∧ j = (n : Int) - 1 - (i : Int) ∧ 2 * i ≤ n + 1 ∧ Below base w W ∧ OwnN W base g n cap (revM T n i) ∧ Fits (some (.slice (some ⟨g, 0, none⟩) n cap) :: none :: some (.int .i64 (i : Nat)) :: some (.int .i64 j) :: none :: none :: none :: none :: none :: none :: none :: none :: none :: none :: none :: none :: none :: none :: none :: none :: none :: none :: none :: none :: none :: none :: none :: none :: []) a.tmps.toList) n ?_ ?_
  · refine ⟨rfl, 0, (n : Int) - 1, by omega, by omega, by omega, Below.refl _ _, Ho.out.congr (fun p hp => by unfold revM; rw [if_neg (by omega)]), ?_⟩
    repeat (first | exact fits_nil | refine fits_none ?_ | refine fits_some ?_)
  clear i0
  intro m a W hI K hK
  obtain ⟨hds, i, j, him, hj, h2i, hb, ho, hfit⟩ := hI
  obtain ⟨f, hf⟩ := fits_act hfit
  rw [hds] at hf
  subst hf
  clear hfit hds
  simp only [fillP, Nat.reduceAdd]
  obtain ⟨c2, c3, c0⟩ := ho.cells
  have HO := Lib.hid ho
  have HB := Lib.hid hb
  by_cases hlt : 2 * i + 1 < n
  · obtain ⟨k, hk⟩ : ∃ k, n - 1 - i = k := ⟨_, rfl⟩
    have hjk : j = (k : Int) := by omega
    have hki : k < n := by omega
    have hkn : k ≠ i := by omega
    have d0 := c0 i (by omega)
    have d1 := c0 k hki
    have e0 : revM T n i i = T i := by unfold revM; rw [if_neg (by omega)]
    have e1 : revM T n i k = T k := by unfold revM; rw [if_neg (by omega)]
    rw [e0] at d0
    rw [e1] at d1
    have d2 := c3 i
    have d3 := c3 k
    have HS := Lib.hid (show OwnN ((W.setCell ⟨g, i, none⟩ (.int .i64 (T k))).setCell ⟨g, k, none⟩ (.int .i64 (T i))) base g n cap (revM T n (i + 1)) from ((ho.set i (T k)).set k (T i)).congr (by rw [← hk]; exact rev_step T n i hlt))
    have i1 : (i : Int) < (k : Int) := by omega
    have i2 : (0 : Int) ≤ (i : Int) := by omega
    have i3 : IntKind.i64.wrap ((i : Int) + 1) = (i : Int) + 1 := by rw [IntKind.wrap_i64]; omega
    have i4 : IntKind.i64.wrap ((k : Int) - 1) = (k : Int) - 1 := by rw [IntKind.wrap_i64]; omega
    have i5 : (k : Int) < (n : Int) := by omega
    have i6 : (i : Int) < (n : Int) := by omega
    have i7 : (0 : Int) ≤ (k : Int) := by omega
    have Hk := Lib.hid hk
    subst hjk
    clear hb ho c0 c3 e0 e1 hk hj HO
    go_wp2_with fail
    go_region
    go_wp2
    have hk2 := Hk.out
    refine hK _ _ (m - 1) (by omega) ⟨rfl, i + 1, (k : Int) - 1, by omega, by omega, by omega, ((HB.out.setCell hbg _).setCell hbg _).drew, HS.out.later (brefl _).drew, ?_⟩
    repeat (first | exact fits_nil | refine fits_none ?_ | refine fits_some ?_)
  · have j1 : ¬ ((i : Int) < j) := by omega
    have HE := Lib.hid (ho.congr (M' := fun p => T (n - 1 - p)) (fun p hp => by
      unfold revM
      by_cases h1 : p < i ∨ n ≤ p + i
      · rw [if_pos h1]
      · rw [if_neg h1, show n - 1 - p = p by omega]))
    clear hK hb ho c0 c3 hj
    go_wp2
    go_end0
    exact ⟨rfl, HB.out, HE.out⟩
set_option maxHeartbeats 1000000 in
theorem reverse_nil (w : World) :
    Calls Try.prog 68 #[.slice none 0 0] w fun e w' => e = .returned (.tuple #[]) ∧ Below w.heap.size w w' := by
  go_enter Try.func68, Try.ntmps68
  go_wp2_with fail
  refine wp_loop_rounds 1 ?_
  rw [rounds_succ]
  go_wp2
  go_end0
  exact ⟨rfl, brefl _⟩
end Go.Proofs.Ytbbdlebmagknmaa
