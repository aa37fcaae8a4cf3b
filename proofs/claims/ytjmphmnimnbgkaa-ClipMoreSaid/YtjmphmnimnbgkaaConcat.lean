/- slices.Grow of nil, and slices.Concat of two slices of one block, at int. -/
import Derived.Test.YtjmphmnimnbgkaaPrices
import Derived.Lib.AppendZeros
namespace Go.Proofs.Ytjmphmnimnbgkaa
open Go.RowKit Go.Shelf

theorem info_int : (Try.prog.info? 3).map (fun i => (i.zero, i.size, i.bytes)) = some (some (.int .i64 0), 1, 8) := by kernel_rfl
theorem und_ints : Try.prog.underlying 22 = some (.slice 3) := by kernel_rfl
theorem und_int : Try.prog.underlying 3 = some (.int .i64) := by kernel_rfl

set_option maxHeartbeats 1000000 in
theorem grow_nil (n : Nat) (hn : n ≤ 1000) (w : World) :
    Calls Try.prog 88 #[.slice none 0 0, .int .i64 n] w fun e w' => ∃ v, e = .returned v ∧ Below w.heap.size w w' ∧ w'.ownsRow w.heap.size 3 1 v 0 [] := by
  by_cases h0 : n = 0
  · subst h0
    go_enter Try.func88, Try.ntmps88
    go_wp2
    go_ret
    exact ⟨_, rfl, brefl _, World.ownsRow_nil _ _ _ _⟩
  · obtain ⟨i0, hi, hz0, hz1, hz2⟩ := info_parts info_int
    have hr := fun ty => Lib.run_append_nil_zeros (P := Try.prog) w 22 3 ty 3 i0 (.int .i64 0) .i64 .i64 und_ints und_int hi hz0 n (by omega) (by omega) (by omega) (by rw [hz2]; omega)
    have hge := grownCap_ge w n 0 3
    have hle := grownCap_le_maxLen w n 0 3 (by simp only [maxLen]; omega)
    generalize grownCap w n 0 3 = cap at *
    have hpos : (0 : Int) < (n : Int) := by omega
    have hd1 : decide ((n : Int) < 0) = false := by simp
    have hd2 : decide ((0 : Int) < (n : Int)) = true := by simp; omega
    have hfin : (w.drew.alloc (.cells (Builtin.zeroCells (Value.int .i64 0).cells n ++ Builtin.zeroCells (Value.int .i64 0).cells (cap - n)) 3)).ownsRow w.heap.size 3 1 (.slice (some ⟨w.heap.size, 0, none⟩) 0 cap) 0 [] := by
      have := World.ownsRow_made (base := w.heap.size) (e := 3) (size := 1) w.drew (Builtin.zeroCells (Value.int .i64 0).cells n ++ Builtin.zeroCells (Value.int .i64 0).cells (cap - n)) cap (by simp) hle (by simp [size_zeroCells, Value.cells]; omega)
      simpa using this
    have Hfin := Lib.hid hfin
    have Hr := Lib.hid hr
    clear hfin hr hge hle hi hz0 hz1 hz2
    go_enter Try.func88, Try.ntmps88
    go_wp2_with (at_builtin; refine Lib.wpList_append_run _ rfl _ _ 22 3 rfl _ _ rfl rfl _ _ (Hr.out _) ?_)
    go_ret
    exact ⟨_, rfl, balloc (bdrew (brefl w) 1) _, Hfin.out⟩

/-- What stands while two slices are put together. -/
structure CO (w W : World) (B b : Nat) (o1 n1 c1 o2 n2 c2 : Nat) (xs ys : List Int) : Prop where
  bel : Below w.heap.size w W
  s1 : W.cell? ⟨B, 0, none⟩ = some (.slice (some ⟨b, o1, none⟩) n1 c1)
  s2 : W.cell? ⟨B, 1, none⟩ = some (.slice (some ⟨b, o2, none⟩) n2 c2)
  e1 : ∀ i x, xs[i]? = some x → W.cell? ⟨b, o1 + i, none⟩ = some (.int .i64 x)
  e2 : ∀ i x, ys[i]? = some x → W.cell? ⟨b, o2 + i, none⟩ = some (.int .i64 x)
  lB : B < W.heap.size
  lb : b < W.heap.size
theorem CO.grown {w W W' : World} {B b o1 n1 c1 o2 n2 c2 : Nat} {xs ys : List Int} {row : Option Nat} (h : CO w W B b o1 n1 c1 o2 n2 c2 xs ys) (hB : B < w.heap.size) (hb : b < w.heap.size) (hg : W.grownBy W' row) (hr : ∀ k, row = some k → w.heap.size ≤ k) : CO w W' B b o1 n1 c1 o2 n2 c2 xs ys := by
  have hBl : Below w.heap.size W W' := ⟨hg.os, hg.tape, hg.output, hg.size, fun k hk => hg.block k (by have := h.bel.size; omega) (fun e => by have := hr k e.symm; omega)⟩
  exact ⟨h.bel.trans hBl, (hBl.cell (p := ⟨B, 0, none⟩) hB).trans h.s1, (hBl.cell (p := ⟨B, 1, none⟩) hB).trans h.s2, fun i x hx => (hBl.cell (p := ⟨b, o1 + i, none⟩) hb).trans (h.e1 i x hx), fun i x hx => (hBl.cell (p := ⟨b, o2 + i, none⟩) hb).trans (h.e2 i x hx), by have := h.lB; have := hg.size; omega, by have := h.lb; have := hg.size; omega⟩

theorem ints_add {W : World} {b o : Nat} {xs : List Int} (h : ∀ i x, xs[i]? = some x → W.cell? ⟨b, o + i, none⟩ = some (.int .i64 x)) : ∀ j u, (xs.map (Value.int .i64))[j]? = some u → W.cell? ((⟨b, o, none⟩ : Addr).add j) = some u := by
  intro j u hu
  rw [List.getElem?_map, Option.map_eq_some_iff] at hu
  obtain ⟨x, hx, rfl⟩ := hu
  have hadd : (⟨b, o, none⟩ : Addr).add j = ⟨b, o + j, none⟩ := by unfold Addr.add; split <;> simp_all
  rw [hadd]
  exact h j x hx
theorem ints_one (xs : List Int) : ∀ u ∈ xs.map (Value.int .i64), u.oneCell' = true := by
  intro u hu
  obtain ⟨x, _, rfl⟩ := List.mem_map.1 hu
  rfl

set_option maxHeartbeats 1000000 in
theorem concat_two (B b o1 n1 c1 o2 n2 c2 : Nat) (xs ys : List Int) (w : World) (h : CO w w B b o1 n1 c1 o2 n2 c2 xs ys) (hx : xs.length = n1) (hy : ys.length = n2) (hn : n1 + n2 ≤ 100) :
    Calls Try.prog 73 #[.slice (some ⟨B, 0, none⟩) 2 2] w fun e w' => ∃ v, e = .returned v ∧ Below w.heap.size w w' ∧ w'.ownsRow w.heap.size 3 1 v (n1 + n2) ((xs ++ ys).map (.int .i64)) := by
  have hs1 := h.s1
  have hs2 := h.s2
  have hlB := h.lB
  have hlb := h.lb
  have H := Lib.hid h
  clear h
  obtain ⟨i0, hi0, hz0, hz1, hz2⟩ := info_parts info_int
  have q1 : decide (((n1 : Nat) : Int) < 0) = false := by simp
  have q2 : decide (((n1 : Nat) : Int) + ((n2 : Nat) : Int) < 0) = false := by simp; omega
  go_enter Try.func73, Try.ntmps73
  go_wp2_with fail
  refine loop_n (fun n a W => w = W ∧ a.defers = [] ∧ ∃ i : Nat, i + n = 2 ∧ Fits (some (.slice (some ⟨B, 0, none⟩) 2 2) :: none :: none :: some (.int .i64 (if i = 0 then 0 else if i = 1 then (n1 : Int) else (n1 : Int) + (n2 : Int))) :: none :: none :: none :: none :: none :: some (.slice (some ⟨B, 0, none⟩) 2 2) :: some (.int .i64 2) :: some (.int .i64 (i : Nat)) :: none :: none :: none :: none :: none :: none :: none :: none :: none :: none :: none :: none :: none :: none :: none :: none :: none :: none :: none :: none :: none :: none :: none :: none :: []) a.tmps.toList) 2 ?_ ?_
  · refine ⟨rfl, rfl, 0, by omega, ?_⟩
    repeat (first | exact fits_nil | refine fits_none ?_ | refine fits_some ?_)
  intro n a W hI K hK
  obtain ⟨rfl, hds, i, hin, hfit⟩ := hI
  obtain ⟨f, hf⟩ := fits_act hfit
  rw [hds] at hf
  subst hf
  clear hfit hds
  simp only [fillP, Nat.reduceAdd]
  match i, hin with
  | 0, hin =>
    go_wp2
    refine hK _ _ 1 (by omega) ⟨rfl, rfl, 1, by omega, ?_⟩
    repeat (first | exact fits_nil | refine fits_none ?_ | refine fits_some ?_)
  | 1, hin =>
    go_wp2
    refine hK _ _ 0 (by omega) ⟨rfl, rfl, 2, by omega, ?_⟩
    repeat (first | exact fits_nil | refine fits_none ?_ | refine fits_some ?_)
  | 2, hin =>
    clear hK
    go_wp2_with fail
    have hgr := grow_nil (n1 + n2) (by omega) w
    rw [Int.natCast_add] at hgr
    refine hgr.mono ?_
    clear hgr
    rintro e w1 ⟨v, rfl, hb1, hown⟩
    have HN1 : CO w w1 B b o1 n1 c1 o2 n2 c2 xs ys := H.out.grown hlB hlb (row := none) ⟨hb1.os, hb1.tape, hb1.output, hb1.size, fun k hk _ => hb1.block k hk⟩ (fun k e => by cases e)
    have HN := Lib.hid HN1
    have Hown := Lib.hid hown
    clear HN1 hown hb1 hs1 hs2
    go_wp2_with fail
    refine loop_n (fun n a W => ∃ i v, i + n = 2 ∧ Fits (none :: none :: none :: none :: none :: none :: some (v) :: none :: none :: none :: none :: none :: none :: none :: none :: none :: none :: none :: none :: none :: none :: none :: none :: none :: none :: some (.slice (some ⟨B, 0, none⟩) 2 2) :: some (.int .i64 2) :: some (.int .i64 (i : Nat)) :: none :: none :: none :: none :: none :: none :: none :: none :: []) a.tmps.toList ∧ a.defers = [] ∧ CO w W B b o1 n1 c1 o2 n2 c2 xs ys ∧
      ((i = 0 ∧ W.ownsRow w.heap.size 3 1 v 0 []) ∨ (i = 1 ∧ W.ownsRow w.heap.size 3 1 v n1 (xs.map (.int .i64))) ∨ (i = 2 ∧ W.ownsRow w.heap.size 3 1 v (n1 + n2) ((xs ++ ys).map (.int .i64))))) 2 ?_ ?_
    · refine ⟨0, v, by omega, ?_, rfl, HN.out, .inl ⟨rfl, Hown.out⟩⟩
      repeat (first | exact fits_nil | refine fits_none ?_ | refine fits_some ?_)
    clear HN Hown
    intro n a W hI K hK
    obtain ⟨i, v, hin, hfit, hds, hN, hcs⟩ := hI
    obtain ⟨f, hf⟩ := fits_act hfit
    rw [hds] at hf
    subst hf
    clear hfit hds
    simp only [fillP, Nat.reduceAdd]
    rcases hcs with ⟨rfl, hown⟩ | ⟨rfl, hown⟩ | ⟨rfl, hown⟩
    · have s1 := hN.s1
      have s2 := hN.s2
      have zB := hN.lB
      have HN := Lib.hid hN
      have Hown := Lib.hid hown
      have Hadd := Lib.hid (ints_add hN.e1)
      have hrow : ∀ k, v.ownBlock = some k → w.heap.size ≤ k := fun k hk => (hown.lt k hk).1
      have Hrow := Lib.hid hrow
      clear hN hown hrow
      go_wp2_with (at_builtin; refine wpList_append_own _ rfl _ _ 22 rfl w.heap.size 3 i0 (.int .i64 0) 1 8 und_ints hi0 hz0 hz1 hz2 rfl (by decide) v 0 _ rfl Hown.out ⟨b, o1, none⟩ n1 c1 (xs.map (.int .i64)) rfl (by simp [hx]) Hadd.out (ints_one xs) (by simp only [maxLen]; omega) (by omega) (by have := HN.out.bel.size; omega) ?_; intro v2 w4 hown2 hgr _; have HN4 := Lib.hid (HN.out.grown hlB hlb hgr Hrow.out); have Hown4 := Lib.hid hown2; clear hown2 hgr)
      refine hK _ _ 1 (by omega) ⟨1, v2, by omega, ?_, rfl, HN4.out, .inr (.inl ⟨rfl, by simpa using Hown4.out⟩)⟩
      repeat (first | exact fits_nil | refine fits_none ?_ | refine fits_some ?_)
    · have s1 := hN.s1
      have s2 := hN.s2
      have zB := hN.lB
      have HN := Lib.hid hN
      have Hown := Lib.hid hown
      have Hadd := Lib.hid (ints_add hN.e2)
      have hrow : ∀ k, v.ownBlock = some k → w.heap.size ≤ k := fun k hk => (hown.lt k hk).1
      have Hrow := Lib.hid hrow
      clear hN hown hrow
      go_wp2_with (at_builtin; refine wpList_append_own _ rfl _ _ 22 rfl w.heap.size 3 i0 (.int .i64 0) 1 8 und_ints hi0 hz0 hz1 hz2 rfl (by decide) v n1 _ rfl Hown.out ⟨b, o2, none⟩ n2 c2 (ys.map (.int .i64)) rfl (by simp [hy]) Hadd.out (ints_one ys) (by simp only [maxLen]; omega) (by omega) (by have := HN.out.bel.size; omega) ?_; intro v2 w4 hown2 hgr _; have HN4 := Lib.hid (HN.out.grown hlB hlb hgr Hrow.out); have Hown4 := Lib.hid hown2; clear hown2 hgr)
      refine hK _ _ 0 (by omega) ⟨2, v2, by omega, ?_, rfl, HN4.out, .inr (.inr ⟨rfl, by simpa using Hown4.out⟩)⟩
      repeat (first | exact fits_nil | refine fits_none ?_ | refine fits_some ?_)
    · have HN := Lib.hid hN
      have Hown := Lib.hid hown
      clear hN hown hK
      go_wp2
      go_ret
      exact ⟨v, rfl, HN.out.bel, Hown.out⟩
  | i + 3, hin => omega
end Go.Proofs.Ytjmphmnimnbgkaa
